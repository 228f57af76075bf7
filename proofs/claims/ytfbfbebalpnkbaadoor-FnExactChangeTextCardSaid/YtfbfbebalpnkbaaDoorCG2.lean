/- The functions of the program in plain Lean, and that the machine answers as they do; conditions at each theorem. -/
import Derived.Test.YtfbfbebalpnkbaaDoorCG1
set_option linter.unusedVariables false
set_option linter.unusedSimpArgs false
namespace Go.Am.Try
open Go.Am Go.Proofs
set_option linter.unusedVariables false
set_option maxRecDepth 20000
set_option maxHeartbeats 2000000
noncomputable section
def jt (F : Int → Option (List UInt8)) : Prop := ∀ (a0 : Int), Oc (F a0) 52 [] [vi a0] fun r => (.val false [.own 1 (eL za r)], [])
def wn (G_spec_l2digits : Int → Option (List UInt8)) (a0 : Int) : Option (List UInt8) :=
 if a0 < 0 then
  (G_spec_l2digits (w64 (0 - a0))).bind fun r2 =>
  if zq 1 ([(45 : UInt8)].length + r2.length) then
  some ([(45 : UInt8)] ++ r2)
  else none
 else
 if a0 < 10 then
  some [(b8 (w64 (48 + a0)))]
 else
 (G_spec_l2digits (w64 (a0.tdiv 10))).bind fun r3 =>
 if zq 1 (r3.length + [(b8 (w64 (48 + (a0.tmod 10))))].length) then
 some (r3 ++ [(b8 (w64 (48 + (a0.tmod 10))))])
 else none
theorem K1 (G_spec_l2digits : Int → Option (List UInt8)) (H_spec_l2digits : jt G_spec_l2digits) : jt (wn G_spec_l2digits) := fun a0 => tc (
 .lI a0 0 (fun c1 =>
  .cl (H_spec_l2digits (w64 (0 - a0))) fun r2 =>
  .pl zf r2 <|
  .ap 1 zf [(45 : UInt8)] r2 fun n3 =>
  .ret ([(45 : UInt8)] ++ r2)) fun c1 =>
 .lI a0 10 (fun c2 =>
  .ret [(b8 (w64 (48 + a0)))]) fun c2 =>
 .q ⟨.nz 10, .b true, rfl⟩ <|
 .cl (H_spec_l2digits (w64 (a0.tdiv 10))) fun r3 =>
 .q ⟨.nz 10, .b true, rfl⟩ <|
 .pl zf [(b8 (w64 (48 + (a0.tmod 10))))] <|
 .ap 1 zf r3 [(b8 (w64 (48 + (a0.tmod 10))))] fun n4 =>
 .ret (r3 ++ [(b8 (w64 (48 + (a0.tmod 10))))])) (zr Tryd.func52)
def yk : Nat → Int → Option (List UInt8)
 | 0, _ => none
 | n + 1, a0 => wn (yk n) a0
theorem QG (n : Nat) : jt (yk n) := by
 induction n with
 | zero => exact fun _ _ h => (by rw [yk] at h; cases h)
 | succ n ih =>
  have ih_spec_l2digits := ih
  exact fun a0 r h => K1 (yk n) ih_spec_l2digits a0 r (by rw [yk] at h; exact h)
theorem L6 {u : Nat} (h : u < 256) : b8 ((u : Nat) : Int) = UInt8.ofNat u := by
 unfold b8
 rw [show IntKind.u8.wrap ((u : Nat) : Int) = ((u : Nat) : Int) by unfold IntKind.wrap; simp [IntKind.bits, IntKind.signed]; omega]; rfl
theorem WL : ∀ (N u f : Nat), u < N → u <= 4611686018427387904 → u + 1 <= f → yk f ((u : Nat) : Int) = some (Lib.decDigits u) := by
 intro N
 induction N with
 | zero => intro u f h; omega
 | succ N ih =>
  intro u f h hu hf
  obtain ⟨f, rfl, hf'⟩ : ∃ n, f = n + 1 ∧ u <= n := ⟨f - 1, by omega, by omega⟩
  rw [show yk (f + 1) ((u : Nat) : Int) = wn (yk f) ((u : Nat) : Int) from rfl]
  unfold wn
  rw [if_neg (by omega)]
  by_cases c : u < 10
  ·rw [if_pos (by omega), Lib.decDigits_one c, yD (by omega) (by omega), show (48 : Int) + ((u : Nat) : Int) = ((48 + u : Nat) : Int) by omega, L6 (by omega)]
  ·have e1 : ((u : Nat) : Int).tdiv 10 = ((u / 10 : Nat) : Int) := rfl
   have e2 : ((u : Nat) : Int).tmod 10 = ((u % 10 : Nat) : Int) := rfl
   have e3 : Lib.decDigits u = Lib.decDigits (u / 10) ++ [UInt8.ofNat (48 + u % 10)] := by rw [Lib.decDigits, dif_neg c]
   have hl : (Lib.decDigits (u / 10)).length <= 20 := by rw [Lib.decDigits_length]; exact U9 (by omega)
   rw [if_neg (by omega), e1, e2, yD (x := ((u / 10 : Nat) : Int)) (by omega) (by omega), ih (u / 10) f (by omega) (by omega) (by omega), Option.bind_some, yD (x := 48 + ((u % 10 : Nat) : Int)) (by omega) (by omega), show (48 : Int) + ((u % 10 : Nat) : Int) = ((48 + u % 10 : Nat) : Int) by omega, L6 (by omega), if_pos (zt (by decide) (by simp only [List.length_cons, List.length_nil]; omega)), e3]
def wo (a0 : Int) : Option (List UInt8) := if -4611686018427387904 <= a0 ∧ a0 <= 4611686018427387904 then some (Lib.itoa a0) else none
theorem QY {n : Int} (h0 : -4611686018427387904 <= n) (h1 : n <= 4611686018427387904) : wo n = some (Lib.itoa n) := if_pos ⟨h0, h1⟩
theorem WM (a0 : Int) (r : (List UInt8)) (h : wo a0 = some r) : ∃ n, yk n a0 = some r := by
 unfold wo at h
 obtain ⟨⟨h0, h1⟩, h⟩ := zM h
 refine ⟨a0.natAbs + 2, ?_⟩
 rw [<- h]
 unfold Lib.itoa
 by_cases c : a0 < 0
 ·rw [if_pos c, show yk (a0.natAbs + 2) a0 = wn (yk (a0.natAbs + 1)) a0 from rfl]
  unfold wn
  have hl : (Lib.decDigits a0.natAbs).length <= 20 := by rw [Lib.decDigits_length]; exact U9 (by omega)
  rw [if_pos c, yD (by omega) (by omega), show (0 : Int) - a0 = ((a0.natAbs : Nat) : Int) by omega, WL _ _ _ (Nat.lt_succ_self _) (by omega) (by omega), Option.bind_some, if_pos (zt (by decide) (by simp only [List.length_cons, List.length_nil]; omega))]; rfl
 ·rw [if_neg c]
  have := WL _ a0.toNat (a0.natAbs + 2) (Nat.lt_succ_self _) (by omega) (by omega)
  rw [show ((a0.toNat : Nat) : Int) = a0 by omega] at this
  exact this
theorem ZU : jt wo := by
 intro a0 r h
 obtain ⟨n, hn⟩ := WM a0 r h
 exact (QG n) a0 r hn
def XR (F : (List GStep) → Option (List UInt8)) : Prop := ∀ (a0 : (List GStep)), Oc (F a0) 23 [] [vq zb a0] fun r => (.val false [.own 1 (eL za r)], [])
def yH (a0 : (List GStep)) : Nat → Int → (List UInt8) → Option (Int × (List UInt8))
  | 0, _, _ => none
  | m + 1, v1, v2 =>
  if v1 < (a0.length : Int) then
   (z7 v1).bind fun i2 =>
   (a0[i2]?).bind fun x3 =>
   if x3.Kind = 0 then
    if zq 1 (v2.length + [(46 : UInt8)].length) then
    if zq 1 ((v2 ++ [(46 : UInt8)]).length + x3.Key.length) then
    yH a0 m (w64 (v1 + 1)) ((v2 ++ [(46 : UInt8)]) ++ x3.Key)
    else none
    else none
   else
   if zq 1 (v2.length + [(91 : UInt8)].length) then
   (wo x3.I).bind fun r6 =>
   if zq 1 ((v2 ++ [(91 : UInt8)]).length + r6.length) then
   if zq 1 (((v2 ++ [(91 : UInt8)]) ++ r6).length + [(93 : UInt8)].length) then
   yH a0 m (w64 (v1 + 1)) (((v2 ++ [(91 : UInt8)]) ++ r6) ++ [(93 : UInt8)])
   else none
   else none
   else none
  else
  some (v1, v2)
theorem QH (a0 : (List GStep)) (m : Nat) : ∀ (v1 : Int) (v2 : (List UInt8)), Ol (yH a0 m v1 v2) 23 (ye Tryd.f23 0) ⟨[(0, vq zb a0), (3, vr 0), (4, vi v1)], [.obj 1 (eL za v2)], 0⟩ fun o => match o with | ⟨o_0, o_1⟩ => (.exit 0, ⟨[(0, vq zb a0), (3, vr 0), (4, vi o_0), (8, vb false)], [.obj 1 (eL za o_1)], 0⟩) := by
  induction m with
  | zero => intro v1 v2 o h; cases h
  | succ m ih => exact fun v1 v2 => tlp (
   .le zb a0 <|
   .lI v1 (a0.length : Int) (fun c1 =>
    .na v1 fun i2 =>
    .ix yv a0 i2 fun x3 =>
    .eI x3.Kind 0 (fun c4 =>
     .pl zf [(46 : UInt8)] <|
     .ap 1 zf v2 [(46 : UInt8)] fun n5 =>
     .ag 1 <|
     .ag 0 <|
     .ap 1 zf (v2 ++ [(46 : UInt8)]) x3.Key fun n6 =>
     .go (ih (w64 (v1 + 1)) ((v2 ++ [(46 : UInt8)]) ++ x3.Key))) fun c4 =>
    .pl zf [(91 : UInt8)] <|
    .ap 1 zf v2 [(91 : UInt8)] fun n5 =>
    .ag 1 <|
    .ag 0 <|
    .cl (ZU x3.I) fun r6 =>
    .pl zf r6 <|
    .ap 1 zf (v2 ++ [(91 : UInt8)]) r6 fun n7 =>
    .pl zf [(93 : UInt8)] <|
    .ap 1 zf ((v2 ++ [(91 : UInt8)]) ++ r6) [(93 : UInt8)] fun n8 =>
    .go (ih (w64 (v1 + 1)) (((v2 ++ [(91 : UInt8)]) ++ r6) ++ [(93 : UInt8)]))) fun c1 =>
   .ret (v1, v2))
def Zq (n : Nat) (a0 : (List GStep)) : Option (List UInt8) :=
 (yH a0 n 0 []).bind fun ⟨o1_0, o1_1⟩ =>
 some o1_1
theorem RN (n : Nat) : XR (Zq n) := fun a0 => tc (
 .lp (QH a0 n 0 []) fun ⟨o1_0, o1_1⟩ =>
 .ret o1_1) (zr Tryd.func23)
theorem UW {a : List GStep} (hI : Q5 a = true) (ha : zW a <= 2 ^ 30) : ∀ (l p : List GStep) (acc : List UInt8) (m : Nat), a = p ++ l → l.length < m → acc.length + 23 * zW l <= 2 ^ 38 → ∃ z, yH a m (p.length : Int) acc = some (z, acc ++ xe l) := by
 have hl := wk a
 intro l
 induction l with
 | nil =>
  intro p acc m he hm _
  obtain ⟨m, rfl, _⟩ := zo hm
  exact ⟨_, by rw [yH, he, List.append_nil, if_neg (by omega), xe, List.append_nil]⟩
 | cons x l ih =>
  intro p acc m he hm hb
  obtain ⟨m, rfl, hm'⟩ := zo hm
  have hlen : a.length = p.length + (l.length + 1) := by rw [he]; simp
  have hg : a[p.length]? = some x := by rw [he]; exact zZ p x l
  obtain ⟨h0, h1⟩ := U8 hI (x := x) (by rw [he]; simp)
  have hd := XI h0 h1
  simp only [zW, wA] at hb
  by_cases c : x.Kind = 0
  ·obtain ⟨z, hz⟩ := ih (p ++ [x]) (acc ++ [46] ++ x.Key) m (by rw [he]; simp) (by simp only [List.length_cons] at hm'; omega) (by simp only [List.length_append, List.length_cons, List.length_nil]; omega)
   refine ⟨z, ?_⟩
   rw [yH, if_pos (by omega), zg, Option.bind_some, hg, Option.bind_some, if_pos c, if_pos (zt (by decide) (by simp only [List.length_cons, List.length_nil]; omega)), if_pos (zt (by decide) (by simp only [List.length_append, List.length_cons, List.length_nil]; omega)), yj p x (by omega), hz, xe, stT, if_pos c]
   simp
  ·obtain ⟨z, hz⟩ := ih (p ++ [x]) (acc ++ [91] ++ Lib.itoa x.I ++ [93]) m (by rw [he]; simp) (by simp only [List.length_cons] at hm'; omega) (by simp only [List.length_append, List.length_cons, List.length_nil]; omega)
   refine ⟨z, ?_⟩
   rw [yH, if_pos (by omega), zg, Option.bind_some, hg, Option.bind_some, if_neg c, if_pos (zt (by decide) (by simp only [List.length_cons, List.length_nil]; omega)), QY h0 h1, Option.bind_some, if_pos (zt (by decide) (by simp only [List.length_append, List.length_cons, List.length_nil]; omega)), if_pos (zt (by decide) (by simp only [List.length_append, List.length_cons, List.length_nil]; omega)), yj p x (by omega), hz, xe, stT, if_neg c]
   simp
def qX (a0 : (List GStep)) : Option (List UInt8) := if zW a0 <= 2 ^ 30 ∧ Q5 a0 = true then some (xe a0) else none
theorem J1 (a0 : (List GStep)) (r : (List UInt8)) (h : qX a0 = some r) : ∃ n, Zq n a0 = some r := by
 unfold qX at h
 obtain ⟨⟨h0, h1⟩, h⟩ := zM h
 obtain ⟨z, hz⟩ := UW h1 h0 a0 [] [] (a0.length + 1) rfl (by omega) (by simp only [List.length_nil]; omega)
 refine ⟨a0.length + 1, ?_⟩
 unfold Zq
 simp only [List.length_nil, Int.natCast_zero, List.nil_append] at hz
 rw [hz]; exact h
theorem V8 : XR qX := fun a0 r h => (J1 a0 r h).elim fun n hn => RN n a0 r hn
def Y1 (F : (List UInt8) → Option (List UInt8)) : Prop := ∀ (a0 : (List UInt8)), Oc (F a0) 53 [] [vq za a0] fun r => (.val false [.own 1 (eL za r)], [])
def yl (a0 : (List UInt8)) : Nat → Int → (List UInt8) → Option (Int × (List UInt8))
  | 0, _, _ => none
  | m + 1, v1, v2 =>
  if v1 < (a0.length : Int) then
   (z7 v1).bind fun i2 =>
   (a0[i2]?).bind fun x3 =>
   if ((x3.toNat : Nat) : Int) = 34 then
    if zq 1 (v2.length + [(92 : UInt8)].length) then
    if zq 1 ((v2 ++ [(92 : UInt8)]).length + [x3].length) then
    yl a0 m (w64 (v1 + 1)) ((v2 ++ [(92 : UInt8)]) ++ [x3])
    else none
    else none
   else
   if ((x3.toNat : Nat) : Int) = 92 then
    if zq 1 (v2.length + [(92 : UInt8)].length) then
    if zq 1 ((v2 ++ [(92 : UInt8)]).length + [x3].length) then
    yl a0 m (w64 (v1 + 1)) ((v2 ++ [(92 : UInt8)]) ++ [x3])
    else none
    else none
   else
   if zq 1 (v2.length + [x3].length) then
   yl a0 m (w64 (v1 + 1)) (v2 ++ [x3])
   else none
  else
  some (v1, v2)
theorem Wb (a0 : (List UInt8)) (m : Nat) : ∀ (v1 : Int) (v2 : (List UInt8)), Ol (yl a0 m v1 v2) 53 (ye Tryd.f53 0) ⟨[(0, vq za a0), (3, vr 0), (4, vi v1)], [.obj 1 (eL za v2)], 0⟩ fun o => match o with | ⟨o_0, o_1⟩ => (.exit 0, ⟨[(0, vq za a0), (3, vr 0), (4, vi o_0), (9, vb false)], [.obj 1 (eL za o_1)], 0⟩) := by
  induction m with
  | zero => intro v1 v2 o h; cases h
  | succ m ih => exact fun v1 v2 => tlp (
   .le za a0 <|
   .lI v1 (a0.length : Int) (fun c1 =>
    .na v1 fun i2 =>
    .ix0 za a0 i2 fun x3 =>
    .eI ((x3.toNat : Nat) : Int) 34 (fun c4 =>
     .pl zf [(92 : UInt8)] <|
     .ap 1 zf v2 [(92 : UInt8)] fun n5 =>
     .ag 1 <|
     .ag 0 <|
     .pl zf [x3] <|
     .ap 1 zf (v2 ++ [(92 : UInt8)]) [x3] fun n6 =>
     .go (ih (w64 (v1 + 1)) ((v2 ++ [(92 : UInt8)]) ++ [x3]))) fun c4 =>
    .ag 1 <|
    .ag 0 <|
    .eI ((x3.toNat : Nat) : Int) 92 (fun c5 =>
     .pl zf [(92 : UInt8)] <|
     .ap 1 zf v2 [(92 : UInt8)] fun n6 =>
     .ag 1 <|
     .ag 0 <|
     .pl zf [x3] <|
     .ap 1 zf (v2 ++ [(92 : UInt8)]) [x3] fun n7 =>
     .go (ih (w64 (v1 + 1)) ((v2 ++ [(92 : UInt8)]) ++ [x3]))) fun c5 =>
    .ag 1 <|
    .ag 0 <|
    .pl zf [x3] <|
    .ap 1 zf v2 [x3] fun n6 =>
    .go (ih (w64 (v1 + 1)) (v2 ++ [x3]))) fun c1 =>
   .ret (v1, v2))
def vx (n : Nat) (a0 : (List UInt8)) : Option (List UInt8) :=
 (yl a0 n 0 [(34 : UInt8)]).bind fun ⟨o1_0, o1_1⟩ =>
 if zq 1 (o1_1.length + [(34 : UInt8)].length) then
 some (o1_1 ++ [(34 : UInt8)])
 else none
theorem K3 (n : Nat) : Y1 (vx n) := fun a0 => tc (
 .lp (Wb a0 n 0 [(34 : UInt8)]) fun ⟨o1_0, o1_1⟩ =>
 .pl zf [(34 : UInt8)] <|
 .ap 1 zf o1_1 [(34 : UInt8)] fun n2 =>
 .ret (o1_1 ++ [(34 : UInt8)])) (zr Tryd.func53)
theorem RO {a : List UInt8} (ha : a.length <= 2 ^ 30) : ∀ (l p acc : List UInt8) (m : Nat), a = p ++ l → l.length < m → acc.length + 2 * l.length <= 2 ^ 38 → ∃ z, yl a m (p.length : Int) acc = some (z, acc ++ Zu l) := by
 intro l
 induction l with
 | nil =>
  intro p acc m he hm _
  obtain ⟨m, rfl, _⟩ := zo hm
  exact ⟨_, by rw [yl, he, List.append_nil, if_neg (by omega), Zu, List.append_nil]⟩
 | cons x l ih =>
  intro p acc m he hm hb
  obtain ⟨m, rfl, hm'⟩ := zo hm
  have hlen : a.length = p.length + (l.length + 1) := by rw [he]; simp
  have hg : a[p.length]? = some x := by rw [he]; exact zZ p x l
  simp only [List.length_cons] at hb hm'
  have e1 : ((x.toNat : Nat) : Int) = 34 ↔ x = 34 := ⟨fun h => UInt8.toNat_inj.1 (by show x.toNat = 34; omega), fun h => by rw [h]; rfl⟩
  have e2 : ((x.toNat : Nat) : Int) = 92 ↔ x = 92 := ⟨fun h => UInt8.toNat_inj.1 (by show x.toNat = 92; omega), fun h => by rw [h]; rfl⟩
  by_cases c : x = 34 ∨ x = 92
  ·obtain ⟨z, hz⟩ := ih (p ++ [x]) (acc ++ [92] ++ [x]) m (by rw [he]; simp) (by omega) (by simp only [List.length_append, List.length_cons, List.length_nil]; omega)
   refine ⟨z, ?_⟩
   rw [yl, if_pos (by omega), zg, Option.bind_some, hg, Option.bind_some, if_pos (zt (by decide) (by simp only [List.length_cons, List.length_nil]; omega)), if_pos (zt (by decide) (by simp only [List.length_append, List.length_cons, List.length_nil]; omega)), yj p x (by omega), hz, Zu, if_pos c]
   rcases c with c | c
   ·rw [if_pos (e1.2 c)]; simp
   ·rw [if_pos (e2.2 c)]; simp
  ·obtain ⟨z, hz⟩ := ih (p ++ [x]) (acc ++ [x]) m (by rw [he]; simp) (by omega) (by simp only [List.length_append, List.length_cons, List.length_nil]; omega)
   refine ⟨z, ?_⟩
   rw [yl, if_pos (by omega), zg, Option.bind_some, hg, Option.bind_some, if_neg (fun h => c (.inl (e1.1 h))), if_neg (fun h => c (.inr (e2.1 h))), if_pos (zt (by decide) (by simp only [List.length_cons, List.length_nil]; omega)), yj p x (by omega), hz, Zu, if_neg c]
   simp
def qf (a0 : (List UInt8)) : Option (List UInt8) := if a0.length <= 2 ^ 30 then some (JJ a0) else none
theorem WN (a0 : (List UInt8)) (r : (List UInt8)) (h : qf a0 = some r) : ∃ n, vx n a0 = some r := by
 unfold qf at h
 obtain ⟨h0, h⟩ := zM h
 obtain ⟨z, hz⟩ := RO h0 a0 [] [34] (a0.length + 1) rfl (by omega) (by simp only [List.length_cons, List.length_nil]; omega)
 have hl := XH a0
 refine ⟨a0.length + 1, ?_⟩
 unfold vx
 simp only [List.length_nil, Int.natCast_zero] at hz
 rw [hz, Option.bind_some]
 dsimp only
 rw [if_pos (zt (by decide) (by simp only [List.length_append, List.length_cons, List.length_nil]; omega)), <- h]
 simp [JJ]
theorem J2 : Y1 qf := fun a0 r h => (WN a0 r h).elim fun n hn => K3 n a0 r hn
def jE (F : GValue → Option (List UInt8)) : Prop := ∀ (a0 : GValue), Oc (F a0) 24 [] [.val true (zH a0)] fun r => (.val false [.own 1 (eL za r)], [])
def zY (G_spec_l2say : GValue → Option (List UInt8)) (v0 : UInt8) (a0 : GValue) : Nat → Int → (List UInt8) → Option (Int × (List UInt8))
  | 0, _, _ => none
  | m + 1, v1, v3 =>
  if v1 < (a0.L.length : Int) then
   if 0 < v1 then
    if zq 1 (v3.length + [44, 32].length) then
    if a0.Kind = 5 then
     (z7 v1).bind fun i5 =>
     (a0.K[i5]?).bind fun x6 =>
     if zq 1 ((v3 ++ [44, 32]).length + x6.length) then
     if zq 1 (((v3 ++ [44, 32]) ++ x6).length + [32, 61, 32].length) then
     (a0.L[i5]?).bind fun x9 =>
     (G_spec_l2say x9).bind fun r10 =>
     if zq 1 ((((v3 ++ [44, 32]) ++ x6) ++ [32, 61, 32]).length + r10.length) then
     zY G_spec_l2say v0 a0 m (w64 (v1 + 1)) ((((v3 ++ [44, 32]) ++ x6) ++ [32, 61, 32]) ++ r10)
     else none
     else none
     else none
    else
    (z7 v1).bind fun i5 =>
    (a0.L[i5]?).bind fun x6 =>
    (G_spec_l2say x6).bind fun r7 =>
    if zq 1 ((v3 ++ [44, 32]).length + r7.length) then
    zY G_spec_l2say v0 a0 m (w64 (v1 + 1)) ((v3 ++ [44, 32]) ++ r7)
    else none
    else none
   else
   if a0.Kind = 5 then
    (z7 v1).bind fun i4 =>
    (a0.K[i4]?).bind fun x5 =>
    if zq 1 (v3.length + x5.length) then
    if zq 1 ((v3 ++ x5).length + [32, 61, 32].length) then
    (a0.L[i4]?).bind fun x8 =>
    (G_spec_l2say x8).bind fun r9 =>
    if zq 1 (((v3 ++ x5) ++ [32, 61, 32]).length + r9.length) then
    zY G_spec_l2say v0 a0 m (w64 (v1 + 1)) (((v3 ++ x5) ++ [32, 61, 32]) ++ r9)
    else none
    else none
    else none
   else
   (z7 v1).bind fun i4 =>
   (a0.L[i4]?).bind fun x5 =>
   (G_spec_l2say x5).bind fun r6 =>
   if zq 1 (v3.length + r6.length) then
   zY G_spec_l2say v0 a0 m (w64 (v1 + 1)) (v3 ++ r6)
   else none
  else
  some (v1, v3)
theorem ZV (G_spec_l2say : GValue → Option (List UInt8)) (H_spec_l2say : jE G_spec_l2say) (v0 : UInt8) (a0 : GValue) (m : Nat) : ∀ (v1 : Int) (v3 : (List UInt8)), Ol (zY G_spec_l2say v0 a0 m v1 v3) 24 (ye Tryd.f24 0) ⟨[(1, vp 0 0), (4, .val false [.int .u8 ((v0.toNat : Nat) : Int)]), (5, vr 1), (6, vi v1)], [.var (zH a0), .obj 1 (eL za v3)], 0⟩ fun o => match o with | ⟨o_0, o_1⟩ => (.exit 1, ⟨[(1, vp 0 0), (4, .val false [.int .u8 ((v0.toNat : Nat) : Int)]), (5, vr 1), (6, vi o_0), (44, vb false)], [.var (zH a0), .obj 1 (eL za o_1)], 0⟩) := by
  induction m with
  | zero => intro v1 v3 o h; cases h
  | succ m ih => exact fun v1 v3 => tlp (
   .le zd a0.L <|
   .lI v1 (a0.L.length : Int) (fun c1 =>
    .lI 0 v1 (fun c2 =>
     .os [44, 32] <|
     .ap 1 zf v3 [44, 32] fun n3 =>
     .eI a0.Kind 5 (fun c4 =>
      .na v1 fun i5 =>
      .ix0 (zL za) a0.K i5 fun x6 =>
      .ap 1 zf (v3 ++ [44, 32]) x6 fun n7 =>
      .os [32, 61, 32] <|
      .ap 1 zf ((v3 ++ [44, 32]) ++ x6) [32, 61, 32] fun n8 =>
      .ag 1 <|
      .ix zU a0.L i5 fun x9 =>
      .cl (H_spec_l2say x9) fun r10 =>
      .pl zf r10 <|
      .ap 1 zf (((v3 ++ [44, 32]) ++ x6) ++ [32, 61, 32]) r10 fun n11 =>
      .go (ih (w64 (v1 + 1)) ((((v3 ++ [44, 32]) ++ x6) ++ [32, 61, 32]) ++ r10))) fun c4 =>
     .na v1 fun i5 =>
     .ix zU a0.L i5 fun x6 =>
     .cl (H_spec_l2say x6) fun r7 =>
     .pl zf r7 <|
     .ap 1 zf (v3 ++ [44, 32]) r7 fun n8 =>
     .go (ih (w64 (v1 + 1)) ((v3 ++ [44, 32]) ++ r7))) fun c2 =>
    .eI a0.Kind 5 (fun c3 =>
     .na v1 fun i4 =>
     .ix0 (zL za) a0.K i4 fun x5 =>
     .ap 1 zf v3 x5 fun n6 =>
     .os [32, 61, 32] <|
     .ap 1 zf (v3 ++ x5) [32, 61, 32] fun n7 =>
     .ag 1 <|
     .ix zU a0.L i4 fun x8 =>
     .cl (H_spec_l2say x8) fun r9 =>
     .pl zf r9 <|
     .ap 1 zf ((v3 ++ x5) ++ [32, 61, 32]) r9 fun n10 =>
     .go (ih (w64 (v1 + 1)) (((v3 ++ x5) ++ [32, 61, 32]) ++ r9))) fun c3 =>
    .na v1 fun i4 =>
    .ix zU a0.L i4 fun x5 =>
    .cl (H_spec_l2say x5) fun r6 =>
    .pl zf r6 <|
    .ap 1 zf v3 r6 fun n7 =>
    .go (ih (w64 (v1 + 1)) (v3 ++ r6))) fun c1 =>
   .ret (v1, v3))
def vy (G_spec_l2say : GValue → Option (List UInt8)) (n : Nat) (a0 : GValue) : Option (List UInt8) :=
 if a0.Kind = 0 then
  some [(110 : UInt8), (117 : UInt8), (108 : UInt8), (108 : UInt8)]
 else
 if a0.Kind = 1 then
  (z7 a0.N).bind fun i3 =>
  ([[102, 97, 108, 115, 101], [116, 114, 117, 101]][i3]?).bind fun x4 =>
  some x4
 else
 if a0.Kind = 2 then
  (wo a0.N).bind fun r4 =>
  some r4
 else
 if a0.Kind = 3 then
  (qf a0.S).bind fun r5 =>
  some r5
 else
 if a0.Kind = 6 then
  some [(63 : UInt8)]
 else
 if a0.Kind = 5 then
  (zY G_spec_l2say (125 : UInt8) a0 n 0 [(123 : UInt8)]).bind fun ⟨o7_0, o7_1⟩ =>
  if zq 1 (o7_1.length + [(125 : UInt8)].length) then
  some (o7_1 ++ [(125 : UInt8)])
  else none
 else
 (zY G_spec_l2say (93 : UInt8) a0 n 0 [(91 : UInt8)]).bind fun ⟨o7_0, o7_1⟩ =>
 if zq 1 (o7_1.length + [(93 : UInt8)].length) then
 some (o7_1 ++ [(93 : UInt8)])
 else none
theorem Ur (G_spec_l2say : GValue → Option (List UInt8)) (H_spec_l2say : jE G_spec_l2say) (n : Nat) : jE (vy G_spec_l2say n) := fun a0 => tc (
 .eI a0.Kind 0 (fun c1 =>
  .le za [(110 : UInt8), (117 : UInt8), (108 : UInt8), (108 : UInt8)] <|
  .q (.lTo 0 (([(110 : UInt8), (117 : UInt8), (108 : UInt8), (108 : UInt8)].length : Nat) : Int) (by decide)) <|
  .ret [(110 : UInt8), (117 : UInt8), (108 : UInt8), (108 : UInt8)]) fun c1 =>
 .eI a0.Kind 1 (fun c2 =>
  .na a0.N fun i3 =>
  .ix0 Th [[102, 97, 108, 115, 101], [116, 114, 117, 101]] i3 fun x4 =>
  .ag 0 <|
  .os x4 <|
  .ret x4) fun c2 =>
 .eI a0.Kind 2 (fun c3 =>
  .cl (ZU a0.N) fun r4 =>
  .ret r4) fun c3 =>
 .eI a0.Kind 3 (fun c4 =>
  .cl (J2 a0.S) fun r5 =>
  .ret r5) fun c4 =>
 .eI a0.Kind 6 (fun c5 =>
  .le za [(63 : UInt8)] <|
  .q (.lTo 0 (([(63 : UInt8)].length : Nat) : Int) (by decide)) <|
  .ret [(63 : UInt8)]) fun c5 =>
 .eI a0.Kind 5 (fun c6 =>
  .lp (ZV G_spec_l2say H_spec_l2say (125 : UInt8) a0 n 0 [(123 : UInt8)]) fun ⟨o7_0, o7_1⟩ =>
  .pl zf [(125 : UInt8)] <|
  .ap 1 zf o7_1 [(125 : UInt8)] fun n8 =>
  .ret (o7_1 ++ [(125 : UInt8)])) fun c6 =>
 .lp (ZV G_spec_l2say H_spec_l2say (93 : UInt8) a0 n 0 [(91 : UInt8)]) fun ⟨o7_0, o7_1⟩ =>
 .pl zf [(93 : UInt8)] <|
 .ap 1 zf o7_1 [(93 : UInt8)] fun n8 =>
 .ret (o7_1 ++ [(93 : UInt8)])) (zr Tryd.func24)
def xb : Nat → GValue → Option (List UInt8)
 | 0, _ => none
 | n + 1, a0 => vy (xb n) n a0
theorem V9 (n : Nat) : jE (xb n) := by
 induction n with
 | zero => exact fun _ _ h => (by rw [xb] at h; cases h)
 | succ n ih =>
  have ih_spec_l2say := ih
  exact fun a0 r h => Ur (xb n) ih_spec_l2say n a0 r (by rw [xb] at h; exact h)
theorem K4 {G : GValue → Option (List UInt8)} {v0 : UInt8} {a : GValue} (hA : vsz a <= 2 ^ 20) (hk : a.Kind = 5 → a.K.length = a.L.length) (hG : ∀ x ∈ a.L, G x = some (y4 x) ∧ (y4 x).length <= 23 * vsz x + 21) :
  ∀ (l p : List GValue) (kp k : List (List UInt8)) (acc : List UInt8) (m : Nat), a.L = p ++ l → (a.Kind = 5 → a.K = kp ++ k ∧ kp.length = p.length) → l.length < m → acc.length + 30 * yw l + 23 * bsz k <= 2 ^ 38 →
  ∃ z, zY G v0 a m (p.length : Int) acc = some (z, acc ++ wu (decide (a.Kind = 5)) (decide (p = [])) k l) := by
 have hv := xR a
 have hl := yC a.L
 intro l
 induction l with
 | nil =>
  intro p kp k acc m he _ hm _
  obtain ⟨m, rfl, _⟩ := zo hm
  exact ⟨_, by rw [zY, he, List.append_nil, if_neg (by omega), wu, List.append_nil]⟩
 | cons x l ih =>
  intro p kp k acc m he hkk hm hb
  obtain ⟨m, rfl, hm'⟩ := zo hm
  have hlen : a.L.length = p.length + (l.length + 1) := by rw [he]; simp
  have hg : a.L[p.length]? = some x := by rw [he]; exact zZ p x l
  obtain ⟨g1, g2⟩ := hG x (by rw [he]; simp)
  simp only [yw, List.length_cons] at hb hm'
  have hp' : decide (p ++ [x] = []) = false := by simp
  by_cases c5 : a.Kind = 5
  ·obtain ⟨k1, k2⟩ := hkk c5
   have hkl := hk c5
   cases k with
   | nil => rw [k1, List.append_nil] at hkl; omega
   | cons y k =>
    rw [Yc] at hb
    have hgk : a.K[p.length]? = some y := by rw [k1, <- k2]; exact zZ kp y k
    have next := fun acc' ha => ih (p ++ [x]) (kp ++ [y]) k acc' m (by rw [he]; simp) (fun _ => ⟨by rw [k1]; simp, by simp [k2]⟩) (by omega) ha
    by_cases c0 : p = []
    ·subst c0
     obtain ⟨z, hz⟩ := next (acc ++ y ++ [32, 61, 32] ++ y4 x) (by simp only [List.length_append, List.length_cons, List.length_nil]; omega)
     refine ⟨z, ?_⟩
     rw [zY, if_pos (by omega), if_neg (by simp), if_pos c5, zg, Option.bind_some, hgk, Option.bind_some, if_pos (zt (by decide) (by omega)), if_pos (zt (by decide) (by simp only [List.length_append, List.length_cons, List.length_nil]; omega)), hg, Option.bind_some, g1, Option.bind_some, if_pos (zt (by decide) (by simp only [List.length_append, List.length_cons, List.length_nil]; omega)), yj [] x (by simp), hz, hp', wu, decide_eq_true c5]
     simp
    ·have hpos : (0 : Int) < (p.length : Int) := by have := List.length_pos_iff.2 c0; omega
     obtain ⟨z, hz⟩ := next (acc ++ [44, 32] ++ y ++ [32, 61, 32] ++ y4 x) (by simp only [List.length_append, List.length_cons, List.length_nil]; omega)
     refine ⟨z, ?_⟩
     rw [zY, if_pos (by omega), if_pos hpos, if_pos (zt (by decide) (by simp only [List.length_cons, List.length_nil]; omega)), if_pos c5, zg, Option.bind_some, hgk, Option.bind_some, if_pos (zt (by decide) (by simp only [List.length_append, List.length_cons, List.length_nil]; omega)), if_pos (zt (by decide) (by simp only [List.length_append, List.length_cons, List.length_nil]; omega)), hg, Option.bind_some, g1, Option.bind_some, if_pos (zt (by decide) (by simp only [List.length_append, List.length_cons, List.length_nil]; omega)), yj p x (by omega), hz, hp', wu, decide_eq_true c5, decide_eq_false c0]
     simp
  ·have next := fun acc' ha => ih (p ++ [x]) kp k.tail acc' m (by rw [he]; simp) (fun e => absurd e c5) (by omega) ha
   have hbt := UA k
   by_cases c0 : p = []
   ·subst c0
    obtain ⟨z, hz⟩ := next (acc ++ y4 x) (by simp only [List.length_append]; omega)
    refine ⟨z, ?_⟩
    rw [zY, if_pos (by omega), if_neg (by simp), if_neg c5, zg, Option.bind_some, hg, Option.bind_some, g1, Option.bind_some, if_pos (zt (by decide) (by omega)), yj [] x (by simp), hz, hp', wu, decide_eq_false c5]
    simp
   ·have hpos : (0 : Int) < (p.length : Int) := by have := List.length_pos_iff.2 c0; omega
    obtain ⟨z, hz⟩ := next (acc ++ [44, 32] ++ y4 x) (by simp only [List.length_append, List.length_cons, List.length_nil]; omega)
    refine ⟨z, ?_⟩
    rw [zY, if_pos (by omega), if_pos hpos, if_pos (zt (by decide) (by simp only [List.length_cons, List.length_nil]; omega)), if_neg c5, zg, Option.bind_some, hg, Option.bind_some, g1, Option.bind_some, if_pos (zt (by decide) (by simp only [List.length_append, List.length_cons, List.length_nil]; omega)), yj p x (by omega), hz, hp', wu, decide_eq_false c5, decide_eq_false c0]
    simp
theorem Pq : ∀ (d : Nat) (v : GValue) (f : Nat), shV d v = true → vsz v <= 2 ^ 20 → vsz v + 3 <= f → xb f v = some (y4 v)
 | 0, v, f, h, _, _ => by cases h
 | d + 1, v, f, h, hs, hf => by
  obtain ⟨f, rfl, hf'⟩ : ∃ n, f = n + 1 ∧ vsz v + 2 <= n := ⟨f - 1, by omega, by omega⟩
  have hlen := jM (d + 1) v h
  rw [shV, Bool.and_eq_true, List.all_eq_true] at h
  obtain ⟨h1, h2⟩ := h
  obtain ⟨l1, l2, l3, l4⟩ := VN h1
  have hv := xR v
  have hvl := yC v.L
  have hG : ∀ x ∈ v.L, xb f x = some (y4 x) ∧ (y4 x).length <= 23 * vsz x + 21 := fun x hx => by
   have := wy hx
   exact ⟨Pq d x f (h2 x hx) (by omega) (by omega), jM d x (h2 x hx)⟩
  rw [show xb (f + 1) v = vy (xb f) f v from rfl]
  unfold vy
  rw [VM] at hlen ⊢
  by_cases k0 : v.Kind = 0
  ·rw [if_pos k0, if_pos k0]
  rw [if_neg k0, if_neg k0]
  rw [if_neg k0] at hlen
  by_cases k1 : v.Kind = 1
  ·rw [if_pos k1, if_pos k1]
   by_cases c : v.N = 1
   ·rw [c]; rfl
   ·have : v.N = 0 := by have := l1 k1; omega
    rw [this]; rfl
  rw [if_neg k1, if_neg k1]
  rw [if_neg k1] at hlen
  by_cases k2 : v.Kind = 2
  ·have := l2 k2
   rw [if_pos k2, if_pos k2, QY (by omega) (by omega)]; rfl
  rw [if_neg k2, if_neg k2]
  rw [if_neg k2] at hlen
  by_cases k3 : v.Kind = 3
  ·rw [if_pos k3, if_pos k3, show qf v.S = some (JJ v.S) from if_pos (by omega)]; rfl
  rw [if_neg k3, if_neg k3]
  rw [if_neg k3] at hlen
  by_cases k6 : v.Kind = 6
  ·rw [if_pos k6, if_pos k6]
  rw [if_neg k6, if_neg k6]
  rw [if_neg k6] at hlen
  by_cases k5 : v.Kind = 5
  ·rw [if_pos k5, if_pos k5]
   rw [if_pos k5] at hlen
   obtain ⟨z, hz⟩ := K4 (v0 := 125) hs l3 hG v.L [] [] v.K [123] f rfl (fun _ => ⟨rfl, rfl⟩) (by omega) (by simp only [List.length_cons, List.length_nil]; omega)
   simp only [List.length_nil, Int.natCast_zero] at hz
   simp only [List.length_cons, List.length_append, List.length_nil] at hlen
   rw [hz, Option.bind_some, decide_eq_true k5]
   dsimp only
   rw [if_pos (zt (by decide) (by simp only [List.length_append, List.length_cons, List.length_nil, decide_true]; omega))]
   simp
  ·rw [if_neg k5, if_neg k5]
   rw [if_neg k5] at hlen
   obtain ⟨z, hz⟩ := K4 (v0 := 93) hs l3 hG v.L [] [] v.K [91] f rfl (fun _ => ⟨rfl, rfl⟩) (by omega) (by simp only [List.length_cons, List.length_nil]; omega)
   simp only [List.length_nil, Int.natCast_zero] at hz
   simp only [List.length_cons, List.length_append, List.length_nil] at hlen
   rw [hz, Option.bind_some, decide_eq_false k5]
   dsimp only
   rw [if_pos (zt (by decide) (by simp only [List.length_append, List.length_cons, List.length_nil, decide_true]; omega))]
   simp
def xA (a0 : GValue) : Option (List UInt8) := if shV 5 a0 = true ∧ vsz a0 <= 2 ^ 20 then some (y4 a0) else none
theorem ER {v : GValue} (h : shV 5 v = true) (hs : vsz v <= 2 ^ 20) : xA v = some (y4 v) := if_pos ⟨h, hs⟩
theorem K5 (a0 : GValue) (r : (List UInt8)) (h : xA a0 = some r) : ∃ n, xb n a0 = some r := by
 unfold xA at h
 obtain ⟨⟨h0, h1⟩, h⟩ := zM h
 exact ⟨vsz a0 + 3, by rw [<- h]; exact Pq 5 a0 _ h0 h1 (Nat.le_refl _)⟩
theorem Zr : jE xA := by
 intro a0 r h
 obtain ⟨n, hn⟩ := K5 a0 r h
 exact (V9 n) a0 r hn
def qw (a0 : GChange) : Option (List UInt8) :=
 (wK [a0]).bind fun r1 =>
 match r1 with
 | true =>
  (qX a0.Path).bind fun r2 =>
  match a0.Had with
  | true =>
   if zq 1 (r2.length + [32, 45, 32].length) then
   (xA a0.Old).bind fun r4 =>
   if zq 1 ((r2 ++ [32, 45, 32]).length + r4.length) then
   match a0.Has with
   | true =>
    if zq 1 (((r2 ++ [32, 45, 32]) ++ r4).length + [32, 43, 32].length) then
    (xA a0.New).bind fun r7 =>
    if zq 1 ((((r2 ++ [32, 45, 32]) ++ r4) ++ [32, 43, 32]).length + r7.length) then
    some ((((r2 ++ [32, 45, 32]) ++ r4) ++ [32, 43, 32]) ++ r7)
    else none
    else none
   | false =>
    some ((r2 ++ [32, 45, 32]) ++ r4)
   else none
   else none
  | false =>
   match a0.Has with
   | true =>
    if zq 1 (r2.length + [32, 43, 32].length) then
    (xA a0.New).bind fun r4 =>
    if zq 1 ((r2 ++ [32, 43, 32]).length + r4.length) then
    some ((r2 ++ [32, 43, 32]) ++ r4)
    else none
    else none
   | false =>
    some r2
 | false =>
  some []
theorem WO (a0 : GChange) : Oc (qw a0) 6 [] [.val true (qJ a0)] fun r => (.val false [.own 1 (eL za r)], []) := tc (
 .vw R4 [a0] <|
 .cl (QF [a0]) fun r1 =>
 .vN 0 r1 (
  .cl (V8 a0.Path) fun r2 =>
  .vM 0 a0.Had (
   .os [32, 45, 32] <|
   .ap 1 zf r2 [32, 45, 32] fun n3 =>
   .cl (Zr a0.Old) fun r4 =>
   .pl zf r4 <|
   .ap 1 zf (r2 ++ [32, 45, 32]) r4 fun n5 =>
   .vM 0 a0.Has (
    .os [32, 43, 32] <|
    .ap 1 zf ((r2 ++ [32, 45, 32]) ++ r4) [32, 43, 32] fun n6 =>
    .cl (Zr a0.New) fun r7 =>
    .pl zf r7 <|
    .ap 1 zf (((r2 ++ [32, 45, 32]) ++ r4) ++ [32, 43, 32]) r7 fun n8 =>
    .ret ((((r2 ++ [32, 45, 32]) ++ r4) ++ [32, 43, 32]) ++ r7)) <|
   .ret ((r2 ++ [32, 45, 32]) ++ r4)) <|
  .vM 0 a0.Has (
   .os [32, 43, 32] <|
   .ap 1 zf r2 [32, 43, 32] fun n3 =>
   .cl (Zr a0.New) fun r4 =>
   .pl zf r4 <|
   .ap 1 zf (r2 ++ [32, 43, 32]) r4 fun n5 =>
   .ret ((r2 ++ [32, 43, 32]) ++ r4)) <|
  .ret r2) <|
 .ret []) (zr Tryd.func6)
def jF (a0 : Int) (a1 : Int) (a2 : Int) : Option Bool :=
 if a1 <= a0 then
  some (decide (a0 <= a2))
 else
 some false
theorem Z9 (a0 : Int) (a1 : Int) (a2 : Int) : Oc (jF a0 a1 a2) 91 [] [vi a0, vi a1, vi a2] fun r => (vb r, []) := tc (
 .gI a1 a0 (fun c1 =>
  .gD a0 a2 <|
  .ret (decide (a0 <= a2))) fun c1 =>
 .ret false) (zr Tryd.func91)
def XS (F : (List UInt8) → Option Bool) : Prop := ∀ (a0 : (List UInt8)), Oc (F a0) 90 [] [vq za a0] fun r => (vb r, [])
def xW (a0 : (List UInt8)) (v1 : Int) : Nat → Int → Option (Bool ⊕ Int)
  | 0, _ => none
  | m + 1, v2 =>
  if v2 < v1 then
   (z7 v2).bind fun i2 =>
   (a0[i2]?).bind fun x3 =>
   if ((x3.toNat : Nat) : Int) < 97 then
    some (.inl false)
   else
   if 122 < ((x3.toNat : Nat) : Int) then
    some (.inl false)
   else
   xW a0 v1 m (w64 (v2 + 1))
  else
  some (.inr v2)
theorem QI (a0 : (List UInt8)) (v1 : Int) (m : Nat) : ∀ (v2 : Int), Ol (xW a0 v1 m v2) 90 (ye Tryd.f90 0) ⟨[(0, vq za a0), (5, vq za a0), (6, vi v1), (7, vi v2)], [], 0⟩ fun o => match o with | .inl o_0 => (.ret, ⟨[(2, vb o_0)], [], 0⟩) | .inr (o_1) => (.exit 0, ⟨[(0, vq za a0), (5, vq za a0), (6, vi v1), (7, vi o_1), (8, vb false)], [], 0⟩) := by
  induction m with
  | zero => intro v2 o h; cases h
  | succ m ih => exact fun v2 => tlp (
   .lI v2 v1 (fun c1 =>
    .na v2 fun i2 =>
    .ix0 za a0 i2 fun x3 =>
    .lI ((x3.toNat : Nat) : Int) 97 (fun c4 =>
     .ret (.inl false)) fun c4 =>
    .lI 122 ((x3.toNat : Nat) : Int) (fun c5 =>
     .ret (.inl false)) fun c5 =>
    .go (ih (w64 (v2 + 1)))) fun c1 =>
   .ret (.inr v2))
def Zs (n : Nat) (a0 : (List UInt8)) : Option Bool :=
 (xW a0 (a0.length : Int) n 0).bind fun o1 =>
 match o1 with
 | .inl o1_0 =>
  some o1_0
 | .inr (o1_1) =>
  (jF (a0.length : Int) 1 8).bind fun r2 =>
  some r2
theorem RP (n : Nat) : XS (Zs n) := fun a0 => tc (
 .le za a0 <|
 .l2 (QI a0 (a0.length : Int) n 0) (fun o1_0 =>
  .ret o1_0) fun o1_1 =>
 .le za a0 <|
 .cl (Z9 (a0.length : Int) 1 8) fun r2 =>
 .ret r2) (zr Tryd.func90)
theorem J3 {a : List UInt8} (ha : a.length <= 2 ^ 20) : ∀ (d i m : Nat), i + d = a.length → d < m → ∃ z, xW a (a.length : Int) m (i : Int) = some (if (a.drop i).all (inB 97 122) = true then .inr z else .inl false) := by
 intro d
 induction d with
 | zero =>
  intro i m hi hm
  obtain ⟨m, rfl, _⟩ := zo hm
  exact ⟨_, by rw [xW, if_neg (by omega), List.drop_eq_nil_of_le (by omega)]; rfl⟩
 | succ d ih =>
  intro i m hi hm
  obtain ⟨m, rfl, hm'⟩ := zo hm
  have hil : i < a.length := by omega
  rw [xW, if_pos (by omega), zg, Option.bind_some, zw hil, Option.bind_some, yf (by omega), xL hil, List.all_cons]
  by_cases h1 : ((a[i].toNat : Nat) : Int) < 97
  ·exact ⟨0, by rw [if_pos h1, if_neg]; simp [inB]; omega⟩
  ·rw [if_neg h1]
   by_cases h2 : (122 : Int) < ((a[i].toNat : Nat) : Int)
   ·exact ⟨0, by rw [if_pos h2, if_neg]; simp [inB]; omega⟩
   ·rw [if_neg h2, show inB 97 122 a[i] = true by simp [inB]; omega, Bool.true_and]
    exact ih (i + 1) m (by omega) (by omega)
theorem Ti (a b c : Int) : jF a b c = some (decide (b <= a ∧ a <= c)) := by
 unfold jF
 by_cases h : b <= a
 ·rw [if_pos h]; simp [h]
 ·rw [if_neg h]; simp [h]
def ww (a0 : (List UInt8)) : Option Bool := if a0.length <= 2 ^ 20 then some (w9 a0) else none
theorem J4 (a0 : (List UInt8)) (r : Bool) (h : ww a0 = some r) : ∃ n, Zs n a0 = some r := by
 unfold ww at h
 obtain ⟨ha, h⟩ := zM h
 refine ⟨a0.length + 1, ?_⟩
 obtain ⟨z, hz⟩ := J3 ha a0.length 0 (a0.length + 1) (by omega) (by omega)
 rw [show ((0 : Nat) : Int) = 0 from rfl, List.drop_zero] at hz
 unfold Zs
 rw [<- h, hz]
 unfold w9
 have hd : decide (1 <= a0.length ∧ a0.length <= 8) = decide ((1 : Int) <= (a0.length : Int) ∧ (a0.length : Int) <= 8) := decide_eq_decide.2 (by omega)
 rw [hd]
 cases a0.all (inB 97 122)
 ·rw [Bool.and_false]; rfl
 ·rw [Bool.and_true]
  simp only [if_true, Option.bind_some, Ti]
theorem YQ : XS ww := fun a0 r h => (J4 a0 r h).elim fun n hn => RP n a0 r hn
def ju (a0 : GStep) : Option Bool :=
 if a0.Kind = 0 then
  (ww a0.Key).bind fun r2 =>
  match r2 with
  | true =>
   some (!(decide (a0.I = 0)))
  | false =>
   some true
 else
 if a0.Kind = 1 then
  if 0 < (a0.Key.length : Int) then
   some true
  else
  (jF a0.I 0 39).bind fun r4 =>
  some (!r4)
 else
 some true
theorem J5 (a0 : GStep) : Oc (ju a0) 89 [] [.val true (jf a0)] fun r => (vb r, []) := tc (
 .eI a0.Kind 0 (fun c1 =>
  .cl (YQ a0.Key) fun r2 =>
  .vN 0 r2 (
   .an 0 0 <|
   .an 0 0 <|
   .eD a0.I 0 <|
   .an 0 0 <|
   .ret (!(decide (a0.I = 0)))) <|
  .an 0 0 <|
  .an 0 0 <|
  .an 0 0 <|
  .ret true) fun c1 =>
 .eI a0.Kind 1 (fun c2 =>
  .le za a0.Key <|
  .lI 0 (a0.Key.length : Int) (fun c3 =>
   .ret true) fun c3 =>
  .cl (Z9 a0.I 0 39) fun r4 =>
  .ret (!r4)) fun c2 =>
 .ret true) (zr Tryd.func89)
def wL (F : (List GStep) → Option Int) : Prop := ∀ (a0 : (List GStep)), Oc (F a0) 117 [] [vq zb a0, .val false [.fn 89 []]] fun r => (vi r, [])
def zI (a0 : (List GStep)) (v1 : Int) : Nat → Int → Option (Int ⊕ Int)
  | 0, _ => none
  | m + 1, v2 =>
  if v2 < v1 then
   (z7 v2).bind fun i2 =>
   (a0[i2]?).bind fun x3 =>
   (ju x3).bind fun r4 =>
   match r4 with
   | true =>
    some (.inl v2)
   | false =>
    zI a0 v1 m (w64 (v2 + 1))
  else
  some (.inr v2)
theorem jG (a0 : (List GStep)) (v1 : Int) (m : Nat) : ∀ (v2 : Int), Ol (zI a0 v1 m v2) 117 (ye Tryd.f117 0) ⟨[(0, vq zb a0), (1, .val false [.fn 89 []]), (7, vi v1), (8, vi v2)], [], 0⟩ fun o => match o with | .inl o_0 => (.ret, ⟨[(4, vi o_0)], [], 0⟩) | .inr (o_1) => (.exit 0, ⟨[(0, vq zb a0), (1, .val false [.fn 89 []]), (7, vi v1), (8, vi o_1), (9, vb false)], [], 0⟩) := by
  induction m with
  | zero => intro v2 o h; cases h
  | succ m ih => exact fun v2 => tlp (
   .lI v2 v1 (fun c1 =>
    .na v2 fun i2 =>
    .ix yv a0 i2 fun x3 =>
    .cl (J5 x3) fun r4 =>
    .vM 0 r4 (
     .ret (.inl v2)) <|
    .go (ih (w64 (v2 + 1)))) fun c1 =>
   .ret (.inr v2))
def y0 (n : Nat) (a0 : (List GStep)) : Option Int :=
 (zI a0 (a0.length : Int) n 0).bind fun o1 =>
 match o1 with
 | .inl o1_0 =>
  some o1_0
 | .inr (o1_1) =>
  some (-1)
theorem kE (n : Nat) : wL (y0 n) := fun a0 => tc (
 .le zb a0 <|
 .l2 (jG a0 (a0.length : Int) n 0) (fun o1_0 =>
  .ret o1_0) fun o1_1 =>
 .ret (-1)) (zr Tryd.func117)
theorem Oe {s : GStep} (hs : s.Key.length <= 2 ^ 20) : ju s = some (!xd s) := by
 unfold ju xd ww
 by_cases k0 : s.Kind = 0
 ·rw [if_pos k0, if_pos k0, if_pos hs, Option.bind_some]
  cases w9 s.Key <;> rfl
 ·rw [if_neg k0, if_neg k0]
  by_cases k1 : s.Kind = 1
  ·rw [if_pos k1]
   by_cases hk : s.Key = []
   ·rw [if_neg (by rw [hk]; simp), Ti, Option.bind_some]
    congr 2
    exact decide_eq_decide.2 ⟨fun h => ⟨k1, hk, h.1, h.2⟩, fun h => ⟨h.2.2.1, h.2.2.2⟩⟩
   ·rw [if_pos (by
     have : s.Key.length ≠ 0 := fun e => hk (List.eq_nil_of_length_eq_zero e)
     omega), decide_eq_false (fun h => hk h.2.1)]
    rfl
  ·rw [if_neg k1, decide_eq_false (fun h => k1 h.1)]; rfl
theorem UX {a : List GStep} (ha : zW a <= 2 ^ 20) : ∀ (l p : List GStep) (m : Nat), a = p ++ l → l.length < m → ∃ z, 0 <= z ∧ zI a (a.length : Int) m (p.length : Int) = some (if l.all xd = true then .inr z else .inl z) := by
 have hlen := wk a
 intro l
 induction l with
 | nil =>
  intro p m he hm
  obtain ⟨m, rfl, _⟩ := zo hm
  exact ⟨(p.length : Int), by omega, by rw [zI, he, List.append_nil, if_neg (by omega), List.all_nil, if_pos rfl]⟩
 | cons s l ih =>
  intro p m he hm
  obtain ⟨m, rfl, hm'⟩ := zo hm
  have hl : a.length = p.length + (l.length + 1) := by rw [he]; simp
  have hx : 1 + wA s <= zW a := Y7 (by rw [he]; simp)
  unfold wA at hx
  obtain ⟨z, hz0, hz⟩ := ih (p ++ [s]) m (by rw [he]; simp) (by simp only [List.length_cons] at hm'; omega)
  rw [zI, if_pos (by omega), zg, Option.bind_some, show a[p.length]? = some s by rw [he]; exact zZ p s l, Option.bind_some, Oe (by omega), Option.bind_some, yj p s (by omega), List.all_cons]
  cases xd s with
  | false => exact ⟨(p.length : Int), by omega, rfl⟩
  | true => exact ⟨z, hz0, by rw [Bool.true_and]; exact hz⟩
def yg (a0 : (List GStep)) : Option Int := y0 (a0.length + 1) a0
theorem jZ (a0 : (List GStep)) (r : Int) (h : yg a0 = some r) : ∃ n, y0 n a0 = some r := ⟨_, h⟩
theorem L7 {a : List GStep} (ha : zW a <= 2 ^ 20) : ∃ z, yg a = some z ∧ decide (0 <= z) = !(a.all xd) := by
 obtain ⟨z, h0, hz⟩ := UX ha a [] (a.length + 1) rfl (by omega)
 unfold yg y0
 simp only [List.length_nil, Int.natCast_zero] at hz
 rw [hz, Option.bind_some]
 cases a.all xd with
 | true => exact ⟨-1, rfl, rfl⟩
 | false => exact ⟨z, rfl, by rw [decide_eq_true h0]; rfl⟩
theorem kq : wL yg := fun a0 r h => (jZ a0 r h).elim fun n hn => kE n a0 r hn
def yK (a0 : (List GStep)) : Option Bool :=
 (yg a0).bind fun r1 =>
 some (decide (0 <= r1))
theorem jH (a0 : (List GStep)) : Oc (yK a0) 88 [] [vq zb a0, .val false [.fn 89 []]] fun r => (vb r, []) := tc (
 .cl (kq a0) fun r1 =>
 .gD 0 r1 <|
 .ret (decide (0 <= r1))) (zr Tryd.func88)
def k8 (a0 : (List GStep)) : Option Bool :=
 if (a0.length : Int) <= 6 then
  (yK a0).bind fun r2 =>
  some (!r2)
 else
 some false
theorem VA (a0 : (List GStep)) : Oc (k8 a0) 58 [] [vq zb a0] fun r => (vb r, []) := tc (
 .le zb a0 <|
 .gI (a0.length : Int) 6 (fun c1 =>
  .cl (jH a0) fun r2 =>
  .ret (!r2)) fun c1 =>
 .ret false) (zr Tryd.func58)
def XT (F : (List UInt8) → Option Bool) : Prop := ∀ (a0 : (List UInt8)), Oc (F a0) 118 [] [vq za a0] fun r => (vb r, [])
def xX (a0 : (List UInt8)) (v1 : Int) : Nat → Int → Option (Bool ⊕ Int)
  | 0, _ => none
  | m + 1, v2 =>
  if v2 < v1 then
   (z7 v2).bind fun i2 =>
   (a0[i2]?).bind fun x3 =>
   if ((x3.toNat : Nat) : Int) < 32 then
    some (.inl false)
   else
   if 126 < ((x3.toNat : Nat) : Int) then
    some (.inl false)
   else
   xX a0 v1 m (w64 (v2 + 1))
  else
  some (.inr v2)
theorem QJ (a0 : (List UInt8)) (v1 : Int) (m : Nat) : ∀ (v2 : Int), Ol (xX a0 v1 m v2) 118 (ye Tryd.f118 0) ⟨[(0, vq za a0), (5, vq za a0), (6, vi v1), (7, vi v2)], [], 0⟩ fun o => match o with | .inl o_0 => (.ret, ⟨[(2, vb o_0)], [], 0⟩) | .inr (o_1) => (.exit 0, ⟨[(0, vq za a0), (5, vq za a0), (6, vi v1), (7, vi o_1), (8, vb false)], [], 0⟩) := by
  induction m with
  | zero => intro v2 o h; cases h
  | succ m ih => exact fun v2 => tlp (
   .lI v2 v1 (fun c1 =>
    .na v2 fun i2 =>
    .ix0 za a0 i2 fun x3 =>
    .lI ((x3.toNat : Nat) : Int) 32 (fun c4 =>
     .ret (.inl false)) fun c4 =>
    .lI 126 ((x3.toNat : Nat) : Int) (fun c5 =>
     .ret (.inl false)) fun c5 =>
    .go (ih (w64 (v2 + 1)))) fun c1 =>
   .ret (.inr v2))
def Zt (n : Nat) (a0 : (List UInt8)) : Option Bool :=
 (xX a0 (a0.length : Int) n 0).bind fun o1 =>
 match o1 with
 | .inl o1_0 =>
  some o1_0
 | .inr (o1_1) =>
  some (decide ((a0.length : Int) <= 20))
theorem RQ (n : Nat) : XT (Zt n) := fun a0 => tc (
 .le za a0 <|
 .l2 (QJ a0 (a0.length : Int) n 0) (fun o1_0 =>
  .ret o1_0) fun o1_1 =>
 .le za a0 <|
 .gD (a0.length : Int) 20 <|
 .ret (decide ((a0.length : Int) <= 20))) (zr Tryd.func118)
theorem J6 {a : List UInt8} (ha : a.length <= 2 ^ 20) : ∀ (d i m : Nat), i + d = a.length → d < m → ∃ z, xX a (a.length : Int) m (i : Int) = some (if (a.drop i).all (inB 32 126) = true then .inr z else .inl false) := by
 intro d
 induction d with
 | zero =>
  intro i m hi hm
  obtain ⟨m, rfl, _⟩ := zo hm
  exact ⟨_, by rw [xX, if_neg (by omega), List.drop_eq_nil_of_le (by omega)]; rfl⟩
 | succ d ih =>
  intro i m hi hm
  obtain ⟨m, rfl, hm'⟩ := zo hm
  have hil : i < a.length := by omega
  rw [xX, if_pos (by omega), zg, Option.bind_some, zw hil, Option.bind_some, yf (by omega), xL hil, List.all_cons]
  by_cases h1 : ((a[i].toNat : Nat) : Int) < 32
  ·exact ⟨0, by rw [if_pos h1, if_neg]; simp [inB]; omega⟩
  ·rw [if_neg h1]
   by_cases h2 : (126 : Int) < ((a[i].toNat : Nat) : Int)
   ·exact ⟨0, by rw [if_pos h2, if_neg]; simp [inB]; omega⟩
   ·rw [if_neg h2, show inB 32 126 a[i] = true by simp [inB]; omega, Bool.true_and]
    exact ih (i + 1) m (by omega) (by omega)
def qY (a0 : (List UInt8)) : Option Bool := if a0.length <= 2 ^ 20 then some (vB a0) else none
theorem J7 (a0 : (List UInt8)) (r : Bool) (h : qY a0 = some r) : ∃ n, Zt n a0 = some r := by
 unfold qY at h
 obtain ⟨ha, h⟩ := zM h
 refine ⟨a0.length + 1, ?_⟩
 obtain ⟨z, hz⟩ := J6 ha a0.length 0 (a0.length + 1) (by omega) (by omega)
 rw [show ((0 : Nat) : Int) = 0 from rfl, List.drop_zero] at hz
 unfold Zt
 rw [<- h, hz]
 unfold vB
 by_cases hl : a0.length <= 20
 ·rw [decide_eq_true hl]
  cases a0.all (inB 32 126)
  ·rfl
  ·show some (decide _) = _; rw [decide_eq_true (by omega)]; rfl
 ·rw [decide_eq_false hl]
  cases a0.all (inB 32 126)
  ·rfl
  ·show some (decide _) = _; rw [decide_eq_false (by omega)]; rfl
theorem VB : XT qY := fun a0 r h => (J7 a0 r h).elim fun n hn => RQ n a0 r hn
def qg (a0 : (List UInt8)) (a1 : (List UInt8)) : Option Int :=
 (jd a0 a1).bind fun r1 =>
 some r1
theorem ZW (a0 : (List UInt8)) (a1 : (List UInt8)) : Oc (qg a0 a1) 110 [] [vq za a0, vq za a1] fun r => (vi r, []) := tc (
 .cl (Ze a0 a1) fun r1 =>
 .ret r1) (zr Tryd.func110)
def wz (F : GValue → Int → Option Bool) : Prop := ∀ (a0 : GValue) (e0 : Int), Oc (F a0 e0) 120 [.var [ci e0]] [.val true (zH a0), vp 0 0] fun r => (vb r, [.var [ci e0]])
def yn (F : (List GValue) → Int → Option Int) : Prop := ∀ (a0 : (List GValue)) (e0 : Int), Oc (F a0 e0) 132 [.var [ci e0]] [vq zd a0, .val false [.fn 120 [.ptr 0 0]]] fun r => (vi r, [.var [ci e0]])
def zO (F : (List GValue) → Int → Option Bool) : Prop := ∀ (a0 : (List GValue)) (e0 : Int), Oc (F a0 e0) 119 [.var [ci e0]] [vq zd a0, .val false [.fn 120 [.ptr 0 0]]] fun r => (vb r, [.var [ci e0]])
def jv (F : GValue → Int → Option Bool) : Prop := ∀ (a0 : GValue) (a1 : Int), Oc (F a0 a1) 92 [] [.val true (zH a0), vi a1] fun r => (vb r, [])
def kc (G_impl_isShaped : GValue → Int → Option Bool) (a0 : GValue) (e0 : Int) : Option Bool :=
 (G_impl_isShaped a0 (w64 (e0 - 1))).bind fun r1 =>
 some (!r1)
theorem QK (G_impl_isShaped : GValue → Int → Option Bool) (H_impl_isShaped : jv G_impl_isShaped) : wz (kc G_impl_isShaped) := fun a0 e0 => tc (
 .cl (H_impl_isShaped a0 (w64 (e0 - 1))) fun r1 =>
 .ret (!r1)) (zr Tryd.func120)
def zD (G_impl_isShaped_1 : GValue → Int → Option Bool) (a0 : (List GValue)) (v1 : Int) (e0 : Int) : Nat → Int → Option (Int ⊕ Int)
  | 0, _ => none
  | m + 1, v2 =>
  if v2 < v1 then
   (z7 v2).bind fun i2 =>
   (a0[i2]?).bind fun x3 =>
   (G_impl_isShaped_1 x3 e0).bind fun r4 =>
   match r4 with
   | true =>
    some (.inl v2)
   | false =>
    zD G_impl_isShaped_1 a0 v1 e0 m (w64 (v2 + 1))
  else
  some (.inr v2)
theorem qZ (G_impl_isShaped_1 : GValue → Int → Option Bool) (H_impl_isShaped_1 : wz G_impl_isShaped_1) (a0 : (List GValue)) (v1 : Int) (e0 : Int) (m : Nat) : ∀ (v2 : Int), Ol (zD G_impl_isShaped_1 a0 v1 e0 m v2) 132 (ye Tryd.f132 0) ⟨[(0, vq zd a0), (1, .val false [.fn 120 [.ptr 0 0]]), (7, vi v1), (8, vi v2)], [.var [ci e0]], 1⟩ fun o => match o with | .inl o_0 => (.ret, ⟨[(4, vi o_0)], [.var [ci e0]], 1⟩) | .inr (o_1) => (.exit 0, ⟨[(0, vq zd a0), (1, .val false [.fn 120 [.ptr 0 0]]), (7, vi v1), (8, vi o_1), (9, vb false)], [.var [ci e0]], 1⟩) := by
  induction m with
  | zero => intro v2 o h; cases h
  | succ m ih => exact fun v2 => tlp (
   .lI v2 v1 (fun c1 =>
    .na v2 fun i2 =>
    .ix zU a0 i2 fun x3 =>
    .cl (H_impl_isShaped_1 x3 e0) fun r4 =>
    .vM 0 r4 (
     .ret (.inl v2)) <|
    .go (ih (w64 (v2 + 1)))) fun c1 =>
   .ret (.inr v2))
def yo (G_impl_isShaped_1 : GValue → Int → Option Bool) (n : Nat) (a0 : (List GValue)) (e0 : Int) : Option Int :=
 (zD G_impl_isShaped_1 a0 (a0.length : Int) e0 n 0).bind fun o1 =>
 match o1 with
 | .inl o1_0 =>
  some o1_0
 | .inr (o1_1) =>
  some (-1)
theorem ka (G_impl_isShaped_1 : GValue → Int → Option Bool) (H_impl_isShaped_1 : wz G_impl_isShaped_1) (n : Nat) : yn (yo G_impl_isShaped_1 n) := fun a0 e0 => tc (
 .le zd a0 <|
 .l2 (qZ G_impl_isShaped_1 H_impl_isShaped_1 a0 (a0.length : Int) e0 n 0) (fun o1_0 =>
  .ret o1_0) fun o1_1 =>
 .ret (-1)) (zr Tryd.func132)
def yA (G_slices_IndexFunc_Value_isShaped_1 : (List GValue) → Int → Option Int) (a0 : (List GValue)) (e0 : Int) : Option Bool :=
 (G_slices_IndexFunc_Value_isShaped_1 a0 e0).bind fun r1 =>
 some (decide (0 <= r1))
theorem jg (G_slices_IndexFunc_Value_isShaped_1 : (List GValue) → Int → Option Int) (H_slices_IndexFunc_Value_isShaped_1 : yn G_slices_IndexFunc_Value_isShaped_1) : zO (yA G_slices_IndexFunc_Value_isShaped_1) := fun a0 e0 => tc (
 .cl (H_slices_IndexFunc_Value_isShaped_1 a0 e0) fun r1 =>
 .gD 0 r1 <|
 .ret (decide (0 <= r1))) (zr Tryd.func119)
def yI (G_slices_ContainsFunc_Value_isShaped_1 : (List GValue) → Int → Option Bool) (v0 : Bool) (v1 : Bool) (v2 : (List (List UInt8))) (v3 : Int) (a0 : GValue) (a1 : Int) : Nat → Int → Option (Bool ⊕ Int)
  | 0, _ => none
  | m + 1, v4 =>
  if v4 < v3 then
   (z7 v4).bind fun i2 =>
   (v2[i2]?).bind fun x3 =>
   (ww x3).bind fun r4 =>
   match r4 with
   | true =>
    if 0 < v4 then
     (z7 (w64 (v4 - 1))).bind fun i6 =>
     (a0.K[i6]?).bind fun x7 =>
     (qg x7 x3).bind fun r8 =>
     if 0 <= r8 then
      some (.inl false)
     else
     yI G_slices_ContainsFunc_Value_isShaped_1 v0 v1 v2 v3 a0 a1 m (w64 (v4 + 1))
    else
    yI G_slices_ContainsFunc_Value_isShaped_1 v0 v1 v2 v3 a0 a1 m (w64 (v4 + 1))
   | false =>
    some (.inl false)
  else
  some (.inr v4)
theorem Wc (G_slices_ContainsFunc_Value_isShaped_1 : (List GValue) → Int → Option Bool) (H_slices_ContainsFunc_Value_isShaped_1 : zO G_slices_ContainsFunc_Value_isShaped_1) (v0 : Bool) (v1 : Bool) (v2 : (List (List UInt8))) (v3 : Int) (a0 : GValue) (a1 : Int) (m : Nat) : ∀ (v4 : Int), Ol (yI G_slices_ContainsFunc_Value_isShaped_1 v0 v1 v2 v3 a0 a1 m v4) 92 (ye Tryd.f92 0) ⟨[(2, vp 0 0), (3, vp 1 0), (5, vb v0), (6, vb v1), (99, vq (zL za) v2), (100, vi v3), (101, vi v4)], [.var (zH a0), .var [ci a1]], 0⟩ fun o => match o with | .inl o_0 => (.ret, ⟨[(4, vb o_0)], [], 0⟩) | .inr (o_1) => (.exit 1, ⟨[(2, vp 0 0), (3, vp 1 0), (5, vb v0), (6, vb v1), (99, vq (zL za) v2), (100, vi v3), (101, vi o_1), (102, vb false)], [.var (zH a0), .var [ci a1]], 0⟩) := by
  induction m with
  | zero => intro v4 o h; cases h
  | succ m ih => exact fun v4 => tlp (
   .lI v4 v3 (fun c1 =>
    .na v4 fun i2 =>
    .ix0 (zL za) v2 i2 fun x3 =>
    .cl (YQ x3) fun r4 =>
    .vN 0 r4 (
     .an 0 0 <|
     .lI 0 v4 (fun c5 =>
      .an 0 0 <|
      .na (w64 (v4 - 1)) fun i6 =>
      .ix0 (zL za) a0.K i6 fun x7 =>
      .cl (ZW x7 x3) fun r8 =>
      .gI 0 r8 (fun c9 =>
       .an 0 3 <|
       .an 1 3 <|
       .ret (.inl false)) fun c9 =>
      .an 0 3 <|
      .an 1 3 <|
      .go (ih (w64 (v4 + 1)))) fun c5 =>
     .an 0 0 <|
     .an 9 0 <|
     .an 1 0 <|
     .go (ih (w64 (v4 + 1)))) <|
    .an 0 0 <|
    .an 0 0 <|
    .an 0 0 <|
    .an 0 0 <|
    .ret (.inl false)) fun c1 =>
   .ret (.inr v4))
def qh (G_slices_ContainsFunc_Value_isShaped_1 : (List GValue) → Int → Option Bool) (n : Nat) (a0 : GValue) (a1 : Int) : Option Bool :=
 if a1 = 0 then
  some false
 else
 if a0.Kind = 0 then
  if a0.N = 0 then
   if (a0.S.length : Int) = 0 then
    if (a0.K.length : Int) = 0 then
     some (decide ((a0.L.length : Int) = 0))
    else
    some false
   else
   some false
  else
  some false
 else
 if a0.Kind = 6 then
  if a0.N = 0 then
   if (a0.S.length : Int) = 0 then
    if (a0.K.length : Int) = 0 then
     some (decide ((a0.L.length : Int) = 0))
    else
    some false
   else
   some false
  else
  some false
 else
 if a0.Kind = 1 then
  (jF a0.N 0 1).bind fun r5 =>
  match r5 with
  | true =>
   if (a0.S.length : Int) = 0 then
    if (a0.K.length : Int) = 0 then
     some (decide ((a0.L.length : Int) = 0))
    else
    some false
   else
   some false
  | false =>
   some false
 else
 if a0.Kind = 2 then
  (jF a0.N (-1000000000000) 1000000000000).bind fun r6 =>
  match r6 with
  | true =>
   if (a0.S.length : Int) = 0 then
    if (a0.K.length : Int) = 0 then
     some (decide ((a0.L.length : Int) = 0))
    else
    some false
   else
   some false
  | false =>
   some false
 else
 if a0.Kind = 3 then
  (qY a0.S).bind fun r7 =>
  match r7 with
  | true =>
   if a0.N = 0 then
    if (a0.K.length : Int) = 0 then
     some (decide ((a0.L.length : Int) = 0))
    else
    some false
   else
   some false
  | false =>
   some false
 else
 if a0.Kind = 4 then
  if (a0.K.length : Int) = 0 then
   if a0.N = 0 then
    if (a0.S.length : Int) = 0 then
     if (a0.L.length : Int) <= 40 then
      (G_slices_ContainsFunc_Value_isShaped_1 a0.L a1).bind fun r12 =>
      some (!r12)
     else
     some false
    else
    some false
   else
   some false
  else
  some false
 else
 if a0.Kind = 5 then
  if (a0.K.length : Int) = (a0.L.length : Int) then
   (yI G_slices_ContainsFunc_Value_isShaped_1 (decide (a0.N = 0)) (decide ((a0.S.length : Int) = 0)) a0.K (a0.K.length : Int) a0 a1 n 0).bind fun o10 =>
   match o10 with
   | .inl o10_0 =>
    some o10_0
   | .inr (o10_1) =>
    if a0.N = 0 then
     if (a0.S.length : Int) = 0 then
      if (a0.L.length : Int) <= 40 then
       (G_slices_ContainsFunc_Value_isShaped_1 a0.L a1).bind fun r14 =>
       some (!r14)
      else
      some false
     else
     some false
    else
    some false
  else
  some false
 else
 some false
theorem K6 (G_slices_ContainsFunc_Value_isShaped_1 : (List GValue) → Int → Option Bool) (H_slices_ContainsFunc_Value_isShaped_1 : zO G_slices_ContainsFunc_Value_isShaped_1) (n : Nat) : jv (qh G_slices_ContainsFunc_Value_isShaped_1 n) := fun a0 a1 => tc (
 .eI a1 0 (fun c1 =>
  .ret false) fun c1 =>
 .eD a0.N 0 <|
 .le za a0.S <|
 .eD (a0.S.length : Int) 0 <|
 .le (zL za) a0.K <|
 .eD (a0.K.length : Int) 0 <|
 .le zd a0.L <|
 .eD (a0.L.length : Int) 0 <|
 .eI a0.Kind 0 (fun c2 =>
  .cI 2 (a0.N = 0) (fun c3 =>
   .kT 0 (dT c3) <|
   .cI 0 ((a0.S.length : Int) = 0) (fun c4 =>
    .kT 0 (dT c4) <|
    .cI 0 ((a0.K.length : Int) = 0) (fun c5 =>
     .kT 0 (dT c5) <|
     .ret (decide ((a0.L.length : Int) = 0))) fun c5 =>
    .kF 0 (dF c5) <|
    .ret false) fun c4 =>
   .kF 0 (dF c4) <|
   .ret false) fun c3 =>
  .kF 0 (dF c3) <|
  .ret false) fun c2 =>
 .eI a0.Kind 6 (fun c3 =>
  .cI 1 (a0.N = 0) (fun c4 =>
   .kT 0 (dT c4) <|
   .cI 0 ((a0.S.length : Int) = 0) (fun c5 =>
    .kT 0 (dT c5) <|
    .cI 0 ((a0.K.length : Int) = 0) (fun c6 =>
     .kT 0 (dT c6) <|
     .ret (decide ((a0.L.length : Int) = 0))) fun c6 =>
    .kF 0 (dF c6) <|
    .ret false) fun c5 =>
   .kF 0 (dF c5) <|
   .ret false) fun c4 =>
  .kF 0 (dF c4) <|
  .ret false) fun c3 =>
 .eI a0.Kind 1 (fun c4 =>
  .cl (Z9 a0.N 0 1) fun r5 =>
  .vM 0 r5 (
   .az 0 0 <|
   .cI 0 ((a0.S.length : Int) = 0) (fun c6 =>
    .kT 0 (dT c6) <|
    .cI 0 ((a0.K.length : Int) = 0) (fun c7 =>
     .kT 0 (dT c7) <|
     .ret (decide ((a0.L.length : Int) = 0))) fun c7 =>
    .kF 0 (dF c7) <|
    .ret false) fun c6 =>
   .kF 0 (dF c6) <|
   .ret false) <|
  .az 0 0 <|
  .ret false) fun c4 =>
 .eI a0.Kind 2 (fun c5 =>
  .cl (Z9 a0.N (-1000000000000) 1000000000000) fun r6 =>
  .vM 0 r6 (
   .az 0 0 <|
   .cI 0 ((a0.S.length : Int) = 0) (fun c7 =>
    .kT 0 (dT c7) <|
    .cI 0 ((a0.K.length : Int) = 0) (fun c8 =>
     .kT 0 (dT c8) <|
     .ret (decide ((a0.L.length : Int) = 0))) fun c8 =>
    .kF 0 (dF c8) <|
    .ret false) fun c7 =>
   .kF 0 (dF c7) <|
   .ret false) <|
  .az 0 0 <|
  .ret false) fun c5 =>
 .eI a0.Kind 3 (fun c6 =>
  .cl (VB a0.S) fun r7 =>
  .vM 0 r7 (
   .az 0 0 <|
   .cI 0 (a0.N = 0) (fun c8 =>
    .kT 0 (dT c8) <|
    .cI 0 ((a0.K.length : Int) = 0) (fun c9 =>
     .kT 0 (dT c9) <|
     .ret (decide ((a0.L.length : Int) = 0))) fun c9 =>
    .kF 0 (dF c9) <|
    .ret false) fun c8 =>
   .kF 0 (dF c8) <|
   .ret false) <|
  .az 0 0 <|
  .ret false) fun c6 =>
 .eI a0.Kind 4 (fun c7 =>
  .cN 1 ((a0.K.length : Int) = 0) (fun c8 =>
   .cI 0 (a0.N = 0) (fun c9 =>
    .kT 0 (dT c9) <|
    .cI 0 ((a0.S.length : Int) = 0) (fun c10 =>
     .kT 0 (dT c10) <|
     .kT 0 (dT c10) <|
     .le zd a0.L <|
     .kT 0 (dT c10) <|
     .gI (a0.L.length : Int) 40 (fun c11 =>
      .kT 0 (dT c10) <|
      .cl (H_slices_ContainsFunc_Value_isShaped_1 a0.L a1) fun r12 =>
      .ret (!r12)) fun c11 =>
     .kT 0 (dT c10) <|
     .ret false) fun c10 =>
    .kF 0 (dF c10) <|
    .kF 0 (dF c10) <|
    .kF 0 (dF c10) <|
    .kF 0 (dF c10) <|
    .ret false) fun c9 =>
   .kF 0 (dF c9) <|
   .ret false) fun c8 =>
  .ret false) fun c7 =>
 .eI a0.Kind 5 (fun c8 =>
  .le (zL za) a0.K <|
  .le zd a0.L <|
  .eI (a0.K.length : Int) (a0.L.length : Int) (fun c9 =>
   .le (zL za) a0.K <|
   .l2 (Wc G_slices_ContainsFunc_Value_isShaped_1 H_slices_ContainsFunc_Value_isShaped_1 (decide (a0.N = 0)) (decide ((a0.S.length : Int) = 0)) a0.K (a0.K.length : Int) a0 a1 n 0) (fun o10_0 =>
    .ret o10_0) fun o10_1 =>
   .cI 0 (a0.N = 0) (fun c11 =>
    .kT 0 (dT c11) <|
    .cI 0 ((a0.S.length : Int) = 0) (fun c12 =>
     .kT 0 (dT c12) <|
     .kT 0 (dT c12) <|
     .le zd a0.L <|
     .kT 0 (dT c12) <|
     .gI (a0.L.length : Int) 40 (fun c13 =>
      .kT 0 (dT c12) <|
      .cl (H_slices_ContainsFunc_Value_isShaped_1 a0.L a1) fun r14 =>
      .ret (!r14)) fun c13 =>
     .kT 0 (dT c12) <|
     .ret false) fun c12 =>
    .kF 0 (dF c12) <|
    .kF 0 (dF c12) <|
    .kF 0 (dF c12) <|
    .kF 0 (dF c12) <|
    .ret false) fun c11 =>
   .kF 0 (dF c11) <|
   .ret false) fun c9 =>
  .ret false) fun c8 =>
 .ret false) (zr Tryd.func92)
mutual
def y9 : Nat → GValue → Int → Option Bool
 | 0, _, _ => none
 | n + 1, a0, e0 => kc (yS n) a0 e0
def zA : Nat → (List GValue) → Int → Option Int
 | 0, _, _ => none
 | n + 1, a0, e0 => yo (y9 n) n a0 e0
def z6 : Nat → (List GValue) → Int → Option Bool
 | 0, _, _ => none
 | n + 1, a0, e0 => yA (zA n) a0 e0
def yS : Nat → GValue → Int → Option Bool
 | 0, _, _ => none
 | n + 1, a0, a1 => qh (z6 n) n a0 a1
end
theorem wR (n : Nat) : wz (y9 n) ∧ yn (zA n) ∧ zO (z6 n) ∧ jv (yS n) := by
 induction n with
 | zero => exact ⟨fun _ _ _ h => (by rw [y9] at h; cases h), fun _ _ _ h => (by rw [zA] at h; cases h), fun _ _ _ h => (by rw [z6] at h; cases h), fun _ _ _ h => (by rw [yS] at h; cases h)⟩
 | succ n ih =>
  obtain ⟨ih_impl_isShaped_1, ih_slices_IndexFunc_Value_isShaped_1, ih_slices_ContainsFunc_Value_isShaped_1, ih_impl_isShaped⟩ := ih
  exact ⟨fun a0 e0 r h => QK (yS n) ih_impl_isShaped a0 e0 r (by rw [y9] at h; exact h),
   fun a0 e0 r h => ka (y9 n) ih_impl_isShaped_1 n a0 e0 r (by rw [zA] at h; exact h),
   fun a0 e0 r h => jg (zA n) ih_slices_IndexFunc_Value_isShaped_1 a0 e0 r (by rw [z6] at h; exact h),
   fun a0 a1 r h => K6 (z6 n) ih_slices_ContainsFunc_Value_isShaped_1 n a0 a1 r (by rw [yS] at h; exact h)⟩
theorem Gh (a b : List UInt8) : qg a b = some (Lib.compareBytes a b) := rfl
theorem L8 {a : List UInt8} (h : a.length <= 2 ^ 20) : ww a = some (w9 a) := if_pos h
theorem L9 {a : List UInt8} (h : a.length <= 2 ^ 20) : qY a = some (vB a) := if_pos h
theorem jh {G : GValue → Int → Option Bool} {a : List GValue} {f : Nat} {e : Int} {p : GValue → Bool} (ha : a.length <= 2 ^ 20) (hf : a.length < f) (hG : ∀ x ∈ a, G x e = some (!p x)) : ∃ r : Int, yo G f a e = some r ∧ decide (0 <= r) = !(a.all p) := by
 have loop : ∀ (d i m : Nat), i + d = a.length → d < m → ∃ (q : Nat) (z : Int), zD G a (a.length : Int) e m (i : Int) = some (if (a.drop i).all p = true then .inr z else .inl (q : Int)) := by
  intro d
  induction d with
  | zero =>
   intro i m hi hm
   obtain ⟨m, rfl, _⟩ := zo hm
   exact ⟨0, _, by rw [zD, if_neg (by omega), List.drop_eq_nil_of_le (by omega)]; rfl⟩
  | succ d ih =>
   intro i m hi hm
   obtain ⟨m, rfl, hm'⟩ := zo hm
   have hil : i < a.length := by omega
   rw [zD, if_pos (by omega), zg, Option.bind_some, zw hil, Option.bind_some, hG _ (List.getElem_mem hil), Option.bind_some, yf (by omega), xL hil, List.all_cons]
   cases hp : p a[i] with
   | false => exact ⟨i, 0, rfl⟩
   | true =>
    obtain ⟨q, z, hz⟩ := ih (i + 1) m (by omega) (by omega)
    exact ⟨q, z, by rw [Bool.true_and]; exact hz⟩
 obtain ⟨q, z, hz⟩ := loop a.length 0 f (by omega) (by omega)
 rw [show ((0 : Nat) : Int) = 0 from rfl, List.drop_zero] at hz
 unfold yo
 rw [hz, Option.bind_some]
 cases hp : a.all p with
 | true => exact ⟨-1, rfl, rfl⟩
 | false => exact ⟨(q : Int), rfl, by simp⟩
theorem RR {G : List GValue → Int → Option Bool} {v : GValue} {v0 v1 : Bool} {a1 : Int} (hs : vsz v <= 2 ^ 20) : ∀ (d i m : Nat), i + d = v.K.length → d < m → ∃ z, yI G v0 v1 v.K (v.K.length : Int) v a1 m (i : Int) = some (if wT v.K i d = true then .inr z else .inl false) := by
 have he := xR v
 have hl := kQ v.K
 intro d
 induction d with
 | zero =>
  intro i m hi hm
  obtain ⟨m, rfl, _⟩ := zo hm
  exact ⟨_, by rw [yI, if_neg (by omega)]; rfl⟩
 | succ d ih =>
  intro i m hi hm
  obtain ⟨m, rfl, hm'⟩ := zo hm
  have hil : i < v.K.length := by omega
  have hx := Q3 (List.getElem_mem hil)
  rw [yI, if_pos (by omega), zg, Option.bind_some, zw hil, Option.bind_some, L8 (by omega), Option.bind_some, yf (by omega), Y6]
  obtain ⟨z, hz⟩ := ih (i + 1) m (by omega) (by omega)
  cases hnm : w9 v.K[i] with
  | false =>
   refine ⟨0, ?_⟩
   have : kOk v.K i = false := by
    by_cases h0 : i = 0
    ·subst h0; rw [XD hil, hnm]
    ·rw [Yd hil (by omega), hnm]; rfl
   rw [this]; rfl
  | true =>
   dsimp only
   by_cases h0 : 0 < i
   ·rw [if_pos (by omega), Jn (by omega) h0, zg, Option.bind_some, zw (show i - 1 < v.K.length by omega), Option.bind_some, Gh, Option.bind_some]
    by_cases hb : Op.bytesLess (v.K[i - 1]'(by omega)) v.K[i] = true
    ·rw [if_neg (by rw [JH]; exact fun h => h hb), Yd hil h0, hnm, hb]
     exact ⟨z, hz⟩
    ·rw [if_pos (by rw [JH]; exact hb), Yd hil h0, hnm, show Op.bytesLess (v.K[i - 1]'(by omega)) v.K[i] = false by simpa using hb]
     exact ⟨0, rfl⟩
   ·have : i = 0 := by omega
    subst this
    rw [if_neg (by omega), XD hil, hnm]
    exact ⟨z, hz⟩
theorem Of {G : List GValue → Int → Option Bool} {v : GValue} {f d : Nat} (hs : vsz v <= 2 ^ 20) (hf : v.K.length < f) (hd : 0 < d) (hG : G v.L (d : Int) = some (!(v.L.all (shV (d - 1))))) : qh G f v (d : Int) = some (shV d v) := by
 obtain ⟨e, rfl⟩ : ∃ e, d = e + 1 := ⟨d - 1, by omega⟩
 have he := xR v
 have hl := yC v.L
 have hb := kQ v.K
 rw [show e + 1 - 1 = e by omega] at hG
 unfold qh
 rw [if_neg (by omega)]
 simp only [shV]
 have nil : v.L.length = 0 → v.L.all (shV e) = true := fun h => by rw [List.eq_nil_of_length_eq_zero h]; rfl
 have c0 : ∀ n : Nat, (((n : Nat) : Int) = 0) = (n = 0) := fun n => by simp
 simp only [c0]
 have leaf : ∀ {b : Bool}, yh v = (b && decide (v.L.length = 0)) → b = true → some (decide (v.L.length = 0)) = some (yh v && v.L.all (shV e)) := fun h hb' => by
  rw [h, hb', Bool.true_and]
  by_cases hz : v.L.length = 0
  ·rw [decide_eq_true hz, nil hz]; rfl
  ·rw [decide_eq_false hz]; rfl
 have no : yh v = false → some false = some (yh v && v.L.all (shV e)) := fun h => by rw [h]; rfl
 have four : ∀ {p : Prop} [Decidable p], yh v = decide (p ∧ v.S.length = 0 ∧ v.K.length = 0 ∧ v.L.length = 0) → p → (if v.S.length = 0 then if v.K.length = 0 then some (decide (v.L.length = 0)) else some false else some false) = some (yh v && v.L.all (shV e)) := fun h hp => by
  by_cases h1 : v.S.length = 0
  ·rw [if_pos h1]
   by_cases h2 : v.K.length = 0
   ·rw [if_pos h2]
    exact leaf (b := true) (by rw [h]; simp [hp, h1, h2]) rfl
   ·rw [if_neg h2]; exact no (by rw [h, decide_eq_false (fun h => h2 h.2.2.1)])
  ·rw [if_neg h1]; exact no (by rw [h, decide_eq_false (fun h => h1 h.2.1)])
 by_cases k0 : v.Kind = 0
 ·rw [if_pos k0]
  have hv : yh v = decide (v.N = 0 ∧ v.S.length = 0 ∧ v.K.length = 0 ∧ v.L.length = 0) := by unfold yh; rw [if_pos (.inl k0)]
  by_cases a1 : v.N = 0
  ·rw [if_pos a1]; exact four hv a1
  ·rw [if_neg a1]; exact no (by rw [hv, decide_eq_false (fun h => a1 h.1)])
 rw [if_neg k0]
 by_cases k6 : v.Kind = 6
 ·rw [if_pos k6]
  have hv : yh v = decide (v.N = 0 ∧ v.S.length = 0 ∧ v.K.length = 0 ∧ v.L.length = 0) := by unfold yh; rw [if_pos (.inr k6)]
  by_cases a1 : v.N = 0
  ·rw [if_pos a1]; exact four hv a1
  ·rw [if_neg a1]; exact no (by rw [hv, decide_eq_false (fun h => a1 h.1)])
 rw [if_neg k6]
 have n06 : ¬ (v.Kind = 0 ∨ v.Kind = 6) := by omega
 by_cases k1 : v.Kind = 1
 ·rw [if_pos k1, Ti, Option.bind_some]
  have hv : yh v = decide ((0 <= v.N ∧ v.N <= 1) ∧ v.S.length = 0 ∧ v.K.length = 0 ∧ v.L.length = 0) := by unfold yh; rw [if_neg n06, if_pos k1]
  by_cases a1 : 0 <= v.N ∧ v.N <= 1
  ·rw [decide_eq_true a1]; exact four hv a1
  ·rw [decide_eq_false a1]; exact no (by rw [hv, decide_eq_false (fun h => a1 h.1)])
 rw [if_neg k1]
 by_cases k2 : v.Kind = 2
 ·rw [if_pos k2, Ti, Option.bind_some]
  have hv : yh v = decide ((-1000000000000 <= v.N ∧ v.N <= 1000000000000) ∧ v.S.length = 0 ∧ v.K.length = 0 ∧ v.L.length = 0) := by unfold yh; rw [if_neg n06, if_neg k1, if_pos k2]
  by_cases a1 : -1000000000000 <= v.N ∧ v.N <= 1000000000000
  ·rw [decide_eq_true a1]; exact four hv a1
  ·rw [decide_eq_false a1]; exact no (by rw [hv, decide_eq_false (fun h => a1 h.1)])
 rw [if_neg k2]
 by_cases k3 : v.Kind = 3
 ·rw [if_pos k3, L9 (by omega), Option.bind_some]
  have hv : yh v = (vB v.S && decide (v.N = 0 ∧ v.K.length = 0 ∧ v.L.length = 0)) := by unfold yh; rw [if_neg n06, if_neg k1, if_neg k2, if_pos k3]
  cases ht : vB v.S with
  | false => exact no (by rw [hv, ht]; rfl)
  | true =>
   rw [ht, Bool.true_and] at hv
   dsimp only
   by_cases a1 : v.N = 0
   ·rw [if_pos a1]
    by_cases a2 : v.K.length = 0
    ·rw [if_pos a2]; exact leaf (b := true) (by rw [hv]; simp [a1, a2]) rfl
    ·rw [if_neg a2]; exact no (by rw [hv, decide_eq_false (fun h => a2 h.2.1)])
   ·rw [if_neg a1]; exact no (by rw [hv, decide_eq_false (fun h => a1 h.1)])
 rw [if_neg k3]
 have ends : ∀ {b : Bool}, yh v = (b && decide (v.L.length <= 40)) → b = true → (if (v.L.length : Int) <= 40 then (G v.L ((e + 1 : Nat) : Int)).bind fun r12 => some (!r12) else some false) = some (yh v && v.L.all (shV e)) := fun h hb' => by
  by_cases h4 : v.L.length <= 40
  ·rw [if_pos (by omega), hG, Option.bind_some, h, hb', decide_eq_true h4, Bool.not_not]; rfl
  ·rw [if_neg (by omega)]; exact no (by rw [h, decide_eq_false h4, Bool.and_false])
 by_cases k4 : v.Kind = 4
 ·rw [if_pos k4]
  have hv : yh v = decide (v.N = 0 ∧ v.S.length = 0 ∧ v.K.length = 0 ∧ v.L.length <= 40) := by unfold yh; rw [if_neg n06, if_neg k1, if_neg k2, if_neg k3, if_pos k4]
  by_cases a1 : v.K.length = 0
  ·rw [if_pos a1]
   by_cases a2 : v.N = 0
   ·rw [if_pos a2]
    by_cases a3 : v.S.length = 0
    ·rw [if_pos a3]; exact ends (b := true) (by rw [hv]; simp [a1, a2, a3]) rfl
    ·rw [if_neg a3]; exact no (by rw [hv, decide_eq_false (fun h => a3 h.2.1)])
   ·rw [if_neg a2]; exact no (by rw [hv, decide_eq_false (fun h => a2 h.1)])
  ·rw [if_neg a1]; exact no (by rw [hv, decide_eq_false (fun h => a1 h.2.2.1)])
 rw [if_neg k4]
 by_cases k5 : v.Kind = 5
 ·rw [if_pos k5]
  have hv : yh v = (decide (v.K.length = v.L.length ∧ v.N = 0 ∧ v.S.length = 0 ∧ v.L.length <= 40) && wT v.K 0 v.K.length) := by unfold yh; rw [if_neg n06, if_neg k1, if_neg k2, if_neg k3, if_neg k4, if_pos k5]
  by_cases a1 : (v.K.length : Int) = (v.L.length : Int)
  ·rw [if_pos a1]
   have keys := fun (v0 v1 : Bool) => RR (G := G) (v0 := v0) (v1 := v1) (a1 := ((e + 1 : Nat) : Int)) hs v.K.length 0 f (by omega) (by omega)
   simp only [show ((0 : Nat) : Int) = 0 from rfl] at keys
   obtain ⟨z, hz⟩ := keys (decide (v.N = 0)) (decide (v.S.length = 0))
   rw [hz, Option.bind_some]
   cases hk : wT v.K 0 v.K.length with
   | false => exact no (by rw [hv, hk, Bool.and_false])
   | true =>
    rw [if_pos rfl]
    dsimp only
    by_cases a2 : v.N = 0
    ·rw [if_pos a2]
     by_cases a3 : v.S.length = 0
     ·rw [if_pos a3]
      exact ends (b := true) (by rw [hv, hk]; simp [a2, a3, show v.K.length = v.L.length by omega]) rfl
     ·rw [if_neg a3]
      exact no (by rw [hv, decide_eq_false (fun h => a3 h.2.2.1)]; rfl)
    ·rw [if_neg a2]
     exact no (by rw [hv, decide_eq_false (fun h => a2 h.2.1)]; rfl)
  ·rw [if_neg a1]; exact no (by rw [hv, decide_eq_false (fun h => a1 (by omega))]; rfl)
 rw [if_neg k5]
 exact no (by unfold yh; simp only [k0, k1, k2, k3, k4, k5, k6, or_self, if_false])
theorem Og : ∀ (N : Nat) (v : GValue), vsz v < N → vsz v <= 2 ^ 20 → ∀ (f d : Nat), 4 * vsz v + 6 <= f → d <= 2 ^ 20 → yS f v (d : Int) = some (shV d v) := by
 intro N
 induction N with
 | zero => intro v hv; omega
 | succ N ih =>
  intro v hv hs f d hf hd
  have he := xR v
  have hl := yC v.L
  have hb := kQ v.K
  obtain ⟨f, rfl, _⟩ := zo (show 0 < f by omega)
  rw [yS]
  by_cases h0 : d = 0
  ·subst h0; unfold qh; rw [if_pos (show ((0 : Nat) : Int) = 0 from rfl)]; rfl
  refine Of hs (by omega) (by omega) ?_
  obtain ⟨f, rfl, _⟩ := zo (show 0 < f by omega)
  obtain ⟨f, rfl, _⟩ := zo (show 0 < f by omega)
  obtain ⟨f, rfl, _⟩ := zo (show 0 < f by omega)
  rw [z6]
  unfold yA
  rw [zA]
  obtain ⟨r, hr, hr2⟩ := jh (G := y9 (f + 1)) (a := v.L) (f := f + 1) (e := (d : Int)) (p := shV (d - 1)) (by omega) (by omega) fun x hx => by
   have := wy hx
   rw [y9]
   unfold kc
   rw [Jn (by omega) (by omega), ih x (by omega) (by omega) f (d - 1) (by omega) (by omega)]
   rfl
  rw [hr, Option.bind_some, hr2]
def Zx (a0 : GValue) (e0 : Int) : Option Bool := none
theorem X3 (a0 : GValue) (e0 : Int) (r : Bool) (h : Zx a0 e0 = some r) : ∃ n, y9 n a0 e0 = some r := by cases h
def wq (a0 : (List GValue)) (e0 : Int) : Option Int := none
theorem ji (a0 : (List GValue)) (e0 : Int) (r : Int) (h : wq a0 e0 = some r) : ∃ n, zA n a0 e0 = some r := by cases h
def xP (a0 : (List GValue)) (e0 : Int) : Option Bool := none
theorem qF (a0 : (List GValue)) (e0 : Int) (r : Bool) (h : xP a0 e0 = some r) : ∃ n, z6 n a0 e0 = some r := by cases h
def qi (a0 : GValue) (a1 : Int) : Option Bool := if vsz a0 <= 2 ^ 20 ∧ 0 <= a1 ∧ a1 <= 2 ^ 20 then some (shV a1.toNat a0) else none
theorem WP (a0 : GValue) (a1 : Int) (r : Bool) (h : qi a0 a1 = some r) : ∃ n, yS n a0 a1 = some r := by
 unfold qi at h
 obtain ⟨⟨hs, h0, h1⟩, h⟩ := zM h
 refine ⟨4 * vsz a0 + 6, ?_⟩
 have := Og _ a0 (Nat.lt_succ_self _) hs _ a1.toNat (Nat.le_refl _) (by omega)
 rw [show ((a1.toNat : Nat) : Int) = a1 by omega] at this
 rw [this]; exact h
theorem LA : wz Zx := by
 intro a0 e0 r h
 obtain ⟨n, hn⟩ := X3 a0 e0 r h
 exact (wR n).1 a0 e0 r hn
theorem WQ : yn wq := by
 intro a0 e0 r h
 obtain ⟨n, hn⟩ := ji a0 e0 r h
 exact (wR n).2.1 a0 e0 r hn
theorem XU : zO xP := by
 intro a0 e0 r h
 obtain ⟨n, hn⟩ := qF a0 e0 r h
 exact (wR n).2.2.1 a0 e0 r hn
theorem J8 : jv qi := by
 intro a0 a1 r h
 obtain ⟨n, hn⟩ := WP a0 a1 r h
 exact (wR n).2.2.2 a0 a1 r hn
def wh (F : GValue → Option Int) : Prop := ∀ (a0 : GValue), Oc (F a0) 93 [] [.val true (zH a0)] fun r => (vi r, [])
def yG (G_impl_Value_parts : GValue → Option Int) (v1 : (List GValue)) (v2 : Int) : Nat → Int → Int → Option (Int × Int)
  | 0, _, _ => none
  | m + 1, v0, v3 =>
  if v3 < v2 then
   (z7 v3).bind fun i2 =>
   (v1[i2]?).bind fun x3 =>
   (G_impl_Value_parts x3).bind fun r4 =>
   yG G_impl_Value_parts v1 v2 m (w64 (v0 + r4)) (w64 (v3 + 1))
  else
  some (v0, v3)
theorem YD (G_impl_Value_parts : GValue → Option Int) (H_impl_Value_parts : wh G_impl_Value_parts) (v1 : (List GValue)) (v2 : Int) (m : Nat) : ∀ (v0 : Int) (v3 : Int), Ol (yG G_impl_Value_parts v1 v2 m v0 v3) 93 (ye Tryd.f93 0) ⟨[(3, vi v0), (7, vq zd v1), (8, vi v2), (9, vi v3)], [], 0⟩ fun o => match o with | ⟨o_0, o_1⟩ => (.exit 0, ⟨[(3, vi o_0), (7, vq zd v1), (8, vi v2), (9, vi o_1), (10, vb false)], [], 0⟩) := by
  induction m with
  | zero => intro v0 v3 o h; cases h
  | succ m ih => exact fun v0 v3 => tlp (
   .lI v3 v2 (fun c1 =>
    .na v3 fun i2 =>
    .ix zU v1 i2 fun x3 =>
    .cl (H_impl_Value_parts x3) fun r4 =>
    .go (ih (w64 (v0 + r4)) (w64 (v3 + 1)))) fun c1 =>
   .ret (v0, v3))
def qj (G_impl_Value_parts : GValue → Option Int) (n : Nat) (a0 : GValue) : Option Int :=
 (yG G_impl_Value_parts a0.L (a0.L.length : Int) n 1 0).bind fun ⟨o1_0, o1_1⟩ =>
 some o1_0
theorem WR (G_impl_Value_parts : GValue → Option Int) (H_impl_Value_parts : wh G_impl_Value_parts) (n : Nat) : wh (qj G_impl_Value_parts n) := fun a0 => tc (
 .le zd a0.L <|
 .lp (YD G_impl_Value_parts H_impl_Value_parts a0.L (a0.L.length : Int) n 1 0) fun ⟨o1_0, o1_1⟩ =>
 .ret o1_0) (zr Tryd.func93)
def yx : Nat → GValue → Option Int
 | 0, _ => none
 | n + 1, a0 => qj (yx n) n a0
theorem X4 (n : Nat) : wh (yx n) := by
 induction n with
 | zero => exact fun _ _ h => (by rw [yx] at h; cases h)
 | succ n ih =>
  have ih_impl_Value_parts := ih
  exact fun a0 r h => WR (yx n) ih_impl_Value_parts n a0 r (by rw [yx] at h; exact h)
theorem WS {G : GValue → Option Int} {v : GValue} {f : Nat} (hs : vsz v <= 2 ^ 20) (hf : v.L.length < f) (hG : ∀ x ∈ v.L, G x = some (((ptV x) : Nat) : Int)) : qj G f v = some (((ptV v) : Nat) : Int) := by
 have he := xR v
 have hl := yC v.L
 have loop : ∀ (d i m : Nat) (r : Int), i + d = v.L.length → d < m → 0 <= r → r <= 2 ^ 21 - xB (v.L.drop i) → ∃ z, yG G v.L (v.L.length : Int) m r (i : Int) = some (r + xB (v.L.drop i), z) := by
  intro d
  induction d with
  | zero =>
   intro i m r hi hm h0 h1
   obtain ⟨m, rfl, _⟩ := zo hm
   exact ⟨_, by rw [yG, if_neg (by omega), List.drop_eq_nil_of_le (by omega)]; simp [xB]; rfl⟩
  | succ d ih =>
   intro i m r hi hm h0 h1
   obtain ⟨m, rfl, hm'⟩ := zo hm
   have hil : i < v.L.length := by omega
   have hp : xB (v.L.drop i) = ptV v.L[i] + xB (v.L.drop (i + 1)) := by rw [xL hil]; simp only [xB]
   rw [hp] at h1 ⊢
   rw [yG, if_pos (by omega), zg, Option.bind_some, zw hil, Option.bind_some, hG _ (List.getElem_mem hil), Option.bind_some, yf (by omega), yD (by omega) (by omega)]
   obtain ⟨z, hz⟩ := ih (i + 1) m (r + ptV v.L[i]) (by omega) (by omega) (by omega) (by omega)
   exact ⟨z, by rw [hz]; congr 2; omega⟩
 have hle := VJ v.L
 obtain ⟨z, hz⟩ := loop v.L.length 0 f 1 (by omega) (by omega) (by omega) (by rw [List.drop_zero]; omega)
 rw [show ((0 : Nat) : Int) = 0 from rfl, List.drop_zero] at hz
 unfold qj
 rw [hz, U3]
 simp only [Option.bind_some]
 congr 1
theorem WU : ∀ (N : Nat) (v : GValue), vsz v < N → vsz v <= 2 ^ 20 → ∀ f : Nat, vsz v + 2 <= f → yx f v = some (((ptV v) : Nat) : Int) := by
 intro N
 induction N with
 | zero => intro v hv; omega
 | succ N ih =>
  intro v hv hs f hf
  obtain ⟨f, rfl, _⟩ := zo (show 0 < f by omega)
  have he := xR v
  have hl := yC v.L
  rw [yx]
  refine WS hs (by omega) fun x hx => ?_
  have := wy hx
  exact ih x (by omega) (by omega) f (by omega)
def wj (a0 : GValue) : Option Int := if vsz a0 <= 2 ^ 20 then some (((ptV a0) : Nat) : Int) else none
theorem YR (a0 : GValue) (r : Int) (h : wj a0 = some r) : ∃ n, yx n a0 = some r := by
 unfold wj at h
 obtain ⟨ha, h⟩ := zM h
 exact ⟨vsz a0 + 2, by rw [<- h]; exact WU _ a0 (Nat.lt_succ_self _) ha _ (Nat.le_refl _)⟩
theorem We : wh wj := by
 intro a0 r h
 obtain ⟨n, hn⟩ := YR a0 r h
 exact (X4 n) a0 r hn
def qB (a0 : GValue) : Option Bool :=
 (qi a0 5).bind fun r1 =>
 match r1 with
 | true =>
  (wj a0).bind fun r2 =>
  some (decide (r2 <= 40))
 | false =>
  some false
theorem Y2 (a0 : GValue) : Oc (qB a0) 59 [] [.val true (zH a0)] fun r => (vb r, []) := tc (
 .cl (J8 a0 5) fun r1 =>
 .vM 0 r1 (
  .az 0 0 <|
  .cl (We a0) fun r2 =>
  .az 0 1 <|
  .gD r2 40 <|
  .az 0 1 <|
  .ret (decide (r2 <= 40))) <|
 .az 0 0 <|
 .az 0 0 <|
 .az 0 0 <|
 .ret false) (zr Tryd.func59)
def jw (a0 : Int) : Option Bool :=
 some false
theorem ZX (a0 : Int) : Oc (jw a0) 133 [] [vi a0] fun r => (vb r, []) := tc (
 .q (.eTo a0 a0 (by omega)) <|
 .ret false) (zr Tryd.func133)
def w4 (a0 : Int) (a1 : Int) : Option Int :=
 (jw a0).bind fun r1 =>
 (jw a1).bind fun r2 =>
 match r1 with
 | true =>
  match r2 with
  | true =>
   some 0
  | false =>
   some (-1)
 | false =>
  match r2 with
  | true =>
   some 1
  | false =>
   if a0 < a1 then
    some (-1)
   else
   if a1 < a0 then
    some 1
   else
   some 0
theorem Zc (a0 : Int) (a1 : Int) : Oc (w4 a0 a1) 122 [] [vi a0, vi a1] fun r => (vi r, []) := tc (
 .cl (ZX a0) fun r1 =>
 .cl (ZX a1) fun r2 =>
 .vM 0 r1 (
  .vM 0 r2 (
   .ret 0) <|
  .ret (-1)) <|
 .vM 0 r2 (
  .ret 1) <|
 .lI a0 a1 (fun c3 =>
  .ret (-1)) fun c3 =>
 .lI a1 a0 (fun c4 =>
  .ret 1) fun c4 =>
 .ret 0) (zr Tryd.func122)
def WV (F : (List Int) → Option Int) : Prop := ∀ (a0 : (List Int)), Oc (F a0) 121 [] [vq vf a0] fun r => (vi r, [])
def wr (v0 : Int) (a0 : (List Int)) (v2 : Int) : Nat → Int → Option (Int ⊕ Int)
  | 0, _ => none
  | m + 1, v3 =>
  if v3 < v2 then
   (z7 v3).bind fun i2 =>
   (a0[i2]?).bind fun x3 =>
   if x3 = v0 then
    wr v0 a0 v2 m (w64 (v3 + 1))
   else
   some (.inl x3)
  else
  some (.inr v3)
theorem J9 (v0 : Int) (a0 : (List Int)) (v2 : Int) (m : Nat) : ∀ (v3 : Int), Ol (wr v0 a0 v2 m v3) 121 (ye Tryd.f121 0) ⟨[(3, vi v0), (6, vq vf a0), (7, vi v2), (8, vi v3)], [], 0⟩ fun o => match o with | .inl o_0 => (.ret, ⟨[(2, vi o_0)], [], 0⟩) | .inr (o_1) => (.exit 0, ⟨[(3, vi v0), (6, vq vf a0), (7, vi v2), (8, vi o_1), (9, vb false)], [], 0⟩) := by
  induction m with
  | zero => intro v3 o h; cases h
  | succ m ih => exact fun v3 => tlp (
   .lI v3 v2 (fun c1 =>
    .na v3 fun i2 =>
    .ix0 vf a0 i2 fun x3 =>
    .eI x3 v0 (fun c4 =>
     .go (ih (w64 (v3 + 1)))) fun c4 =>
    .ret (.inl x3)) fun c1 =>
   .ret (.inr v3))
def ZY (n : Nat) (a0 : (List Int)) : Option Int :=
 (wr 0 a0 (a0.length : Int) n 0).bind fun o1 =>
 match o1 with
 | .inl o1_0 =>
  some o1_0
 | .inr (o1_1) =>
  some 0
theorem Us (n : Nat) : WV (ZY n) := fun a0 => tc (
 .le vf a0 <|
 .l2 (J9 0 a0 (a0.length : Int) n 0) (fun o1_0 =>
  .ret o1_0) fun o1_1 =>
 .ret 0) (zr Tryd.func121)
def orI : List Int → Int
 | [] => 0
 | x :: l => if x = 0 then orI l else x
theorem Oh {a : List Int} (ha : a.length <= 2 ^ 20) : ∀ (d i m : Nat), i + d = a.length → d < m → ∃ z, wr 0 a (a.length : Int) m (i : Int) = some z ∧ (match z with | .inl x => x | .inr _ => 0) = orI (a.drop i) := by
 intro d
 induction d with
 | zero =>
  intro i m hi hm
  obtain ⟨m, rfl, _⟩ := zo hm
  refine ⟨.inr i, by rw [wr, if_neg (by omega)], ?_⟩
  rw [List.drop_eq_nil_of_le (by omega)]; rfl
 | succ d ih =>
  intro i m hi hm
  obtain ⟨m, rfl, hm'⟩ := zo hm
  have hil : i < a.length := by omega
  rw [wr, if_pos (by omega), zg, Option.bind_some, zw hil, Option.bind_some, xL hil, orI]
  by_cases h : a[i] = 0
  ·rw [if_pos h, if_pos h, yf (by omega)]
   exact ih (i + 1) m (by omega) (by omega)
  ·rw [if_neg h, if_neg h]
   exact ⟨_, rfl, rfl⟩
def jI (a0 : (List Int)) : Option Int := if a0.length <= 2 ^ 20 then some (orI a0) else none
theorem K7 (a0 : (List Int)) (r : Int) (h : jI a0 = some r) : ∃ n, ZY n a0 = some r := by
 unfold jI at h
 obtain ⟨ha, h⟩ := zM h
 obtain ⟨z, h1, h2⟩ := Oh ha a0.length 0 (a0.length + 1) (by omega) (by omega)
 refine ⟨a0.length + 1, ?_⟩
 unfold ZY
 rw [show (0 : Int) = ((0 : Nat) : Int) from rfl]
 rw [List.drop_zero] at h2
 refine (congrArg (fun x => Option.bind x _) h1).trans ?_
 rw [Option.bind_some, <- h, <- h2]
 cases z <;> rfl
theorem RS : WV jI := fun a0 r h => (K7 a0 r h).elim fun n hn => Us n a0 r hn
def wS (a0 : GStep) (a1 : GStep) : Option Int :=
 (w4 a0.Kind a1.Kind).bind fun r1 =>
 (qg a0.Key a1.Key).bind fun r2 =>
 (w4 a0.I a1.I).bind fun r3 =>
 (jI [r1, r2, r3]).bind fun r4 =>
 some r4
theorem X5 (a0 : GStep) (a1 : GStep) : Oc (wS a0 a1) 95 [] [.val true (jf a0), .val true (jf a1)] fun r => (vi r, []) := tc (
 .cl (Zc a0.Kind a1.Kind) fun r1 =>
 .cl (ZW a0.Key a1.Key) fun r2 =>
 .cl (Zc a0.I a1.I) fun r3 =>
 .vw Et [r1, r2, r3] <|
 .cl (RS [r1, r2, r3]) fun r4 =>
 .ret r4) (zr Tryd.func95)
def xQ (F : (List GStep) → (List GStep) → Option Int) : Prop := ∀ (a0 : (List GStep)) (a1 : (List GStep)), Oc (F a0 a1) 94 [] [vq zb a0, vq zb a1, .val false [.fn 95 []]] fun r => (vi r, [])
def zx (a0 : (List GStep)) (a1 : (List GStep)) (v2 : Int) : Nat → Int → Option (Int ⊕ Int)
  | 0, _ => none
  | m + 1, v3 =>
  if v3 < v2 then
   (z7 v3).bind fun i2 =>
   (a0[i2]?).bind fun x3 =>
   if (a1.length : Int) <= v3 then
    some (.inl 1)
   else
   (a1[i2]?).bind fun x5 =>
   (wS x3 x5).bind fun r6 =>
   if r6 = 0 then
    zx a0 a1 v2 m (w64 (v3 + 1))
   else
   some (.inl r6)
  else
  some (.inr v3)
theorem qC (a0 : (List GStep)) (a1 : (List GStep)) (v2 : Int) (m : Nat) : ∀ (v3 : Int), Ol (zx a0 a1 v2 m v3) 94 (ye Tryd.f94 0) ⟨[(0, vq zb a0), (1, vq zb a1), (2, .val false [.fn 95 []]), (11, vq zb a0), (12, vi v2), (13, vi v3)], [], 0⟩ fun o => match o with | .inl o_0 => (.ret, ⟨[(6, vi o_0)], [], 0⟩) | .inr (o_1) => (.exit 0, ⟨[(0, vq zb a0), (1, vq zb a1), (2, .val false [.fn 95 []]), (11, vq zb a0), (12, vi v2), (13, vi o_1), (14, vb false)], [], 0⟩) := by
  induction m with
  | zero => intro v3 o h; cases h
  | succ m ih => exact fun v3 => tlp (
   .lI v3 v2 (fun c1 =>
    .na v3 fun i2 =>
    .ix yv a0 i2 fun x3 =>
    .le zb a1 <|
    .gI (a1.length : Int) v3 (fun c4 =>
     .ret (.inl 1)) fun c4 =>
    .ag 1 <|
    .ix yv a1 i2 fun x5 =>
    .cl (X5 x3 x5) fun r6 =>
    .eI r6 0 (fun c7 =>
     .go (ih (w64 (v3 + 1)))) fun c7 =>
    .ret (.inl r6)) fun c1 =>
   .ret (.inr v3))
def yB (n : Nat) (a0 : (List GStep)) (a1 : (List GStep)) : Option Int :=
 (zx a0 a1 (a0.length : Int) n 0).bind fun o1 =>
 match o1 with
 | .inl o1_0 =>
  some o1_0
 | .inr (o1_1) =>
  if (a0.length : Int) < (a1.length : Int) then
   some (-1)
  else
  some 0
theorem jj (n : Nat) : xQ (yB n) := fun a0 a1 => tc (
 .le zb a0 <|
 .l2 (qC a0 a1 (a0.length : Int) n 0) (fun o1_0 =>
  .ret o1_0) fun o1_1 =>
 .le zb a0 <|
 .le zb a1 <|
 .lI (a0.length : Int) (a1.length : Int) (fun c2 =>
  .ret (-1)) fun c2 =>
 .ret 0) (zr Tryd.func94)
theorem Ut (a b : Int) : w4 a b = some (ki a b) := by
 unfold w4 jw ki
 rw [Option.bind_some, Option.bind_some]
 dsimp only
 split
 ·rfl
 ·split <;> rfl
theorem LB {s t : GStep} (hs : xd s = true) (ht : xd t = true) : wS s t = some (Qk s t) := by
 unfold wS Qk
 rw [Ut, Option.bind_some, show qg s.Key t.Key = some (Lib.compareBytes s.Key t.Key) from rfl, Option.bind_some, Ut, Option.bind_some]
 unfold jI
 rw [if_pos (by simp), Option.bind_some]
 congr 1
 simp only [orI]
 by_cases c : s.Kind = t.Kind
 ·rw [if_pos c, if_pos (Qj.2 c)]
  unfold xd at hs ht
  by_cases k0 : s.Kind = 0
  ·have k0' : t.Kind = 0 := by omega
   rw [if_pos k0, Bool.and_eq_true] at hs
   rw [if_pos k0', Bool.and_eq_true] at ht
   have e1 := of_decide_eq_true hs.2
   have e2 := of_decide_eq_true ht.2
   rw [e1, e2, R5, show (if s.Kind = 1 then (0 : Int) else Lib.compareBytes s.Key t.Key) = Lib.compareBytes s.Key t.Key from if_neg (by omega)]
   by_cases h : Lib.compareBytes s.Key t.Key = 0
   ·rw [if_pos h, h, if_pos rfl]
   ·rw [if_neg h]
  ·have k0' : ¬ t.Kind = 0 := by omega
   rw [if_neg k0] at hs
   rw [if_neg k0'] at ht
   have hs := of_decide_eq_true hs
   have ht := of_decide_eq_true ht
   rw [hs.2.1, ht.2.1, show Lib.compareBytes [] [] = 0 from rfl, if_pos rfl, show (if s.Kind = 1 then ki s.I t.I else 0) = ki s.I t.I from if_pos hs.1]
   by_cases h : ki s.I t.I = 0
   ·rw [if_pos h, h]
   ·rw [if_neg h]
 ·rw [if_neg c, if_neg (fun h => c (Qj.1 h))]
theorem Oi {a b : List GStep} (ha : a.length <= 2 ^ 40) (hsa : a.all xd = true) (hsb : b.all xd = true) : ∀ (la lb p q : List GStep) (m : Nat), a = p ++ la → b = q ++ lb → p.length = q.length → la.length < m → ∃ z, zx a b (a.length : Int) m (p.length : Int) = some z ∧ jN la lb = (match z with | .inl c => c | .inr _ => if (a.length : Int) < (b.length : Int) then -1 else 0) := by
 intro la
 induction la with
 | nil =>
  intro lb p q m ea eb hpq hm
  obtain ⟨m, rfl, _⟩ := zo hm
  refine ⟨.inr (p.length : Int), by rw [zx, ea, List.append_nil, if_neg (by omega)], ?_⟩
  have l1 : a.length = p.length := by rw [ea]; simp
  have l2 : b.length = q.length + lb.length := by rw [eb]; simp
  cases lb with
  | nil => simp only [List.length_nil] at l2; dsimp only; rw [if_neg (by omega)]; rfl
  | cons y lb => simp only [List.length_cons] at l2; dsimp only; rw [if_pos (by omega)]; rfl
 | cons x la ih =>
  intro lb p q m ea eb hpq hm
  obtain ⟨m, rfl, hm'⟩ := zo hm
  have l1 : a.length = p.length + (la.length + 1) := by rw [ea]; simp
  have l2 : b.length = q.length + lb.length := by rw [eb]; simp
  simp only [List.length_cons] at hm'
  have ga : a[p.length]? = some x := by rw [ea]; exact zZ p x la
  cases lb with
  | nil =>
   simp only [List.length_nil] at l2
   exact ⟨.inl 1, by rw [zx, if_pos (by omega), zg, Option.bind_some, ga, Option.bind_some, if_pos (by omega)], rfl⟩
  | cons y lb =>
   simp only [List.length_cons] at l2
   have gb : b[p.length]? = some y := by rw [eb, hpq]; exact zZ q y lb
   rw [zx, if_pos (by omega), zg, Option.bind_some, ga, Option.bind_some, if_neg (by omega), gb, Option.bind_some, LB (List.all_eq_true.1 hsa x (by rw [ea]; simp)) (List.all_eq_true.1 hsb y (by rw [eb]; simp)), Option.bind_some, jN]
   by_cases c : Qk x y = 0
   ·rw [if_pos c, if_pos c, yj p x (by omega)]
    exact ih lb (p ++ [x]) (q ++ [y]) m (by rw [ea]; simp) (by rw [eb]; simp) (by simp [hpq]) (by omega)
   ·rw [if_neg c, if_neg c]
    exact ⟨_, rfl, rfl⟩
def zP (a0 : (List GStep)) (a1 : (List GStep)) : Option Int := if a0.length <= 2 ^ 40 ∧ a0.all xd = true ∧ a1.all xd = true then some (jN a0 a1) else none
theorem qG (a0 : (List GStep)) (a1 : (List GStep)) (r : Int) (h : zP a0 a1 = some r) : ∃ n, yB n a0 a1 = some r := by
 unfold zP at h
 obtain ⟨⟨h0, h1, h2⟩, h⟩ := zM h
 obtain ⟨z, hz, hr⟩ := Oi h0 h1 h2 a0 a1 [] [] (a0.length + 1) rfl rfl rfl (by omega)
 refine ⟨a0.length + 1, ?_⟩
 unfold yB
 simp only [List.length_nil, Int.natCast_zero] at hz
 rw [hz, Option.bind_some, <- h, hr]
 cases z with
 | inl c => rfl
 | inr c => dsimp only; split <;> rfl
theorem ja : xQ zP := fun a0 a1 r h => (qG a0 a1 r h).elim fun n hn => jj n a0 a1 r hn
def zQ (a0 : (List GStep)) (a1 : (List GStep)) : Option Int :=
 (zP a0 a1).bind fun r1 =>
 some r1
theorem yL (a0 : (List GStep)) (a1 : (List GStep)) : Oc (zQ a0 a1) 61 [] [vq zb a0, vq zb a1] fun r => (vi r, []) := tc (
 .cl (ja a0 a1) fun r1 =>
 .ret r1) (zr Tryd.func61)
def jb (a0 : GValue) : Option Bool :=
 if a0.Kind = 0 then
  if a0.N = 0 then
   if (a0.S.length : Int) = 0 then
    if (a0.K.length : Int) = 0 then
     some (decide ((a0.L.length : Int) = 0))
    else
    some false
   else
   some false
  else
  some false
 else
 some false
theorem YS (a0 : GValue) : Oc (jb a0) 60 [] [.val true (zH a0)] fun r => (vb r, []) := tc (
 .eI a0.Kind 0 (fun c1 =>
  .eI a0.N 0 (fun c2 =>
   .le za a0.S <|
   .eI (a0.S.length : Int) 0 (fun c3 =>
    .le (zL za) a0.K <|
    .eI (a0.K.length : Int) 0 (fun c4 =>
     .le zd a0.L <|
     .eD (a0.L.length : Int) 0 <|
     .ret (decide ((a0.L.length : Int) = 0))) fun c4 =>
    .ret false) fun c3 =>
   .ret false) fun c2 =>
  .ret false) fun c1 =>
 .ret false) (zr Tryd.func60)
end
end Go.Am.Try
