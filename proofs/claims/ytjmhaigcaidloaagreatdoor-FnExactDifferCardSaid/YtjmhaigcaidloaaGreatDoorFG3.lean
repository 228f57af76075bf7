/- The functions of the program in plain Lean, and that the machine answers as they do; conditions at each theorem. -/
import Derived.Test.YtjmhaigcaidloaaGreatDoorFG2
set_option linter.unusedVariables false
set_option linter.unusedSimpArgs false
namespace Go.Am.Try
open Go.Am Go.Proofs
set_option linter.unusedVariables false
set_option maxRecDepth 20000
set_option maxHeartbeats 2000000
noncomputable section
def XE (F : (List (List UInt8)) → Option Bool) : Prop := ∀ (a0 : (List (List UInt8))), Oc (F a0) 135 [] [vq (zq za) a0] fun r => (vb r, [])
def yO (a0 : (List (List UInt8))) (v1 : Int) : Nat → Int → Option (Bool ⊕ Int)
  | 0, _ => none
  | m + 1, v2 =>
  if v2 < v1 then
   (zy v2).bind fun i2 =>
   (a0[i2]?).bind fun x3 =>
   (qB x3).bind fun r4 =>
   match r4 with
   | true =>
    if 0 < v2 then
     (zy (w64 (v2 - 1))).bind fun i6 =>
     (a0[i6]?).bind fun x7 =>
     (yn x7 x3).bind fun r8 =>
     if 0 <= r8 then
      some (.inl false)
     else
     yO a0 v1 m (w64 (v2 + 1))
    else
    yO a0 v1 m (w64 (v2 + 1))
   | false =>
    some (.inl false)
  else
  some (.inr v2)
theorem Qy (a0 : (List (List UInt8))) (v1 : Int) (m : Nat) : ∀ (v2 : Int), Ol (yO a0 v1 m v2) 135 (zL Tryz.f135 0) ⟨[(0, vq (zq za) a0), (5, vq (zq za) a0), (6, vi v1), (7, vi v2)], [], 0⟩ fun o => match o with | .inl o_0 => (.ret, ⟨[(2, vb o_0)], [], 0⟩) | .inr (o_1) => (.exit 0, ⟨[(0, vq (zq za) a0), (5, vq (zq za) a0), (6, vi v1), (7, vi o_1), (8, vb false)], [], 0⟩) := by
  induction m with
  | zero => intro v2 o h; cases h
  | succ m ih => exact fun v2 => tlp (
   .lI v2 v1 (fun c1 =>
    .na v2 fun i2 =>
    .ix0 (zq za) a0 i2 fun x3 =>
    .cl (Z7 x3) fun r4 =>
    .vN 0 r4 (
     .an 0 0 <|
     .lI 0 v2 (fun c5 =>
      .an 0 0 <|
      .na (w64 (v2 - 1)) fun i6 =>
      .ix0 (zq za) a0 i6 fun x7 =>
      .cl (wz x7 x3) fun r8 =>
      .gI 0 r8 (fun c9 =>
       .an 0 3 <|
       .an 1 3 <|
       .ret (.inl false)) fun c9 =>
      .an 0 3 <|
      .an 1 3 <|
      .go (ih (w64 (v2 + 1)))) fun c5 =>
     .an 0 0 <|
     .an 8 0 <|
     .an 1 0 <|
     .go (ih (w64 (v2 + 1)))) <|
    .an 0 0 <|
    .an 0 0 <|
    .an 0 0 <|
    .an 0 0 <|
    .ret (.inl false)) fun c1 =>
   .ret (.inr v2))
def Zk (n : Nat) (a0 : (List (List UInt8))) : Option Bool :=
 (yO a0 (a0.length : Int) n 0).bind fun o1 =>
 match o1 with
 | .inl o1_0 =>
  some o1_0
 | .inr (o1_1) =>
  some (decide ((a0.length : Int) <= 8))
theorem VN (n : Nat) : XE (Zk n) := fun a0 => tc (
 .le (zq za) a0 <|
 .l2 (Qy a0 (a0.length : Int) n 0) (fun o1_0 =>
  .ret o1_0) fun o1_1 =>
 .le (zq za) a0 <|
 .gD (a0.length : Int) 8 <|
 .ret (decide ((a0.length : Int) <= 8))) (zj Tryz.func135)
theorem Nd (c : UInt8) : ∀ b : List UInt8, Lib.indexByte b c = if b.dropWhile (fun x => decide (x ≠ c)) = [] then -1 else (((b.takeWhile fun x => decide (x ≠ c)).length : Nat) : Int)
 | [] => rfl
 | x :: b => by
  have ih := Nd c b
  rw [Lib.indexByte, List.dropWhile_cons, List.takeWhile_cons]
  by_cases h : x = c
  ·subst h; simp
  ·have hb : (x == c) = false := by simpa using h
   have hd : decide (x ≠ c) = true := decide_eq_true h
   rw [hb, if_neg (by simp), if_pos hd, if_pos hd, ih]
   by_cases hd : b.dropWhile (fun x => decide (x ≠ c)) = []
   ·rw [if_pos hd, if_pos hd]; rfl
   ·rw [if_neg hd, if_neg hd, if_neg (by simp), List.length_cons]; omega
theorem Nf (a : List UInt8) (c : UInt8) : jM a [c] = some (Lib.indexByte a c) := by
 unfold jM vd w7
 rw [if_neg (by simp), if_pos (by simp)]
 rfl
theorem Ba {a : List UInt8} (h : a.length <= 2 ^ 20) : ZN a [91] = some (jX a, (qU a).drop 1, decide (qU a ≠ [])) := by
 have hix : jM a [91] = some (if qU a = [] then -1 else ((jX a).length : Int)) := by rw [Nf, Nd]; rfl
 unfold ZN
 have hlen := PX a
 by_cases hr : qU a = []
 ·have hn := Rh a
  rw [hr, List.append_nil] at hn
  rw [hix, if_pos hr, Option.bind_some, if_neg (by omega), hr, hn]; rfl
 ·obtain ⟨t, ht⟩ := OY hr
  have e : w64 (((jX a).length : Int) + (([91] : List UInt8).length : Int)) = (((jX a).length + 1 : Nat) : Int) := by
   show w64 (((jX a).length : Int) + 1) = _
   exact zC (by omega)
  have hl2 := hlen
  rw [ht, List.length_cons] at hl2
  rw [hix, if_neg hr, Option.bind_some, if_pos (by omega), zc, Option.bind_some, Rf (by omega), Option.bind_some, OW, e, zc, Option.bind_some, WX (by omega), Option.bind_some, decide_eq_true hr, <- List.drop_drop, OX]
theorem DK (s : List UInt8) (c : UInt8) (h : s.length <= 2 ^ 20) : qY s [c] = some (decide (s.getLast? = some c)) := by
 unfold qY
 rw [show (([c] : List UInt8).length : Int) = 1 from rfl]
 rcases List.eq_nil_or_concat s with rfl | ⟨l, x, rfl⟩
 ·rw [if_neg (by simp)]; rfl
 ·simp only [List.concat_eq_append, List.length_append, List.length_cons, List.length_nil] at h ⊢
  rw [if_pos (by omega), show w64 (((l.length + (0 + 1) : Nat) : Int) - 1) = (l.length : Int) by rw [xt (by omega) (by omega)]; omega, zc, Option.bind_some, WX (by simp), Option.bind_some, List.drop_left]
  unfold qA
  rw [Option.bind_some, List.getLast?_concat]
  congr 1
  exact decide_eq_decide.2 (by simp)
theorem Jm (s : List UInt8) (c : UInt8) (h : s.length <= 2 ^ 20) : wT s [c] = some (if s.getLast? = some c then (s.dropLast, true) else (s, false)) := by
 unfold wT
 rw [DK s c h, Option.bind_some]
 by_cases hc : s.getLast? = some c
 ·rw [decide_eq_true hc, if_pos hc]
  dsimp only
  have h0 : 0 < s.length := by
   cases s with
   | nil => simp at hc
   | cons x s => simp
  rw [show (([c] : List UInt8).length : Int) = 1 from rfl, qS (by omega) h0, zc, Option.bind_some, Rf (by omega), Option.bind_some, List.dropLast_eq_take]
 ·rw [decide_eq_false hc, if_neg hc]
theorem Ng (s : List UInt8) (c : UInt8) : qZ s [c] = some (if s[0]? = some c then (s.drop 1, true) else (s, false)) := by
 unfold qZ ve qA
 rw [show (([c] : List UInt8).length : Int) = ((1 : Nat) : Int) from rfl]
 cases s with
 | nil => rw [if_neg (by simp)]; rfl
 | cons x s =>
  rw [if_pos (by simp; omega), zc, Option.bind_some, Rf (by simp), Option.bind_some, Option.bind_some, Option.bind_some]
  show (match decide ([x] = [c]) with | true => _ | false => _) = _
  by_cases hc : x = c
  ·subst hc
   rw [decide_eq_true rfl]
   dsimp only
   rw [Option.bind_some, WX (by simp), Option.bind_some]
   simp
  ·rw [decide_eq_false (by simpa using hc), if_neg (by simpa using hc)]
theorem ON : ∀ n : Fin 100, jq ((n.val : Nat) : Int) = some (XK n.val) := by
 have h1 : ∀ n : Fin 100, qu ((n.val : Nat) : Int) = some (XK n.val) := by decide +kernel
 intro n
 unfold jq q5 wy
 rw [if_pos rfl, if_pos (by omega), if_pos (by omega), h1]; rfl
theorem Nh : ∀ n : Fin 100, Lib.atoiAll (XK n.val) = .ok ((n.val : Nat) : Int) := by decide +kernel
theorem G6 : ∀ n : Fin 100, WY (XK n.val) = true := by decide +kernel
theorem Ni {l : List UInt8} (h : WY l = true) : ∃ n : Fin 100, l = XK n.val := by
 unfold WY at h
 simp only [Bool.and_eq_true, Bool.not_eq_true', decide_eq_true_eq] at h
 obtain ⟨⟨⟨h1, h2⟩, h3⟩, h4⟩ := h
 match l, h1, h2 with
 | [x], _, _ =>
  simp only [List.all_cons, List.all_nil, Bool.and_true, inB, Bool.and_eq_true, decide_eq_true_eq] at h4
  refine ⟨⟨x.toNat - 48, by omega⟩, ?_⟩
  unfold XK
  rw [if_pos (by simp only; omega)]
  simp only [List.cons.injEq, and_true]
  refine UInt8.toNat_inj.1 ?_
  rw [UInt8.toNat_ofNat_of_lt' (by show _ < 256; omega)]; omega
 | [x, y], _, _ =>
  simp only [List.all_cons, List.all_nil, Bool.and_true, inB, Bool.and_eq_true, decide_eq_true_eq] at h4
  have hx : x.toNat ≠ 48 := fun e => by
   have : x = 48 := UInt8.toNat_inj.1 e
   subst this
   simp at h3
  refine ⟨⟨(x.toNat - 48) * 10 + (y.toNat - 48), by omega⟩, ?_⟩
  unfold XK
  rw [if_neg (by simp only; omega)]
  simp only [List.cons.injEq, and_true]
  constructor
  ·refine UInt8.toNat_inj.1 ?_
   rw [UInt8.toNat_ofNat_of_lt' (by show _ < 256; omega)]; omega
  ·refine UInt8.toNat_inj.1 ?_
   rw [UInt8.toNat_ofNat_of_lt' (by show _ < 256; omega)]; omega
theorem OO {a : List UInt8} (h : a.length <= 2 ^ 20) : wg a = some (qf a) := if_pos h
theorem LO {l : List UInt8} (hl : l.length <= 2 ^ 20) : ((ql l).bind fun ⟨n, e⟩ =>
  match e with
  | true => some false
  | false => (we n 0 99).bind fun r13 =>
   match r13 with
   | true => (jq n).bind fun r15 => some (decide (r15 = l))
   | false => some false) = some (WY l) := by
 unfold ql
 rw [if_pos (by omega), Option.bind_some]
 cases hd : WY l with
 | true =>
  obtain ⟨n, rfl⟩ := Ni hd
  have hr : ym (XK n.val) = (((n.val : Nat) : Int), false) := by unfold ym; rw [Nh n]
  have hn := n.isLt
  rw [hr]
  dsimp only
  rw [XD, Option.bind_some, decide_eq_true (show (0 : Int) <= ((n.val : Nat) : Int) ∧ ((n.val : Nat) : Int) <= 99 by omega)]
  dsimp only
  rw [ON n, Option.bind_some, decide_eq_true rfl]
 | false =>
  obtain ⟨n, e⟩ := ym l
  cases e with
  | true => rfl
  | false =>
   dsimp only
   rw [XD, Option.bind_some]
   by_cases hn : (0 : Int) <= n ∧ n <= 99
   ·rw [decide_eq_true hn]
    dsimp only
    have := ON ⟨n.toNat, by omega⟩
    rw [show (((⟨n.toNat, by omega⟩ : Fin 100).val : Nat) : Int) = n by simp only; omega] at this
    rw [this, Option.bind_some]
    congr 1
    refine decide_eq_false fun e => ?_
    rw [<- e, G6] at hd; cases hd
   ·rw [decide_eq_false hn]
theorem Jn {a : List UInt8} (h : a.length <= 2 ^ 20) : qB a = some (yA a) := by
 unfold qB
 have hlen := PX a
 rw [Ba h, Option.bind_some]
 dsimp only
 rw [OO (by omega), Option.bind_some]
 unfold yA
 cases hn : qf (jX a) with
 | false => rfl
 | true =>
  dsimp only
  by_cases hr : qU a = []
  ·rw [decide_eq_false (fun h => h hr), if_pos hr]; rfl
  rw [decide_eq_true hr, if_neg hr]
  dsimp only
  have ht : ((qU a).drop 1).length <= 2 ^ 20 := by rw [List.length_drop]; omega
  generalize (qU a).drop 1 = t at ht ⊢
  rw [Jm t 93 ht, Option.bind_some]
  by_cases h93 : t.getLast? = some 93
  ·rw [if_pos h93, if_pos h93]
   dsimp only
   have hl : t.dropLast.length <= 2 ^ 20 := by rw [List.length_dropLast]; omega
   generalize t.dropLast = l at hl ⊢
   rw [Ng, Option.bind_some]
   unfold LV
   by_cases h34 : l[0]? = some 34
   ·rw [if_pos h34, if_pos h34]
    dsimp only
    rw [Jm _ 34 (by rw [List.length_drop]; omega), Option.bind_some]
    by_cases h2 : (l.drop 1).getLast? = some 34
    ·rw [if_pos h2, if_pos h2]
     dsimp only
     rw [OO (by rw [List.length_dropLast, List.length_drop]; omega), Option.bind_some]; rfl
    ·rw [if_neg h2, if_neg h2]; rfl
   ·rw [if_neg h34, if_neg h34]
    dsimp only
    rw [Jm _ 34 hl, Option.bind_some]
    by_cases h2 : l.getLast? = some 34
    ·rw [if_pos h2]
     dsimp only
     have hd : WY l = false := by
      unfold WY
      have : l.all (inB 48 57) = false := by
       rcases List.eq_nil_or_concat l with rfl | ⟨k, x, rfl⟩
       ·simp at h2
       ·rw [List.concat_eq_append, List.getLast?_concat] at h2
        injection h2 with h2
        subst h2
        simp [inB]
      rw [this, Bool.and_false]
     rw [hd]; rfl
    ·rw [if_neg h2]
     dsimp only
     exact LO hl
  ·rw [if_neg h93, if_neg h93]
   dsimp only
   rw [Ng, Option.bind_some]
   by_cases h34 : t[0]? = some 34
   ·rw [if_pos h34]
    dsimp only
    rw [Jm _ 34 (by rw [List.length_drop]; omega), Option.bind_some]
    rfl
   ·rw [if_neg h34]
    dsimp only
    rw [Jm _ 34 ht, Option.bind_some]
    by_cases h2 : t.getLast? = some 34
    ·rw [if_pos h2]; rfl
    ·rw [if_neg h2]
     dsimp only
     unfold ql
     rw [if_pos (by omega), Option.bind_some]
     obtain ⟨n, e⟩ := ym t
     cases e <;> rfl
theorem Um {a : List (List UInt8)} (hs : ∀ x ∈ a, x.length <= 2 ^ 20) (ha : a.length <= 2 ^ 40) : ∀ (d i m : Nat), i + d = a.length → d < m → ∃ z, yO a (a.length : Int) m (i : Int) = some (if q8 yA id a i d = true then .inr z else .inl false) := by
 intro d
 induction d with
 | zero =>
  intro i m hi hm
  obtain ⟨m, rfl, _⟩ := zf hm
  exact ⟨_, by rw [yO, if_neg (by omega)]; rfl⟩
 | succ d ih =>
  intro i m hi hm
  obtain ⟨m, rfl, hm'⟩ := zf hm
  have hil : i < a.length := by omega
  rw [yO, if_pos (by omega), zc, Option.bind_some, zg hil, Option.bind_some, Jn (hs _ (List.getElem_mem hil)), Option.bind_some, XL]
  obtain ⟨z, hz⟩ := ih (i + 1) m (by omega) (by omega)
  cases hx : yA a[i] with
  | false =>
   refine ⟨0, ?_⟩
   have : gOk yA id a i = false := by
    unfold gOk; rw [zg hil]; simp [hx]
   rw [this]; rfl
  | true =>
   dsimp only
   by_cases h0 : 0 < i
   ·rw [if_pos (by omega), qS (by omega) h0, zc, Option.bind_some, zg (show i - 1 < a.length by omega), Option.bind_some, J1 hil h0, hx, Bool.true_and, zC (by omega), hz]
    unfold yn xu
    simp only [Option.bind_some]
    by_cases hl : Op.bytesLess a[i - 1] a[i] = true
    ·rw [if_neg (by rw [ZC]; exact fun h => h hl), show Op.bytesLess (id a[i - 1]) (id a[i]) = true from hl, Bool.true_and]; exact ⟨z, rfl⟩
    ·rw [if_pos (by rw [ZC]; exact hl), show Op.bytesLess (id a[i - 1]) (id a[i]) = false from Bool.eq_false_iff.2 hl]; exact ⟨z, rfl⟩
   ·obtain rfl : i = 0 := by omega
    rw [if_neg (by omega), WZ hil, hx, Bool.true_and, zC (by omega), hz]
    exact ⟨z, rfl⟩
def wN (a0 : (List (List UInt8))) : Option Bool := if bsz a0 <= 2 ^ 20 then some (kD a0) else none
theorem Jo (a0 : (List (List UInt8))) (r : Bool) (h : wN a0 = some r) : ∃ n, Zk n a0 = some r := by
 unfold wN at h
 obtain ⟨ha, h⟩ := zM h
 have hl := wQ a0
 obtain ⟨z, hz⟩ := Um (a := a0) (fun x hx => by have := ZB hx; omega) (by omega) a0.length 0 (a0.length + 1) (by omega) (by omega)
 refine ⟨a0.length + 1, ?_⟩
 unfold Zk
 rw [show ((0 : Nat) : Int) = 0 from rfl] at hz
 rw [<- h, hz, Option.bind_some]
 unfold kD
 cases q8 yA id a0 0 a0.length
 ·rw [Bool.and_false]; rfl
 ·rw [Bool.and_true]
  show some (decide ((a0.length : Int) <= 8)) = _
  congr 1
  exact decide_eq_decide.2 (by omega)
theorem YZ : XE wN := fun a0 r h => (Jo a0 r h).elim fun n hn => VN n a0 r hn
def wA (a0 : GEntry) (a1 : (List UInt8)) : Option Int :=
 (yn a0.Addr a1).bind fun r1 =>
 some r1
theorem kY (a0 : GEntry) (a1 : (List UInt8)) : Oc (wA a0 a1) 163 [] [.val true (ZA a0), vq za a1] fun r => (vi r, []) := tc (
 .cl (wz a0.Addr a1) fun r1 =>
 .ret r1) (zj Tryz.func163)
def xc (F : (List GEntry) → (List UInt8) → Option (Int × Bool)) : Prop := ∀ (a0 : (List GEntry)) (a1 : (List UInt8)), Oc (F a0 a1) 162 [] [vq zr a0, vq za a1, .val false [.fn 163 []]] fun r => (.tup [(false, [ci r.1]), (false, [.bool r.2])], [])
def zb (a0 : (List GEntry)) (a1 : (List UInt8)) (v2 : Int) : Nat → Int → Int → Option (Int × Int)
  | 0, _, _ => none
  | m + 1, v3, v4 =>
  if v3 < v4 then
   (zy (w64 (YM .shr .u64 (IntKind.u64.wrap (w64 (v3 + v4))) 1))).bind fun i2 =>
   (a0[i2]?).bind fun x3 =>
   (wA x3 a1).bind fun r4 =>
   if r4 < 0 then
    zb a0 a1 v2 m (w64 ((w64 (YM .shr .u64 (IntKind.u64.wrap (w64 (v3 + v4))) 1)) + 1)) v4
   else
   zb a0 a1 v2 m v3 (w64 (YM .shr .u64 (IntKind.u64.wrap (w64 (v3 + v4))) 1))
  else
  some (v3, v4)
theorem qd (a0 : (List GEntry)) (a1 : (List UInt8)) (v2 : Int) (m : Nat) : ∀ (v3 : Int) (v4 : Int), Ol (zb a0 a1 v2 m v3 v4) 162 (zL Tryz.f162 0) ⟨[(0, vq zr a0), (1, vq za a1), (2, .val false [.fn 163 []]), (8, vi v2), (9, vi v3), (10, vi v4)], [], 0⟩ fun o => match o with | ⟨o_0, o_1⟩ => (.exit 0, ⟨[(0, vq zr a0), (1, vq za a1), (2, .val false [.fn 163 []]), (8, vi v2), (9, vi o_0), (10, vi o_1), (17, vb false)], [], 0⟩) := by
  induction m with
  | zero => intro v3 v4 o h; cases h
  | succ m ih => exact fun v3 v4 => tlp (
   .lI v3 v4 (fun c1 =>
    .q (.gTo 0 1 (by decide)) <|
    .cw (YM .shr .u64 (IntKind.u64.wrap (w64 (v3 + v4))) 1) <|
    .na (w64 (YM .shr .u64 (IntKind.u64.wrap (w64 (v3 + v4))) 1)) fun i2 =>
    .ix zS a0 i2 fun x3 =>
    .cl (kY x3 a1) fun r4 =>
    .lI r4 0 (fun c5 =>
     .go (ih (w64 ((w64 (YM .shr .u64 (IntKind.u64.wrap (w64 (v3 + v4))) 1)) + 1)) v4)) fun c5 =>
    .go (ih v3 (w64 (YM .shr .u64 (IntKind.u64.wrap (w64 (v3 + v4))) 1)))) fun c1 =>
   .ret (v3, v4))
def zE (n : Nat) (a0 : (List GEntry)) (a1 : (List UInt8)) : Option (Int × Bool) :=
 (zb a0 a1 (a0.length : Int) n 0 (a0.length : Int)).bind fun ⟨o1_0, o1_1⟩ =>
 if o1_0 < (a0.length : Int) then
  (zy o1_0).bind fun i3 =>
  (a0[i3]?).bind fun x4 =>
  (wA x4 a1).bind fun r5 =>
  some (o1_0, (decide (r5 = 0)))
 else
 some (o1_0, false)
theorem q6 (n : Nat) : xc (zE n) := fun a0 a1 => tc (
 .le zr a0 <|
 .lp (qd a0 a1 (a0.length : Int) n 0 (a0.length : Int)) fun ⟨o1_0, o1_1⟩ =>
 .lI o1_0 (a0.length : Int) (fun c2 =>
  .na o1_0 fun i3 =>
  .ix zS a0 i3 fun x4 =>
  .cl (kY x4 a1) fun r5 =>
  .eD r5 0 <|
  .ret (o1_0, (decide (r5 = 0)))) fun c2 =>
 .ret (o1_0, false)) (zj Tryz.func162)
theorem JH (e : GEntry) (x : List UInt8) : wA e x = some (Lib.compareBytes e.Addr x) := rfl
theorem EA {a : List GEntry} {x : List UInt8} {v2 : Int} (ha : a.length <= 2 ^ 40) : ∀ (d i j m : Nat), j - i <= d → i <= j → j <= a.length → d < m → ∃ c c' : Nat, c <= a.length ∧ zb a x v2 m (i : Int) (j : Int) = some ((c : Int), (c' : Int)) := by
 intro d
 induction d with
 | zero =>
  intro i j m hd h1 h3 hm
  obtain ⟨m, rfl, _⟩ := zf hm
  exact ⟨i, j, by omega, by rw [zb, if_neg (by omega)]⟩
 | succ d ih =>
  intro i j m hd h1 h3 hm
  obtain ⟨m, rfl, hm'⟩ := zf hm
  by_cases hij : i < j
  ·have hk : (i + j) / 2 < a.length := by omega
   rw [zb, if_pos (by omega), Ns (by omega), zc, Option.bind_some, zg hk, Option.bind_some, JH, Option.bind_some]
   split
   ·rw [zC (by omega)]
    exact ih _ _ m (by omega) (by omega) h3 (by omega)
   ·exact ih _ _ m (by omega) (by omega) (by omega) (by omega)
  ·exact ⟨i, j, by omega, by rw [zb, if_neg (by omega)]⟩
theorem G7 {a : List GEntry} {x : List UInt8} {c : Nat} {v2 : Int} (hp : WV (a.map GEntry.Addr) x c) (ha : a.length <= 2 ^ 40) : ∀ (d i j m : Nat), j - i <= d → i <= c → c <= j → j <= a.length → d < m → zb a x v2 m (i : Int) (j : Int) = some ((c : Int), (c : Int)) := by
 intro d
 induction d with
 | zero =>
  intro i j m hd h1 h2 h3 hm
  obtain ⟨m, rfl, _⟩ := zf hm
  rw [zb, if_neg (by omega), show i = c by omega, show j = c by omega]
 | succ d ih =>
  intro i j m hd h1 h2 h3 hm
  obtain ⟨m, rfl, hm'⟩ := zf hm
  by_cases hij : i < j
  ·have hk : (i + j) / 2 < a.length := by omega
   rw [zb, if_pos (by omega), Ns (by omega), zc, Option.bind_some, zg hk, Option.bind_some, JH, Option.bind_some]
   have hq := hp.2 ((i + j) / 2) (by rw [List.length_map]; exact hk)
   rw [List.getElem_map] at hq
   by_cases hl : Op.bytesLess a[(i + j) / 2].Addr x = true
   ·rw [if_pos (by rw [Tk]; exact hl), zC (by omega)]
    have := hq.2 hl
    exact ih _ _ m (by omega) (by omega) h2 h3 (by omega)
   ·rw [if_neg (by rw [Tk]; exact hl)]
    have : ¬ (i + j) / 2 < c := fun h => hl (hq.1 h)
    exact ih _ _ m (by omega) h1 (by omega) (by omega) (by omega)
  ·rw [zb, if_neg (by omega), show i = c by omega, show j = c by omega]
def zu (a0 : (List GEntry)) (a1 : (List UInt8)) : Option (Int × Bool) := zE (a0.length + 5) a0 a1
theorem qj (a0 : (List GEntry)) (a1 : (List UInt8)) (r : (Int × Bool)) (h : zu a0 a1 = some r) : ∃ n, zE n a0 a1 = some r := ⟨_, h⟩
theorem B5 {a : List GEntry} {x : List UInt8} (ha : a.length <= 2 ^ 40) : ∃ (c : Nat) (b : Bool), zu a x = some ((c : Int), b) := by
 unfold zu zE
 obtain ⟨c, c', hc, hl⟩ := EA (x := x) (v2 := (a.length : Int)) ha a.length 0 a.length (a.length + 5) (by omega) (by omega) (Nat.le_refl _) (by omega)
 rw [show ((0 : Nat) : Int) = 0 from rfl] at hl
 rw [hl, Option.bind_some]
 dsimp only
 by_cases h : c < a.length
 ·rw [if_pos (by omega), zc, Option.bind_some, zg h, Option.bind_some, JH, Option.bind_some]
  exact ⟨c, _, rfl⟩
 ·rw [if_neg (by omega)]
  exact ⟨c, _, rfl⟩
theorem Xa {l : List GEntry} {a : List UInt8} : y5 l a = true ↔ a ∈ l.map GEntry.Addr := by
 unfold y5
 rw [List.any_eq_true, List.mem_map]
 constructor
 ·rintro ⟨e, he, h⟩; exact ⟨e, he, of_decide_eq_true h⟩
 ·rintro ⟨e, he, rfl⟩; exact ⟨e, he, decide_eq_true rfl⟩
theorem Nj {a : List GEntry} {x : List UInt8} (ha : a.length <= 2 ^ 40) (h : Asc (a.map GEntry.Addr)) : ∃ c : Nat, WV (a.map GEntry.Addr) x c ∧ zu a x = some ((c : Int), y5 a x) := by
 obtain ⟨c, hp⟩ := WV.of h x
 refine ⟨c, hp, ?_⟩
 have hm := WV.mem h hp
 have hcl : c <= a.length := by have := hp.1; rwa [List.length_map] at this
 unfold zu zE
 have hl := G7 (v2 := (a.length : Int)) hp ha a.length 0 a.length (a.length + 5) (by omega) (by omega) hcl (Nat.le_refl _) (by omega)
 rw [show ((0 : Nat) : Int) = 0 from rfl] at hl
 rw [hl, Option.bind_some]
 dsimp only
 have hb : y5 a x = decide ((a.map GEntry.Addr)[c]? = some x) := by
  cases hx : y5 a x with
  | true => exact (decide_eq_true (hm.2 (Xa.1 hx))).symm
  | false => exact (decide_eq_false fun h' => by rw [Xa.2 (hm.1 h')] at hx; cases hx).symm
 rw [hb, List.getElem?_map]
 by_cases hc : c < a.length
 ·rw [if_pos (by omega), zc, Option.bind_some, zg hc, Option.bind_some, JH, Option.bind_some]
  congr 2
  exact decide_eq_decide.2 ((PS _ _).trans (by simp))
 ·rw [if_neg (by omega), List.getElem?_eq_none (by omega)]
  simp
theorem q4 : xc zu := fun a0 a1 r h => (qj a0 a1 r h).elim fun n hn => q6 n a0 a1 r hn
def ye (a0 : GState) (a1 : (List UInt8)) : Option (Int × Bool) :=
 (zu a0.Entries a1).bind fun ⟨r1_0, r1_1⟩ =>
 some (r1_0, r1_1)
theorem js (a0 : GState) (a1 : (List UInt8)) : Oc (ye a0 a1) 118 [] [.val true (zw a0), vq za a1] fun r => (.tup [(false, [ci r.1]), (false, [.bool r.2])], []) := tc (
 .cl (q4 a0.Entries a1) fun ⟨r1_0, r1_1⟩ =>
 .ret (r1_0, r1_1)) (zj Tryz.func118)
def Wh (F : GState → Option Bool) : Prop := ∀ (a0 : GState), Oc (F a0) 78 [] [.val true (zw a0)] fun r => (vb r, [])
def xg (v0 : (List GEntry)) (v1 : Int) (a0 : GState) : Nat → Int → Option (Bool ⊕ Int)
  | 0, _ => none
  | m + 1, v2 =>
  if v2 < v1 then
   (zy v2).bind fun i2 =>
   (v0[i2]?).bind fun x3 =>
   (qB x3.Addr).bind fun r4 =>
   match r4 with
   | true =>
    if 0 < v2 then
     (zy (w64 (v2 - 1))).bind fun i6 =>
     (a0.Entries[i6]?).bind fun x7 =>
     (yn x7.Addr x3.Addr).bind fun r8 =>
     if 0 <= r8 then
      some (.inl false)
     else
     (wV x3.Val).bind fun r10 =>
     match r10 with
     | true =>
      (wN x3.Deps).bind fun r11 =>
      match r11 with
      | true =>
       (we x3.Turned 1 a0.Serial).bind fun r12 =>
       match r12 with
       | true =>
        xg v0 v1 a0 m (w64 (v2 + 1))
       | false =>
        some (.inl false)
      | false =>
       some (.inl false)
     | false =>
      some (.inl false)
    else
    (wV x3.Val).bind fun r6 =>
    match r6 with
    | true =>
     (wN x3.Deps).bind fun r7 =>
     match r7 with
     | true =>
      (we x3.Turned 1 a0.Serial).bind fun r8 =>
      match r8 with
      | true =>
       xg v0 v1 a0 m (w64 (v2 + 1))
      | false =>
       some (.inl false)
     | false =>
      some (.inl false)
    | false =>
     some (.inl false)
   | false =>
    some (.inl false)
  else
  some (.inr v2)
theorem Jp (v0 : (List GEntry)) (v1 : Int) (a0 : GState) (m : Nat) : ∀ (v2 : Int), Ol (xg v0 v1 a0 m v2) 78 (zL Tryz.f78 0) ⟨[(1, vp 0 0), (18, vq zr v0), (19, vi v1), (20, vi v2)], [.var (zw a0)], 0⟩ fun o => match o with | .inl o_0 => (.ret, ⟨[(2, vb o_0)], [], 0⟩) | .inr (o_1) => (.exit 0, ⟨[(1, vp 0 0), (18, vq zr v0), (19, vi v1), (20, vi o_1), (21, vb false)], [.var (zw a0)], 0⟩) := by
  induction m with
  | zero => intro v2 o h; cases h
  | succ m ih => exact fun v2 => tlp (
   .lI v2 v1 (fun c1 =>
    .na v2 fun i2 =>
    .ix zS v0 i2 fun x3 =>
    .cl (Z7 x3.Addr) fun r4 =>
    .vN 0 r4 (
     .an 0 0 <|
     .lI 0 v2 (fun c5 =>
      .an 0 0 <|
      .na (w64 (v2 - 1)) fun i6 =>
      .ix zS a0.Entries i6 fun x7 =>
      .cl (wz x7.Addr x3.Addr) fun r8 =>
      .gI 0 r8 (fun c9 =>
       .an 0 3 <|
       .an 1 3 <|
       .ret (.inl false)) fun c9 =>
      .an 0 3 <|
      .an 1 3 <|
      .cl (ZY x3.Val) fun r10 =>
      .vN 2 r10 (
       .an 0 0 <|
       .an 0 0 <|
       .cl (YZ x3.Deps) fun r11 =>
       .an 0 1 <|
       .an 0 1 <|
       .vN 0 r11 (
        .an 0 0 <|
        .an 0 0 <|
        .an 0 0 <|
        .an 0 0 <|
        .cl (qJ x3.Turned 1 a0.Serial) fun r12 =>
        .an 0 1 <|
        .an 0 1 <|
        .vN 0 r12 (
         .go (ih (w64 (v2 + 1)))) <|
        .ret (.inl false)) <|
       .an 0 0 <|
       .an 0 0 <|
       .an 0 0 <|
       .an 0 0 <|
       .an 0 0 <|
       .an 0 0 <|
       .ret (.inl false)) <|
      .an 0 0 <|
      .an 0 0 <|
      .an 0 0 <|
      .an 0 0 <|
      .ret (.inl false)) fun c5 =>
     .an 0 0 <|
     .an 11 0 <|
     .an 1 0 <|
     .cl (ZY x3.Val) fun r6 =>
     .vN 2 r6 (
      .an 0 0 <|
      .an 0 0 <|
      .cl (YZ x3.Deps) fun r7 =>
      .an 0 1 <|
      .an 0 1 <|
      .vN 0 r7 (
       .an 0 0 <|
       .an 0 0 <|
       .an 0 0 <|
       .an 0 0 <|
       .cl (qJ x3.Turned 1 a0.Serial) fun r8 =>
       .an 0 1 <|
       .an 0 1 <|
       .vN 0 r8 (
        .go (ih (w64 (v2 + 1)))) <|
       .ret (.inl false)) <|
      .an 0 0 <|
      .an 0 0 <|
      .an 0 0 <|
      .an 0 0 <|
      .an 0 0 <|
      .an 0 0 <|
      .ret (.inl false)) <|
     .an 0 0 <|
     .an 0 0 <|
     .an 0 0 <|
     .an 0 0 <|
     .ret (.inl false)) <|
    .an 0 0 <|
    .an 0 0 <|
    .an 0 0 <|
    .an 0 0 <|
    .ret (.inl false)) fun c1 =>
   .ret (.inr v2))
def kV (n : Nat) (a0 : GState) : Option Bool :=
 (we a0.Serial 0 1000000).bind fun r1 =>
 match r1 with
 | true =>
  if 16 < (a0.Entries.length : Int) then
   some false
  else
  (xg a0.Entries (a0.Entries.length : Int) a0 n 0).bind fun o3 =>
  match o3 with
  | .inl o3_0 =>
   some o3_0
  | .inr (o3_1) =>
   if (a0.Pending.length : Int) = 0 then
    some (decide (a0.Act = 0))
   else
   (ye a0 a0.Pending).bind fun ⟨r5_0, r5_1⟩ =>
   match a0.Open with
   | true =>
    (qB a0.Pending).bind fun r6 =>
    match r6 with
    | true =>
     (we a0.Act 1 4).bind fun r7 =>
     match r7 with
     | true =>
      if r5_1 = true then
       if a0.Act = 1 then
        some false
       else
       some true
      else
      if a0.Act = 1 then
       some true
      else
      some false
     | false =>
      some false
    | false =>
     some false
   | false =>
    some false
 | false =>
  some false
theorem Td (n : Nat) : Wh (kV n) := fun a0 => tc (
 .cl (qJ a0.Serial 0 1000000) fun r1 =>
 .vN 0 r1 (
  .an 0 0 <|
  .an 0 0 <|
  .le zr a0.Entries <|
  .an 0 0 <|
  .lI 16 (a0.Entries.length : Int) (fun c2 =>
   .an 0 0 <|
   .ret false) fun c2 =>
  .an 0 0 <|
  .le zr a0.Entries <|
  .l2 (Jp a0.Entries (a0.Entries.length : Int) a0 n 0) (fun o3_0 =>
   .ret o3_0) fun o3_1 =>
  .le za a0.Pending <|
  .eI (a0.Pending.length : Int) 0 (fun c4 =>
   .eD a0.Act 0 <|
   .ret (decide (a0.Act = 0))) fun c4 =>
  .cl (js a0 a0.Pending) fun ⟨r5_0, r5_1⟩ =>
  .vM 0 a0.Open (
   .az 0 0 <|
   .az 0 0 <|
   .cl (Z7 a0.Pending) fun r6 =>
   .az 0 1 <|
   .vM 0 r6 (
    .az 0 0 <|
    .az 0 0 <|
    .cl (qJ a0.Act 1 4) fun r7 =>
    .az 0 1 <|
    .vM 0 r7 (
     .az 0 0 <|
     .az 0 0 <|
     .az 0 0 <|
     .eD a0.Act 1 <|
     .az 0 0 <|
     .sp (r5_1 = true) (fun c8 =>
      .sp (a0.Act = 1) (fun c9 =>
       .eb c8 (nT (dT c9)) <|
       .az 0 0 <|
       .ret false) fun c9 =>
      .eb c8 (nF (dF c9)) <|
      .az 0 0 <|
      .ret true) fun c8 =>
     .sp (a0.Act = 1) (fun c9 =>
      .eb (bF c8) (nT (dT c9)) <|
      .az 0 0 <|
      .ret true) fun c9 =>
     .eb (bF c8) (nF (dF c9)) <|
     .az 0 0 <|
     .ret false) <|
    .az 0 0 <|
    .az 0 0 <|
    .az 0 0 <|
    .az 0 0 <|
    .az 0 0 <|
    .ret false) <|
   .az 0 0 <|
   .az 0 0 <|
   .az 0 0 <|
   .ret false) <|
  .az 0 0 <|
  .az 0 0 <|
  .az 0 0 <|
  .ret false) <|
 .an 0 0 <|
 .an 0 0 <|
 .an 0 0 <|
 .an 0 0 <|
 .ret false) (zj Tryz.func78)
theorem Bb {v : GValue} (h : vsz v <= 2 ^ 20) : qi v = some (Zp v) := by
 unfold qi wM xF Zp
 rw [if_pos ⟨h, by decide, by decide⟩, Option.bind_some]
 rw [show (5 : Int).toNat = 5 from rfl]
 cases hs : shV 5 v
 ·simp
 ·dsimp only
  rw [if_pos h, Option.bind_some]
  simp
theorem Nk {v : GValue} (h : vsz v <= 2 ^ 20) : wV v = some (ZO v) := by
 unfold wV YY ZO
 by_cases h5 : v.Kind = 5
 ·rw [if_pos h5, Bb h, Option.bind_some, decide_eq_true h5, Bool.true_and]
  cases hv : Zp v with
  | false => rfl
  | true =>
   simp only [Bool.true_and]
   unfold wI
   rw [if_pos (by omega)]; rfl
 ·rw [if_neg h5, decide_eq_false h5]; rfl
theorem LP {l : List (List UInt8)} (h : bsz l <= 2 ^ 20) : wN l = some (kD l) := if_pos h
theorem PB {s : GState} (hs : xT s.Entries <= 2 ^ 20) : ∀ (d i m : Nat), i + d = s.Entries.length → d < m → ∃ z, xg s.Entries (s.Entries.length : Int) s m (i : Int) = some (if q8 (Yr s.Serial) GEntry.Addr s.Entries i d = true then .inr z else .inl false) := by
 have hlen := qx s.Entries
 intro d
 induction d with
 | zero =>
  intro i m hi hm
  obtain ⟨m, rfl, _⟩ := zf hm
  exact ⟨_, by rw [xg, if_neg (by omega)]; rfl⟩
 | succ d ih =>
  intro i m hi hm
  obtain ⟨m, rfl, hm'⟩ := zf hm
  have hil : i < s.Entries.length := by omega
  have hz0 := ZE (List.getElem_mem hil)
  obtain ⟨z, hz⟩ := ih (i + 1) m (by omega) (by omega)
  rw [xg, if_pos (by omega), zc, Option.bind_some, zg hil, Option.bind_some, XL]
  unfold esz at hz0
  rw [Jn (by omega), Option.bind_some, Nk (by omega), Option.bind_some, LP (by omega), Option.bind_some, XD, Option.bind_some, zC (by omega), hz]
  generalize q8 _ GEntry.Addr s.Entries (i + 1) d = g
  by_cases h0 : 0 < i
  ·rw [J1 hil h0]
   unfold Yr
   cases yA s.Entries[i].Addr with
   | false => exact ⟨0, rfl⟩
   | true =>
    dsimp only
    rw [if_pos (by omega), qS (by omega) h0, zc, Option.bind_some, zg (show i - 1 < s.Entries.length by omega), Option.bind_some]
    unfold yn xu
    simp only [Option.bind_some]
    have hc := ZC s.Entries[i - 1].Addr s.Entries[i].Addr
    generalize Lib.compareBytes s.Entries[i - 1].Addr s.Entries[i].Addr = q at hc ⊢
    generalize Op.bytesLess s.Entries[i - 1].Addr s.Entries[i].Addr = b at hc ⊢
    refine ⟨z, ?_⟩
    cases b with
    | true =>
     rw [if_neg (by rw [hc]; exact fun h => h rfl)]
     cases ZO s.Entries[i].Val <;> cases kD s.Entries[i].Deps <;> cases decide (1 <= s.Entries[i].Turned ∧ s.Entries[i].Turned <= s.Serial) <;> simp
    | false =>
     rw [if_pos (by rw [hc]; simp)]
     simp
  ·obtain rfl : i = 0 := by omega
   rw [WZ hil]
   unfold Yr
   cases yA s.Entries[0].Addr with
   | false => exact ⟨0, rfl⟩
   | true =>
    dsimp only
    rw [if_neg (by omega)]
    refine ⟨z, ?_⟩
    cases ZO s.Entries[0].Val <;> cases kD s.Entries[0].Deps <;> cases decide (1 <= s.Entries[0].Turned ∧ s.Entries[0].Turned <= s.Serial) <;> simp
def qk (a0 : GState) : Option Bool := if ssz a0 <= 2 ^ 20 then some (stB a0) else none
theorem TF {s : GState} (h : ssz s <= 2 ^ 20) : qk s = some (stB s) := if_pos h
theorem O3 {s : GState} (h : ssz s <= 2 ^ 20) : kV (s.Entries.length + 1) s = some (stB s) := by
 have hlen := qx s.Entries
 unfold ssz at h
 obtain ⟨z, hz⟩ := PB (s := s) (by omega) s.Entries.length 0 (s.Entries.length + 1) (by omega) (by omega)
 rw [show ((0 : Nat) : Int) = 0 from rfl] at hz
 unfold kV
 rw [XD, Option.bind_some]
 unfold stB
 by_cases h1 : (0 : Int) <= s.Serial ∧ s.Serial <= 1000000
 ·rw [decide_eq_true h1]
  dsimp only
  by_cases h2 : (16 : Int) < (s.Entries.length : Int)
  ·rw [if_pos h2, decide_eq_false (p := 0 <= s.Serial ∧ s.Serial <= 1000000 ∧ s.Entries.length <= 16) (by omega)]; rfl
  rw [if_neg h2, hz, decide_eq_true (p := 0 <= s.Serial ∧ s.Serial <= 1000000 ∧ s.Entries.length <= 16) (by omega), Bool.true_and]
  have he : Ri s = q8 (Yr s.Serial) GEntry.Addr s.Entries 0 s.Entries.length := rfl
  cases hg : q8 (Yr s.Serial) GEntry.Addr s.Entries 0 s.Entries.length with
  | false => rw [he, hg]; rfl
  | true =>
   rw [he, hg, Bool.true_and]
   simp only [if_true, Option.bind_some]
   unfold LW
   by_cases hp : s.Pending = []
   ·rw [if_pos (by rw [hp]; rfl), if_pos hp]
   ·have hp0 : ¬ (s.Pending.length : Int) = 0 := fun e => hp (List.eq_nil_of_length_eq_zero (by omega))
    rw [if_neg hp0, if_neg hp]
    unfold ye
    obtain ⟨c, _, hc⟩ := Nj (x := s.Pending) (a := s.Entries) (by omega) (PY hg)
    rw [hc, Option.bind_some, Option.bind_some]
    dsimp only
    rw [Jn (by omega), Option.bind_some, XD, Option.bind_some]
    cases s.Open
    ·rfl
    cases yA s.Pending
    ·rfl
    by_cases ha : (1 : Int) <= s.Act ∧ s.Act <= 4
    ·rw [decide_eq_true ha]
     by_cases h1 : s.Act = 1 <;> cases y5 s.Entries s.Pending <;> simp [h1]
    ·rw [decide_eq_false ha]; rfl
 ·rw [decide_eq_false h1, decide_eq_false (p := 0 <= s.Serial ∧ s.Serial <= 1000000 ∧ s.Entries.length <= 16) (fun h => h1 ⟨h.1, h.2.1⟩)]; rfl
theorem Kb (a0 : GState) (r : Bool) (h : qk a0 = some r) : ∃ n, kV n a0 = some r := by
 unfold qk at h
 obtain ⟨ha, h⟩ := zM h
 exact ⟨_, by rw [<- h]; exact O3 ha⟩
theorem XF : Wh qk := fun a0 r h => (Kb a0 r h).elim fun n hn => Td n a0 r hn
def kj (a0 : Int) : Option Bool :=
 some false
theorem Xb (a0 : Int) : Oc (kj a0) 183 [] [vi a0] fun r => (vb r, []) := tc (
 .q (.eTo a0 a0 (by omega)) <|
 .ret false) (zj Tryz.func183)
def xZ (a0 : Int) (a1 : Int) : Option Int :=
 (kj a0).bind fun r1 =>
 (kj a1).bind fun r2 =>
 match r1 with
 | true =>
  match r2 with
  | true =>
   some 0
  | false =>
   some (-1)
 | false =>
  match r2 with
  | true =>
   some 1
  | false =>
   if a0 < a1 then
    some (-1)
   else
   if a1 < a0 then
    some 1
   else
   some 0
theorem kB (a0 : Int) (a1 : Int) : Oc (xZ a0 a1) 161 [] [vi a0, vi a1] fun r => (vi r, []) := tc (
 .cl (Xb a0) fun r1 =>
 .cl (Xb a1) fun r2 =>
 .vM 0 r1 (
  .vM 0 r2 (
   .ret 0) <|
  .ret (-1)) <|
 .vM 0 r2 (
  .ret 1) <|
 .lI a0 a1 (fun c3 =>
  .ret (-1)) fun c3 =>
 .lI a1 a0 (fun c4 =>
  .ret 1) fun c4 =>
 .ret 0) (zj Tryz.func161)
def Jq (F : (List Int) → Option Int) : Prop := ∀ (a0 : (List Int)), Oc (F a0) 160 [] [vq vX a0] fun r => (vi r, [])
def wO (v0 : Int) (a0 : (List Int)) (v2 : Int) : Nat → Int → Option (Int ⊕ Int)
  | 0, _ => none
  | m + 1, v3 =>
  if v3 < v2 then
   (zy v3).bind fun i2 =>
   (a0[i2]?).bind fun x3 =>
   if x3 = v0 then
    wO v0 a0 v2 m (w64 (v3 + 1))
   else
   some (.inl x3)
  else
  some (.inr v3)
theorem KM (v0 : Int) (a0 : (List Int)) (v2 : Int) (m : Nat) : ∀ (v3 : Int), Ol (wO v0 a0 v2 m v3) 160 (zL Tryz.f160 0) ⟨[(3, vi v0), (6, vq vX a0), (7, vi v2), (8, vi v3)], [], 0⟩ fun o => match o with | .inl o_0 => (.ret, ⟨[(2, vi o_0)], [], 0⟩) | .inr (o_1) => (.exit 0, ⟨[(3, vi v0), (6, vq vX a0), (7, vi v2), (8, vi o_1), (9, vb false)], [], 0⟩) := by
  induction m with
  | zero => intro v3 o h; cases h
  | succ m ih => exact fun v3 => tlp (
   .lI v3 v2 (fun c1 =>
    .na v3 fun i2 =>
    .ix0 vX a0 i2 fun x3 =>
    .eI x3 v0 (fun c4 =>
     .go (ih (w64 (v3 + 1)))) fun c4 =>
    .ret (.inl x3)) fun c1 =>
   .ret (.inr v3))
def Xc (n : Nat) (a0 : (List Int)) : Option Int :=
 (wO 0 a0 (a0.length : Int) n 0).bind fun o1 =>
 match o1 with
 | .inl o1_0 =>
  some o1_0
 | .inr (o1_1) =>
  some 0
theorem PC (n : Nat) : Jq (Xc n) := fun a0 => tc (
 .le vX a0 <|
 .l2 (KM 0 a0 (a0.length : Int) n 0) (fun o1_0 =>
  .ret o1_0) fun o1_1 =>
 .ret 0) (zj Tryz.func160)
def orI : List Int → Int
 | [] => 0
 | x :: l => if x = 0 then orI l else x
theorem LQ {a : List Int} (ha : a.length <= 2 ^ 20) : ∀ (d i m : Nat), i + d = a.length → d < m → ∃ z, wO 0 a (a.length : Int) m (i : Int) = some z ∧ (match z with | .inl x => x | .inr _ => 0) = orI (a.drop i) := by
 intro d
 induction d with
 | zero =>
  intro i m hi hm
  obtain ⟨m, rfl, _⟩ := zf hm
  refine ⟨.inr i, by rw [wO, if_neg (by omega)], ?_⟩
  rw [List.drop_eq_nil_of_le (by omega)]; rfl
 | succ d ih =>
  intro i m hi hm
  obtain ⟨m, rfl, hm'⟩ := zf hm
  have hil : i < a.length := by omega
  rw [wO, if_pos (by omega), zc, Option.bind_some, zg hil, Option.bind_some, xi hil, orI]
  by_cases h : a[i] = 0
  ·rw [if_pos h, if_pos h, zC (by omega)]
   exact ih (i + 1) m (by omega) (by omega)
  ·rw [if_neg h, if_neg h]
   exact ⟨_, rfl, rfl⟩
def jt (a0 : (List Int)) : Option Int := if a0.length <= 2 ^ 20 then some (orI a0) else none
theorem VO (a0 : (List Int)) (r : Int) (h : jt a0 = some r) : ∃ n, Xc n a0 = some r := by
 unfold jt at h
 obtain ⟨ha, h⟩ := zM h
 obtain ⟨z, h1, h2⟩ := LQ ha a0.length 0 (a0.length + 1) (by omega) (by omega)
 refine ⟨a0.length + 1, ?_⟩
 unfold Xc
 rw [show (0 : Int) = ((0 : Nat) : Int) from rfl]
 rw [List.drop_zero] at h2
 refine (congrArg (fun x => Option.bind x _) h1).trans ?_
 rw [Option.bind_some, <- h, <- h2]
 cases z <;> rfl
theorem Un : Jq jt := fun a0 r h => (VO a0 r h).elim fun n hn => PC n a0 r hn
def xQ (F : GValue → GValue → Option Int) : Prop := ∀ (a0 : GValue) (a1 : GValue), Oc (F a0 a1) 113 [] [.val true (z8 a0), .val true (z8 a1)] fun r => (vi r, [])
def zO (G_impl_compareValues : GValue → GValue → Option Int) (v0 : Int) (a0 : GValue) (a1 : GValue) : Nat → Int → Option (Int ⊕ Int)
  | 0, _ => none
  | m + 1, v1 =>
  if v1 < v0 then
   if a0.Kind = 5 then
    (zy v1).bind fun i3 =>
    (a0.K[i3]?).bind fun x4 =>
    (a1.K[i3]?).bind fun x5 =>
    (yn x4 x5).bind fun r6 =>
    if r6 = 0 then
     (a0.L[i3]?).bind fun x8 =>
     (a1.L[i3]?).bind fun x9 =>
     (G_impl_compareValues x8 x9).bind fun r10 =>
     if r10 = 0 then
      zO G_impl_compareValues v0 a0 a1 m (w64 (v1 + 1))
     else
     some (.inl r10)
    else
    some (.inl r6)
   else
   (zy v1).bind fun i3 =>
   (a0.L[i3]?).bind fun x4 =>
   (a1.L[i3]?).bind fun x5 =>
   (G_impl_compareValues x4 x5).bind fun r6 =>
   if r6 = 0 then
    zO G_impl_compareValues v0 a0 a1 m (w64 (v1 + 1))
   else
   some (.inl r6)
  else
  some (.inr v1)
theorem Xd (G_impl_compareValues : GValue → GValue → Option Int) (H_impl_compareValues : xQ G_impl_compareValues) (v0 : Int) (a0 : GValue) (a1 : GValue) (m : Nat) : ∀ (v1 : Int), Ol (zO G_impl_compareValues v0 a0 a1 m v1) 113 (zL Tryz.f113 0) ⟨[(2, vp 0 0), (3, vp 1 0), (35, vi v0), (36, vi v1)], [.var (z8 a0), .var (z8 a1)], 0⟩ fun o => match o with | .inl o_0 => (.ret, ⟨[(4, vi o_0)], [], 0⟩) | .inr (o_1) => (.exit 0, ⟨[(2, vp 0 0), (3, vp 1 0), (35, vi v0), (36, vi o_1), (37, vb false)], [.var (z8 a0), .var (z8 a1)], 0⟩) := by
  induction m with
  | zero => intro v1 o h; cases h
  | succ m ih => exact fun v1 => tlp (
   .lI v1 v0 (fun c1 =>
    .eI a0.Kind 5 (fun c2 =>
     .na v1 fun i3 =>
     .ix0 (zq za) a0.K i3 fun x4 =>
     .ag 1 <|
     .ix0 (zq za) a1.K i3 fun x5 =>
     .cl (wz x4 x5) fun r6 =>
     .eI r6 0 (fun c7 =>
      .ag 3 <|
      .ix zR a0.L i3 fun x8 =>
      .ag 4 <|
      .ix zR a1.L i3 fun x9 =>
      .cl (H_impl_compareValues x8 x9) fun r10 =>
      .eI r10 0 (fun c11 =>
       .go (ih (w64 (v1 + 1)))) fun c11 =>
      .ret (.inl r10)) fun c7 =>
     .ret (.inl r6)) fun c2 =>
    .na v1 fun i3 =>
    .ix zR a0.L i3 fun x4 =>
    .ag 1 <|
    .ix zR a1.L i3 fun x5 =>
    .cl (H_impl_compareValues x4 x5) fun r6 =>
    .eI r6 0 (fun c7 =>
     .go (ih (w64 (v1 + 1)))) fun c7 =>
    .ret (.inl r6)) fun c1 =>
   .ret (.inr v1))
def qe (G_impl_compareValues : GValue → GValue → Option Int) (n : Nat) (a0 : GValue) (a1 : GValue) : Option Int :=
 (xZ a0.Kind a1.Kind).bind fun r1 =>
 (xZ a0.N a1.N).bind fun r2 =>
 (yn a0.S a1.S).bind fun r3 =>
 (jt [r1, r2, r3]).bind fun r4 =>
 if r4 = 0 then
  (zO G_impl_compareValues (if (a1.L.length : Int) < (a0.L.length : Int) then (a1.L.length : Int) else (a0.L.length : Int)) a0 a1 n 0).bind fun o6 =>
  match o6 with
  | .inl o6_0 =>
   some o6_0
  | .inr (o6_1) =>
   (xZ (a0.L.length : Int) (a1.L.length : Int)).bind fun r7 =>
   some r7
 else
 some r4
theorem WL (G_impl_compareValues : GValue → GValue → Option Int) (H_impl_compareValues : xQ G_impl_compareValues) (n : Nat) : xQ (qe G_impl_compareValues n) := fun a0 a1 => tc (
 .cl (kB a0.Kind a1.Kind) fun r1 =>
 .cl (kB a0.N a1.N) fun r2 =>
 .cl (wz a0.S a1.S) fun r3 =>
 .vw DY [r1, r2, r3] <|
 .cl (Un [r1, r2, r3]) fun r4 =>
 .eI r4 0 (fun c5 =>
  .le zd a0.L <|
  .le zd a1.L <|
  .l2 (Xd G_impl_compareValues H_impl_compareValues (if (a1.L.length : Int) < (a0.L.length : Int) then (a1.L.length : Int) else (a0.L.length : Int)) a0 a1 n 0) (fun o6_0 =>
   .ret o6_0) fun o6_1 =>
  .le zd a0.L <|
  .le zd a1.L <|
  .cl (kB (a0.L.length : Int) (a1.L.length : Int)) fun r7 =>
  .ret r7) fun c5 =>
 .ret r4) (zj Tryz.func113)
def zJ : Nat → GValue → GValue → Option Int
 | 0, _, _ => none
 | n + 1, a0, a1 => qe (zJ n) n a0 a1
theorem XQ (n : Nat) : xQ (zJ n) := by
 induction n with
 | zero => exact fun _ _ _ h => (by rw [zJ] at h; cases h)
 | succ n ih =>
  have ih_impl_compareValues := ih
  exact fun a0 a1 r h => WL (zJ n) ih_impl_compareValues n a0 a1 r (by rw [zJ] at h; exact h)
def xR (a0 : GValue) (a1 : GValue) : Option Int := zJ (vsz a0 + 3) a0 a1
theorem Xl (a0 : GValue) (a1 : GValue) (r : Int) (h : xR a0 a1 = some r) : ∃ n, zJ n a0 a1 = some r := ⟨_, h⟩
theorem Wj : xQ xR := by
 intro a0 a1 r h
 obtain ⟨n, hn⟩ := Xl a0 a1 r h
 exact (XQ n) a0 a1 r hn
def w5 (a0 : (List UInt8)) : Option (List UInt8) :=
 if wj 1 (0 + a0.length) then
 some a0
 else none
theorem vg (a0 : (List UInt8)) : Oc (w5 a0) 119 [] [vq za a0] fun r => (.val false [.own 1 (eL za r)], []) := tc (
 .ap 1 yd [] a0 fun n1 =>
 .ret a0) (zj Tryz.func119)
def Qn (F : GState → GState → Option (List (List UInt8))) : Prop := ∀ (a0 : GState) (a1 : GState), Oc (F a0 a1) 62 [] [.val true (zw a0), .val true (zw a1)] fun r => (.val false [.own 1 (eL (yD 1 za) r)], [])
def yP (v0 : (List GEntry)) (v1 : Int) (a0 : GState) (a1 : GState) : Nat → Int → (List (List UInt8)) → Option (Int × (List (List UInt8)))
  | 0, _, _ => none
  | m + 1, v2, v5 =>
  if v2 < v1 then
   (zy v2).bind fun i2 =>
   (v0[i2]?).bind fun x3 =>
   (ye a1 x3.Addr).bind fun ⟨r4_0, r4_1⟩ =>
   match r4_1 with
   | true =>
    (zy r4_0).bind fun i5 =>
    (a1.Entries[i5]?).bind fun x6 =>
    (xR x3.Val x6.Val).bind fun r7 =>
    if r7 = 0 then
     yP v0 v1 a0 a1 m (w64 (v2 + 1)) v5
    else
    (w5 x3.Addr).bind fun r9 =>
    if wj 24 (v5.length + [r9].length) then
    yP v0 v1 a0 a1 m (w64 (v2 + 1)) (v5 ++ [r9])
    else none
   | false =>
    (w5 x3.Addr).bind fun r5 =>
    if wj 24 (v5.length + [r5].length) then
    yP v0 v1 a0 a1 m (w64 (v2 + 1)) (v5 ++ [r5])
    else none
  else
  some (v2, v5)
theorem Kc (v0 : (List GEntry)) (v1 : Int) (a0 : GState) (a1 : GState) (m : Nat) : ∀ (v2 : Int) (v5 : (List (List UInt8))), Ol (yP v0 v1 a0 a1 m v2 v5) 62 (zL Tryz.f62 0) ⟨[(2, vp 0 0), (3, vp 1 0), (5, vr 2), (24, vq zr v0), (25, vi v1), (26, vi v2)], [.var (zw a0), .var (zw a1), .obj 1 (eL (yD 1 za) v5)], 0⟩ fun o => match o with | ⟨o_0, o_1⟩ => (.exit 0, ⟨[(2, vp 0 0), (3, vp 1 0), (5, vr 2), (24, vq zr v0), (25, vi v1), (26, vi o_0), (27, vb false)], [.var (zw a0), .var (zw a1), .obj 1 (eL (yD 1 za) o_1)], 0⟩) := by
  induction m with
  | zero => intro v2 v5 o h; cases h
  | succ m ih => exact fun v2 v5 => tlp (
   .lI v2 v1 (fun c1 =>
    .na v2 fun i2 =>
    .ix zS v0 i2 fun x3 =>
    .cl (js a1 x3.Addr) fun ⟨r4_0, r4_1⟩ =>
    .vN 0 r4_1 (
     .an 0 0 <|
     .an 0 0 <|
     .an 0 0 <|
     .an 0 0 <|
     .an 0 0 <|
     .na r4_0 fun i5 =>
     .ix zS a1.Entries i5 fun x6 =>
     .an 0 2 <|
     .an 0 2 <|
     .an 0 2 <|
     .cl (Wj x3.Val x6.Val) fun r7 =>
     .an 0 3 <|
     .eI r7 0 (fun c8 =>
      .an 0 3 <|
      .go (ih (w64 (v2 + 1)) v5)) fun c8 =>
     .an 0 3 <|
     .cl (vg x3.Addr) fun r9 =>
     .ao 24 (jb 1 wG) v5 [r9] fun n10 =>
     .go (ih (w64 (v2 + 1)) (v5 ++ [r9]))) <|
    .an 0 0 <|
    .an 0 0 <|
    .an 0 0 <|
    .an 0 0 <|
    .an 0 0 <|
    .an 0 0 <|
    .an 0 0 <|
    .an 0 0 <|
    .an 0 0 <|
    .an 0 0 <|
    .cl (vg x3.Addr) fun r5 =>
    .ao 24 (jb 1 wG) v5 [r5] fun n6 =>
    .go (ih (w64 (v2 + 1)) (v5 ++ [r5]))) fun c1 =>
   .ret (v2, v5))
def xv (v0 : (List GEntry)) (v1 : Int) (a0 : GState) : Nat → Int → (List (List UInt8)) → Option (Int × (List (List UInt8)))
  | 0, _, _ => none
  | m + 1, v2, v4 =>
  if v2 < v1 then
   (zy v2).bind fun i2 =>
   (v0[i2]?).bind fun x3 =>
   (ye a0 x3.Addr).bind fun ⟨r4_0, r4_1⟩ =>
   match r4_1 with
   | true =>
    xv v0 v1 a0 m (w64 (v2 + 1)) v4
   | false =>
    (w5 x3.Addr).bind fun r5 =>
    if wj 24 (v4.length + [r5].length) then
    xv v0 v1 a0 m (w64 (v2 + 1)) (v4 ++ [r5])
    else none
  else
  some (v2, v4)
theorem Kd (v0 : (List GEntry)) (v1 : Int) (a0 : GState) (m : Nat) : ∀ (v2 : Int) (v4 : (List (List UInt8))), Ol (xv v0 v1 a0 m v2 v4) 62 (zL Tryz.f62 1) ⟨[(2, vp 0 0), (5, vr 1), (59, vq zr v0), (60, vi v1), (61, vi v2)], [.var (zw a0), .obj 1 (eL (yD 1 za) v4)], 0⟩ fun o => match o with | ⟨o_0, o_1⟩ => (.exit 2, ⟨[(2, vp 0 0), (5, vr 1), (59, vq zr v0), (60, vi v1), (61, vi o_0), (62, vb false)], [.var (zw a0), .obj 1 (eL (yD 1 za) o_1)], 0⟩) := by
  induction m with
  | zero => intro v2 v4 o h; cases h
  | succ m ih => exact fun v2 v4 => tlp (
   .lI v2 v1 (fun c1 =>
    .na v2 fun i2 =>
    .ix zS v0 i2 fun x3 =>
    .cl (js a0 x3.Addr) fun ⟨r4_0, r4_1⟩ =>
    .vN 0 r4_1 (
     .go (ih (w64 (v2 + 1)) v4)) <|
    .cl (vg x3.Addr) fun r5 =>
    .ao 24 (jb 1 wG) v4 [r5] fun n6 =>
    .go (ih (w64 (v2 + 1)) (v4 ++ [r5]))) fun c1 =>
   .ret (v2, v4))
def v6 (n : Nat) (a0 : GState) (a1 : GState) : Option (List (List UInt8)) :=
 (qk a0).bind fun r1 =>
 match r1 with
 | true =>
  (qk a1).bind fun r2 =>
  match r2 with
  | true =>
   (yP a0.Entries (a0.Entries.length : Int) a0 a1 n 0 []).bind fun ⟨o3_0, o3_1⟩ =>
   (xv a1.Entries (a1.Entries.length : Int) a0 n 0 o3_1).bind fun ⟨o4_0, o4_1⟩ =>
   (wB o4_1).bind fun r5 =>
   some r5
  | false =>
   some []
 | false =>
  some []
theorem Uo (n : Nat) : Qn (v6 n) := fun a0 a1 => tc (
 .cl (XF a0) fun r1 =>
 .vN 0 r1 (
  .an 0 0 <|
  .cl (XF a1) fun r2 =>
  .an 0 1 <|
  .an 0 1 <|
  .vN 0 r2 (
   .le zr a0.Entries <|
   .lp (Kc a0.Entries (a0.Entries.length : Int) a0 a1 n 0 []) fun ⟨o3_0, o3_1⟩ =>
   .le zr a1.Entries <|
   .lp (Kd a1.Entries (a1.Entries.length : Int) a0 n 0 o3_1) fun ⟨o4_0, o4_1⟩ =>
   .cl (Xm o4_1) fun r5 =>
   .ret r5) <|
  .ret []) <|
 .an 0 0 <|
 .an 0 0 <|
 .an 0 0 <|
 .ret []) (zj Tryz.func62)
def jP (a0 : GState) (a1 : GState) : Option (List (List UInt8)) := v6 (a0.Entries.length + a1.Entries.length + 5) a0 a1
theorem KN (a0 : GState) (a1 : GState) (r : (List (List UInt8))) (h : jP a0 a1 = some r) : ∃ n, v6 n a0 a1 = some r := ⟨_, h⟩
theorem Te : Qn jP := fun a0 a1 r h => (KN a0 a1 r h).elim fun n hn => Uo n a0 a1 r hn
def Wk (F : (List UInt8) → (List UInt8) → Option Bool) : Prop := ∀ (a0 : (List UInt8)) (a1 : (List UInt8)), Oc (F a0 a1) 38 [] [vq za a0, vq za a1] fun r => (vb r, [])
def wa (a0 : (List UInt8)) (a1 : (List UInt8)) : Nat → Int → Option (Bool ⊕ Int)
  | 0, _ => none
  | m + 1, v2 =>
  if v2 < (a0.length : Int) then
   (zy v2).bind fun i2 =>
   (a0[i2]?).bind fun x3 =>
   (a1[i2]?).bind fun x4 =>
   if ((x3.toNat : Nat) : Int) = ((x4.toNat : Nat) : Int) then
    wa a0 a1 m (w64 (v2 + 1))
   else
   some (.inl false)
  else
  some (.inr v2)
theorem Jr (a0 : (List UInt8)) (a1 : (List UInt8)) (m : Nat) : ∀ (v2 : Int), Ol (wa a0 a1 m v2) 38 (zL Tryz.f38 0) ⟨[(0, vq za a0), (1, vq za a1), (5, vi v2)], [], 0⟩ fun o => match o with | .inl o_0 => (.ret, ⟨[(4, vb o_0)], [], 0⟩) | .inr (o_1) => (.exit 0, ⟨[(0, vq za a0), (1, vq za a1), (5, vi o_1), (14, vb false)], [], 0⟩) := by
  induction m with
  | zero => intro v2 o h; cases h
  | succ m ih => exact fun v2 => tlp (
   .le za a0 <|
   .lI v2 (a0.length : Int) (fun c1 =>
    .na v2 fun i2 =>
    .ix0 za a0 i2 fun x3 =>
    .ag 1 <|
    .ix0 za a1 i2 fun x4 =>
    .eI ((x3.toNat : Nat) : Int) ((x4.toNat : Nat) : Int) (fun c5 =>
     .go (ih (w64 (v2 + 1)))) fun c5 =>
    .ret (.inl false)) fun c1 =>
   .ret (.inr v2))
def Z8 (n : Nat) (a0 : (List UInt8)) (a1 : (List UInt8)) : Option Bool :=
 if (a0.length : Int) = (a1.length : Int) then
  (wa a0 a1 n 0).bind fun o2 =>
  match o2 with
  | .inl o2_0 =>
   some o2_0
  | .inr (o2_1) =>
   some true
 else
 some false
theorem Tf (n : Nat) : Wk (Z8 n) := fun a0 a1 => tc (
 .le za a0 <|
 .le za a1 <|
 .eI (a0.length : Int) (a1.length : Int) (fun c1 =>
  .l2 (Jr a0 a1 n 0) (fun o2_0 =>
   .ret o2_0) fun o2_1 =>
  .ret true) fun c1 =>
 .ret false) (zj Tryz.func38)
theorem PD {a : List UInt8} (ha : a.length <= 2 ^ 40) : ∀ (d i m : Nat), i + d = a.length → d < m → ∃ z, wa a a m (i : Int) = some (.inr z) := by
 intro d
 induction d with
 | zero =>
  intro i m hi hm
  obtain ⟨m, rfl, _⟩ := zf hm
  exact ⟨_, by rw [wa, if_neg (by omega)]⟩
 | succ d ih =>
  intro i m hi hm
  obtain ⟨m, rfl, hm'⟩ := zf hm
  have hil : i < a.length := by omega
  rw [wa, if_pos (by omega), zc, Option.bind_some, zg hil, Option.bind_some, Option.bind_some, if_pos rfl, zC (by omega)]
  exact ih (i + 1) m (by omega) (by omega)
def yl (a0 : (List UInt8)) (a1 : (List UInt8)) : Option Bool := if a0 = a1 ∧ a0.length <= 2 ^ 40 then some true else none
theorem Ke (a0 : (List UInt8)) (a1 : (List UInt8)) (r : Bool) (h : yl a0 a1 = some r) : ∃ n, Z8 n a0 a1 = some r := by
 unfold yl at h
 obtain ⟨⟨he, ha⟩, h2⟩ := zM h
 clear h
 subst he
 refine ⟨a0.length + 1, ?_⟩
 obtain ⟨z, hz⟩ := PD ha a0.length 0 (a0.length + 1) (by omega) (by omega)
 rw [show ((0 : Nat) : Int) = 0 from rfl] at hz
 unfold Z8
 rw [if_pos rfl, hz]; exact h2
theorem qN : Wk yl := fun a0 a1 r h => (Ke a0 a1 r h).elim fun n hn => Tf n a0 a1 r hn
def XG (F : (List (List UInt8)) → (List (List UInt8)) → Option Bool) : Prop := ∀ (a0 : (List (List UInt8))) (a1 : (List (List UInt8))), Oc (F a0 a1) 63 [] [vq (zq za) a0, vq (zq za) a1] fun r => (vb r, [])
def xG (a0 : (List (List UInt8))) (a1 : (List (List UInt8))) : Nat → Int → Option (Bool ⊕ Int)
  | 0, _ => none
  | m + 1, v2 =>
  if v2 < (a0.length : Int) then
   (zy v2).bind fun i2 =>
   (a0[i2]?).bind fun x3 =>
   (a1[i2]?).bind fun x4 =>
   (yl x3 x4).bind fun r5 =>
   match r5 with
   | true =>
    xG a0 a1 m (w64 (v2 + 1))
   | false =>
    some (.inl false)
  else
  some (.inr v2)
theorem Qz (a0 : (List (List UInt8))) (a1 : (List (List UInt8))) (m : Nat) : ∀ (v2 : Int), Ol (xG a0 a1 m v2) 63 (zL Tryz.f63 0) ⟨[(0, vq (zq za) a0), (1, vq (zq za) a1), (5, vi v2)], [], 0⟩ fun o => match o with | .inl o_0 => (.ret, ⟨[(4, vb o_0)], [], 0⟩) | .inr (o_1) => (.exit 0, ⟨[(0, vq (zq za) a0), (1, vq (zq za) a1), (5, vi o_1), (14, vb false)], [], 0⟩) := by
  induction m with
  | zero => intro v2 o h; cases h
  | succ m ih => exact fun v2 => tlp (
   .le (zq za) a0 <|
   .lI v2 (a0.length : Int) (fun c1 =>
    .na v2 fun i2 =>
    .ix0 (zq za) a0 i2 fun x3 =>
    .ag 1 <|
    .ix0 (zq za) a1 i2 fun x4 =>
    .cl (qN x3 x4) fun r5 =>
    .vN 0 r5 (
     .go (ih (w64 (v2 + 1)))) <|
    .ret (.inl false)) fun c1 =>
   .ret (.inr v2))
def Zl (n : Nat) (a0 : (List (List UInt8))) (a1 : (List (List UInt8))) : Option Bool :=
 if (a0.length : Int) = (a1.length : Int) then
  (xG a0 a1 n 0).bind fun o2 =>
  match o2 with
  | .inl o2_0 =>
   some o2_0
  | .inr (o2_1) =>
   some true
 else
 some false
theorem VP (n : Nat) : XG (Zl n) := fun a0 a1 => tc (
 .le (zq za) a0 <|
 .le (zq za) a1 <|
 .eI (a0.length : Int) (a1.length : Int) (fun c1 =>
  .l2 (Qz a0 a1 n 0) (fun o2_0 =>
   .ret o2_0) fun o2_1 =>
  .ret true) fun c1 =>
 .ret false) (zj Tryz.func63)
theorem Up {a : List (List UInt8)} (ha : bsz a <= 2 ^ 40) : ∀ (d i m : Nat), i + d = a.length → d < m → ∃ z, xG a a m (i : Int) = some (.inr z) := by
 have hl := wQ a
 intro d
 induction d with
 | zero =>
  intro i m hi hm
  obtain ⟨m, rfl, _⟩ := zf hm
  exact ⟨_, by rw [xG, if_neg (by omega)]⟩
 | succ d ih =>
  intro i m hi hm
  obtain ⟨m, rfl, hm'⟩ := zf hm
  have hil : i < a.length := by omega
  have hx := ZB (List.getElem_mem hil)
  rw [xG, if_pos (by omega), zc, Option.bind_some, zg hil, Option.bind_some, Option.bind_some]
  unfold yl
  rw [if_pos ⟨rfl, by omega⟩, Option.bind_some, zC (by omega)]
  exact ih (i + 1) m (by omega) (by omega)
def yI (a0 : (List (List UInt8))) (a1 : (List (List UInt8))) : Option Bool := if a0 = a1 ∧ bsz a0 <= 2 ^ 40 then some true else none
theorem Js (a0 : (List (List UInt8))) (a1 : (List (List UInt8))) (r : Bool) (h : yI a0 a1 = some r) : ∃ n, Zl n a0 a1 = some r := by
 unfold yI at h
 obtain ⟨⟨he, ha⟩, h2⟩ := zM h
 clear h
 subst he
 have hl := wQ a0
 refine ⟨a0.length + 1, ?_⟩
 obtain ⟨z, hz⟩ := Up ha a0.length 0 (a0.length + 1) (by omega) (by omega)
 rw [show ((0 : Nat) : Int) = 0 from rfl] at hz
 unfold Zl
 rw [if_pos rfl, hz]; exact h2
theorem vA : XG yI := fun a0 a1 r h => (Js a0 a1 r h).elim fun n hn => VP n a0 a1 r hn
def kl (F : (List GValue) → (List GValue) → Option Bool) : Prop := ∀ (a0 : (List GValue)) (a1 : (List GValue)), Oc (F a0 a1) 144 [] [vq zd a0, vq zd a1] fun r => (vb r, [])
def ju (F : GValue → GValue → Option Bool) : Prop := ∀ (a0 : GValue) (a1 : GValue), Oc (F a0 a1) 82 [] [.val true (z8 a0), .val true (z8 a1)] fun r => (vb r, [])
def xH (G_laws_eqValue : GValue → GValue → Option Bool) (a0 : (List GValue)) (a1 : (List GValue)) : Nat → Int → Option (Bool ⊕ Int)
  | 0, _ => none
  | m + 1, v2 =>
  if v2 < (a0.length : Int) then
   (zy v2).bind fun i2 =>
   (a0[i2]?).bind fun x3 =>
   (a1[i2]?).bind fun x4 =>
   (G_laws_eqValue x3 x4).bind fun r5 =>
   match r5 with
   | true =>
    xH G_laws_eqValue a0 a1 m (w64 (v2 + 1))
   | false =>
    some (.inl false)
  else
  some (.inr v2)
theorem Q0 (G_laws_eqValue : GValue → GValue → Option Bool) (H_laws_eqValue : ju G_laws_eqValue) (a0 : (List GValue)) (a1 : (List GValue)) (m : Nat) : ∀ (v2 : Int), Ol (xH G_laws_eqValue a0 a1 m v2) 144 (zL Tryz.f144 0) ⟨[(0, vq zd a0), (1, vq zd a1), (5, vi v2)], [], 0⟩ fun o => match o with | .inl o_0 => (.ret, ⟨[(4, vb o_0)], [], 0⟩) | .inr (o_1) => (.exit 0, ⟨[(0, vq zd a0), (1, vq zd a1), (5, vi o_1), (14, vb false)], [], 0⟩) := by
  induction m with
  | zero => intro v2 o h; cases h
  | succ m ih => exact fun v2 => tlp (
   .le zd a0 <|
   .lI v2 (a0.length : Int) (fun c1 =>
    .na v2 fun i2 =>
    .ix zR a0 i2 fun x3 =>
    .ag 1 <|
    .ix zR a1 i2 fun x4 =>
    .cl (H_laws_eqValue x3 x4) fun r5 =>
    .vN 0 r5 (
     .go (ih (w64 (v2 + 1)))) <|
    .ret (.inl false)) fun c1 =>
   .ret (.inr v2))
def km (G_laws_eqValue : GValue → GValue → Option Bool) (n : Nat) (a0 : (List GValue)) (a1 : (List GValue)) : Option Bool :=
 if (a0.length : Int) = (a1.length : Int) then
  (xH G_laws_eqValue a0 a1 n 0).bind fun o2 =>
  match o2 with
  | .inl o2_0 =>
   some o2_0
  | .inr (o2_1) =>
   some true
 else
 some false
theorem VQ (G_laws_eqValue : GValue → GValue → Option Bool) (H_laws_eqValue : ju G_laws_eqValue) (n : Nat) : kl (km G_laws_eqValue n) := fun a0 a1 => tc (
 .le zd a0 <|
 .le zd a1 <|
 .eI (a0.length : Int) (a1.length : Int) (fun c1 =>
  .l2 (Q0 G_laws_eqValue H_laws_eqValue a0 a1 n 0) (fun o2_0 =>
   .ret o2_0) fun o2_1 =>
  .ret true) fun c1 =>
 .ret false) (zj Tryz.func144)
def Z9 (G_laws_eqValueS : (List GValue) → (List GValue) → Option Bool) (a0 : GValue) (a1 : GValue) : Option Bool :=
 if a0.Kind = a1.Kind then
  if a0.N = a1.N then
   (yl a0.S a1.S).bind fun r3 =>
   match r3 with
   | true =>
    (yI a0.K a1.K).bind fun r4 =>
    match r4 with
    | true =>
     (G_laws_eqValueS a0.L a1.L).bind fun r5 =>
     match r5 with
     | true =>
      some true
     | false =>
      some false
    | false =>
     some false
   | false =>
    some false
  else
  some false
 else
 some false
theorem Tg (G_laws_eqValueS : (List GValue) → (List GValue) → Option Bool) (H_laws_eqValueS : kl G_laws_eqValueS) : ju (Z9 G_laws_eqValueS) := fun a0 a1 => tc (
 .eI a0.Kind a1.Kind (fun c1 =>
  .eI a0.N a1.N (fun c2 =>
   .cl (qN a0.S a1.S) fun r3 =>
   .vN 0 r3 (
    .cl (vA a0.K a1.K) fun r4 =>
    .vN 0 r4 (
     .cl (H_laws_eqValueS a0.L a1.L) fun r5 =>
     .vN 0 r5 (
      .ret true) <|
     .ret false) <|
    .ret false) <|
   .ret false) fun c2 =>
  .ret false) fun c1 =>
 .ret false) (zj Tryz.func82)
mutual
def xo : Nat → (List GValue) → (List GValue) → Option Bool
 | 0, _, _ => none
 | n + 1, a0, a1 => km (xI n) n a0 a1
def xI : Nat → GValue → GValue → Option Bool
 | 0, _, _ => none
 | n + 1, a0, a1 => Z9 (xo n) a0 a1
end
theorem Yx (n : Nat) : kl (xo n) ∧ ju (xI n) := by
 induction n with
 | zero => exact ⟨fun _ _ _ h => (by rw [xo] at h; cases h), fun _ _ _ h => (by rw [xI] at h; cases h)⟩
 | succ n ih =>
  obtain ⟨ih_laws_eqValueS, ih_laws_eqValue⟩ := ih
  exact ⟨fun a0 a1 r h => VQ (xI n) ih_laws_eqValue n a0 a1 r (by rw [xo] at h; exact h),
   fun a0 a1 r h => Tg (xo n) ih_laws_eqValueS a0 a1 r (by rw [xI] at h; exact h)⟩
theorem VR {G : GValue → GValue → Option Bool} {a : List GValue} {f : Nat} (ha : a.length <= 2 ^ 40) (hf : a.length < f) (hG : ∀ v ∈ a, G v v = some true) : km G f a a = some true := by
 have loop : ∀ (d i m : Nat), i + d = a.length → d < m → ∃ z, xH G a a m (i : Int) = some (.inr z) := by
  intro d
  induction d with
  | zero =>
   intro i m hi hm
   obtain ⟨m, rfl, _⟩ := zf hm
   exact ⟨_, by rw [xH, if_neg (by omega)]⟩
  | succ d ih =>
   intro i m hi hm
   obtain ⟨m, rfl, hm'⟩ := zf hm
   have hil : i < a.length := by omega
   rw [xH, if_pos (by omega), zc, Option.bind_some, zg hil, Option.bind_some, Option.bind_some, hG _ (List.getElem_mem hil), Option.bind_some, zC (by omega)]
   exact ih (i + 1) m (by omega) (by omega)
 obtain ⟨z, hz⟩ := loop a.length 0 f (by omega) (by omega)
 rw [show ((0 : Nat) : Int) = 0 from rfl] at hz
 unfold km
 rw [if_pos rfl, hz]; rfl
theorem TG : ∀ (N : Nat) (v : GValue), vsz v < N → vsz v <= 2 ^ 40 → ∀ f : Nat, 2 * vsz v + 3 <= f → xI f v v = some true := by
 intro N
 induction N with
 | zero => intro v hv; omega
 | succ N ih =>
  intro v hv hs f hf
  obtain ⟨f, rfl, _⟩ := zf (show 0 < f by omega)
  obtain ⟨f, rfl, _⟩ := zf (show 0 < f by omega)
  have he := qa v
  have hl := yR v.L
  rw [xI]
  unfold Z9 yl yI
  rw [if_pos rfl, if_pos rfl, if_pos (show v.S = v.S ∧ v.S.length <= 2 ^ 40 from ⟨rfl, by omega⟩), Option.bind_some]
  dsimp only
  rw [if_pos (show v.K = v.K ∧ bsz v.K <= 2 ^ 40 from ⟨rfl, by omega⟩), Option.bind_some]
  dsimp only
  rw [xo, VR (by omega) (by omega) fun x hx => ?_]
  ·rfl
  ·have := w6 hx
   exact ih x (by omega) (by omega) f (by omega)
open Classical in
noncomputable def Zm (a0 : (List GValue)) (a1 : (List GValue)) : Option Bool := if a0 = a1 ∧ yK a0 <= 2 ^ 40 then some true else none
theorem Jt (a0 : (List GValue)) (a1 : (List GValue)) (r : Bool) (h : Zm a0 a1 = some r) : ∃ n, xo n a0 a1 = some r := by
 unfold Zm at h
 obtain ⟨⟨he, ha⟩, h2⟩ := zM h
 clear h
 subst he
 have hl := yR a0
 refine ⟨2 * yK a0 + 5, ?_⟩
 rw [xo, VR (by omega) (by omega) fun x hx => ?_, h2]
 have := w6 hx
 exact TG _ x (Nat.lt_succ_self _) (by omega) _ (by omega)
open Classical in
noncomputable def jv (a0 : GValue) (a1 : GValue) : Option Bool := if a0 = a1 ∧ vsz a0 <= 2 ^ 40 then some true else none
theorem Kf (a0 : GValue) (a1 : GValue) (r : Bool) (h : jv a0 a1 = some r) : ∃ n, xI n a0 a1 = some r := by
 unfold jv at h
 obtain ⟨⟨he, ha⟩, h2⟩ := zM h
 clear h
 subst he
 exact ⟨2 * vsz a0 + 3, by rw [<- h2]; exact TG _ a0 (Nat.lt_succ_self _) ha _ (Nat.le_refl _)⟩
theorem G8 : kl Zm := by
 intro a0 a1 r h
 obtain ⟨n, hn⟩ := Jt a0 a1 r h
 exact (Yx n).1 a0 a1 r hn
theorem VS : ju jv := by
 intro a0 a1 r h
 obtain ⟨n, hn⟩ := Kf a0 a1 r h
 exact (Yx n).2 a0 a1 r hn
def jw (a0 : GEntry) (a1 : GEntry) : Option Bool :=
 (yl a0.Addr a1.Addr).bind fun r1 =>
 match r1 with
 | true =>
  (jv a0.Val a1.Val).bind fun r2 =>
  match r2 with
  | true =>
   (yI a0.Deps a1.Deps).bind fun r3 =>
   match r3 with
   | true =>
    if a0.Taint = true then
     if a1.Taint = true then
      if a0.Turned = a1.Turned then
       some true
      else
      some false
     else
     some false
    else
    if a1.Taint = true then
     some false
    else
    if a0.Turned = a1.Turned then
     some true
    else
    some false
   | false =>
    some false
  | false =>
   some false
 | false =>
  some false
theorem VT (a0 : GEntry) (a1 : GEntry) : Oc (jw a0 a1) 143 [] [.val true (ZA a0), .val true (ZA a1)] fun r => (vb r, []) := tc (
 .cl (qN a0.Addr a1.Addr) fun r1 =>
 .vN 0 r1 (
  .cl (VS a0.Val a1.Val) fun r2 =>
  .vN 0 r2 (
   .cl (vA a0.Deps a1.Deps) fun r3 =>
   .vN 0 r3 (
    .sp (a0.Taint = true) (fun c4 =>
     .sp (a1.Taint = true) (fun c5 =>
      .eb c4 c5 <|
      .eI a0.Turned a1.Turned (fun c6 =>
       .ret true) fun c6 =>
      .ret false) fun c5 =>
     .eb c4 (bF c5) <|
     .ret false) fun c4 =>
    .sp (a1.Taint = true) (fun c5 =>
     .eb (bF c4) c5 <|
     .ret false) fun c5 =>
    .eb (bF c4) (bF c5) <|
    .eI a0.Turned a1.Turned (fun c6 =>
     .ret true) fun c6 =>
    .ret false) <|
   .ret false) <|
  .ret false) <|
 .ret false) (zj Tryz.func143)
def XH (F : (List GEntry) → (List GEntry) → Option Bool) : Prop := ∀ (a0 : (List GEntry)) (a1 : (List GEntry)), Oc (F a0 a1) 81 [] [vq zr a0, vq zr a1] fun r => (vb r, [])
def xJ (a0 : (List GEntry)) (a1 : (List GEntry)) : Nat → Int → Option (Bool ⊕ Int)
  | 0, _ => none
  | m + 1, v2 =>
  if v2 < (a0.length : Int) then
   (zy v2).bind fun i2 =>
   (a0[i2]?).bind fun x3 =>
   (a1[i2]?).bind fun x4 =>
   (jw x3 x4).bind fun r5 =>
   match r5 with
   | true =>
    xJ a0 a1 m (w64 (v2 + 1))
   | false =>
    some (.inl false)
  else
  some (.inr v2)
theorem Q1 (a0 : (List GEntry)) (a1 : (List GEntry)) (m : Nat) : ∀ (v2 : Int), Ol (xJ a0 a1 m v2) 81 (zL Tryz.f81 0) ⟨[(0, vq zr a0), (1, vq zr a1), (5, vi v2)], [], 0⟩ fun o => match o with | .inl o_0 => (.ret, ⟨[(4, vb o_0)], [], 0⟩) | .inr (o_1) => (.exit 0, ⟨[(0, vq zr a0), (1, vq zr a1), (5, vi o_1), (14, vb false)], [], 0⟩) := by
  induction m with
  | zero => intro v2 o h; cases h
  | succ m ih => exact fun v2 => tlp (
   .le zr a0 <|
   .lI v2 (a0.length : Int) (fun c1 =>
    .na v2 fun i2 =>
    .ix zS a0 i2 fun x3 =>
    .ag 1 <|
    .ix zS a1 i2 fun x4 =>
    .cl (VT x3 x4) fun r5 =>
    .vN 0 r5 (
     .go (ih (w64 (v2 + 1)))) <|
    .ret (.inl false)) fun c1 =>
   .ret (.inr v2))
def Zn (n : Nat) (a0 : (List GEntry)) (a1 : (List GEntry)) : Option Bool :=
 if (a0.length : Int) = (a1.length : Int) then
  (xJ a0 a1 n 0).bind fun o2 =>
  match o2 with
  | .inl o2_0 =>
   some o2_0
  | .inr (o2_1) =>
   some true
 else
 some false
theorem VU (n : Nat) : XH (Zn n) := fun a0 a1 => tc (
 .le zr a0 <|
 .le zr a1 <|
 .eI (a0.length : Int) (a1.length : Int) (fun c1 =>
  .l2 (Q1 a0 a1 n 0) (fun o2_0 =>
   .ret o2_0) fun o2_1 =>
  .ret true) fun c1 =>
 .ret false) (zj Tryz.func81)
theorem Uq {a : List GEntry} (ha : a.length <= 2 ^ 40) (hG : ∀ v ∈ a, jw v v = some true) : ∀ (d i m : Nat), i + d = a.length → d < m → ∃ z, xJ a a m (i : Int) = some (.inr z) := by
 intro d
 induction d with
 | zero =>
  intro i m hi hm
  obtain ⟨m, rfl, _⟩ := zf hm
  exact ⟨_, by rw [xJ, if_neg (by omega)]⟩
 | succ d ih =>
  intro i m hi hm
  obtain ⟨m, rfl, hm'⟩ := zf hm
  have hil : i < a.length := by omega
  rw [xJ, if_pos (by omega), zc, Option.bind_some, zg hil, Option.bind_some, Option.bind_some, hG _ (List.getElem_mem hil), Option.bind_some, zC (by omega)]
  exact ih (i + 1) m (by omega) (by omega)
theorem LR {v : GEntry} (h : esz v <= 2 ^ 39) : jw v v = some true := by
 unfold esz at h
 unfold jw yl jv yI
 rw [if_pos ⟨rfl, by omega⟩, Option.bind_some]
 dsimp only
 rw [if_pos ⟨rfl, by omega⟩, Option.bind_some]
 dsimp only
 rw [if_pos ⟨rfl, by omega⟩, Option.bind_some]
 dsimp only
 rw [if_pos rfl]
 cases v.Taint <;> rfl
open Classical in
noncomputable def wP (a0 : (List GEntry)) (a1 : (List GEntry)) : Option Bool := if a0 = a1 ∧ xT a0 <= 2 ^ 39 then some true else none
theorem Ko {s : List GEntry} (h : xT s <= 2 ^ 39) : wP s s = some true := if_pos ⟨rfl, h⟩
theorem Ju (a0 : (List GEntry)) (a1 : (List GEntry)) (r : Bool) (h : wP a0 a1 = some r) : ∃ n, Zn n a0 a1 = some r := by
 unfold wP at h
 obtain ⟨⟨he, ha⟩, h2⟩ := zM h
 clear h
 subst he
 have hl := qx a0
 refine ⟨a0.length + 1, ?_⟩
 obtain ⟨z, hz⟩ := Uq (a := a0) (by omega) (fun v hv => LR (by have := ZE hv; omega)) a0.length 0 (a0.length + 1) (by omega) (by omega)
 rw [show ((0 : Nat) : Int) = 0 from rfl] at hz
 unfold Zn
 rw [if_pos rfl, hz]; exact h2
theorem Xe : XH wP := fun a0 a1 r h => (Ju a0 a1 r h).elim fun n hn => VU n a0 a1 r hn
def jx (a0 : GState) (a1 : GState) : Option Bool :=
 if a0.Serial = a1.Serial then
  if a0.Open = true then
   if a1.Open = true then
    (yl a0.Pending a1.Pending).bind fun r4 =>
    match r4 with
    | true =>
     if a0.Act = a1.Act then
      (wP a0.Entries a1.Entries).bind fun r6 =>
      match r6 with
      | true =>
       some true
      | false =>
       some false
     else
     some false
    | false =>
     some false
   else
   some false
  else
  if a1.Open = true then
   some false
  else
  (yl a0.Pending a1.Pending).bind fun r4 =>
  match r4 with
  | true =>
   if a0.Act = a1.Act then
    (wP a0.Entries a1.Entries).bind fun r6 =>
    match r6 with
    | true =>
     some true
    | false =>
     some false
   else
   some false
  | false =>
   some false
 else
 some false
theorem XI (a0 : GState) (a1 : GState) : Oc (jx a0 a1) 21 [] [.val true (zw a0), .val true (zw a1)] fun r => (vb r, []) := tc (
 .eI a0.Serial a1.Serial (fun c1 =>
  .sp (a0.Open = true) (fun c2 =>
   .sp (a1.Open = true) (fun c3 =>
    .eb c2 c3 <|
    .cl (qN a0.Pending a1.Pending) fun r4 =>
    .vN 0 r4 (
     .eI a0.Act a1.Act (fun c5 =>
      .cl (Xe a0.Entries a1.Entries) fun r6 =>
      .vN 0 r6 (
       .ret true) <|
      .ret false) fun c5 =>
     .ret false) <|
    .ret false) fun c3 =>
   .eb c2 (bF c3) <|
   .ret false) fun c2 =>
  .sp (a1.Open = true) (fun c3 =>
   .eb (bF c2) c3 <|
   .ret false) fun c3 =>
  .eb (bF c2) (bF c3) <|
  .cl (qN a0.Pending a1.Pending) fun r4 =>
  .vN 0 r4 (
   .eI a0.Act a1.Act (fun c5 =>
    .cl (Xe a0.Entries a1.Entries) fun r6 =>
    .vN 0 r6 (
     .ret true) <|
    .ret false) fun c5 =>
   .ret false) <|
  .ret false) fun c1 =>
 .ret false) (zj Tryz.func21)
def Xf (F : Int → (List UInt8) → Option (Int × (List UInt8))) : Prop := ∀ (a0 : Int) (e0 : (List UInt8)), Oc (F a0 e0) 39 [.obj 1 (eL za e0)] [vr 0, vi a0] fun r => (vi r.1, [.obj 1 (eL za r.2)])
def xp : Nat → Int → Int → (List UInt8) → Option (Int × Int × (List UInt8))
  | 0, _, _, _ => none
  | m + 1, a0, v1, e0 =>
  if v1 < (e0.length : Int) then
   (zy v1).bind fun i2 =>
   (e0[i2]?).bind fun x3 =>
   xp m (w64 (a0 + 1)) (w64 (v1 + 1)) (e0.set i2 (b8 a0))
  else
  some (a0, v1, e0)
theorem WM (m : Nat) : ∀ (a0 : Int) (v1 : Int) (e0 : (List UInt8)), Ol (xp m a0 v1 e0) 39 (zL Tryz.f39 0) ⟨[(0, vr 0), (1, vi a0), (5, vi v1)], [.obj 1 (eL za e0)], 1⟩ fun o => match o with | ⟨o_0, o_1, o_2⟩ => (.exit 0, ⟨[(0, vr 0), (1, vi o_0), (5, vi o_1), (9, vb false)], [.obj 1 (eL za o_2)], 1⟩) := by
  induction m with
  | zero => intro a0 v1 e0 o h; cases h
  | succ m ih => exact fun a0 v1 e0 => tlp (
   .le za e0 <|
   .lI v1 (e0.length : Int) (fun c1 =>
    .na v1 fun i2 =>
    .ix0 za e0 i2 fun x3 =>
    .ag 0 <|
    .sl (e := za) (x := (b8 a0)) (c := [.int .u8 (((b8 a0).toNat : Nat) : Int)]) rfl e0 i2 <|
    .go (ih (w64 (a0 + 1)) (w64 (v1 + 1)) (e0.set i2 (b8 a0)))) fun c1 =>
   .ret (a0, v1, e0))
def vB (n : Nat) (a0 : Int) (e0 : (List UInt8)) : Option (Int × (List UInt8)) :=
 (xp n a0 0 e0).bind fun ⟨o1_0, o1_1, o1_2⟩ =>
 some (o1_0, o1_2)
theorem KO (n : Nat) : Xf (vB n) := fun a0 e0 => tc (
 .lp (WM n a0 0 e0) fun ⟨o1_0, o1_1, o1_2⟩ =>
 .ret (o1_0, o1_2)) (zj Tryz.func39)
theorem Th : ∀ (l p : List UInt8) (k : Int) (m : Nat), 0 <= k → k + 2 * l.length <= 2 ^ 41 → p.length + l.length <= 2 ^ 41 → l.length < m → ∃ z, xp m k (p.length : Int) (p ++ l) = some (k + l.length, z, p ++ mB k l) := by
 intro l
 induction l with
 | nil =>
  intro p k m _ _ _ hm
  obtain ⟨m, rfl, _⟩ := zf hm
  exact ⟨_, by rw [xp, if_neg (jz p)]; simp [mB]; rfl⟩
 | cons x l ih =>
  intro p k m h0 h1 h2 hm
  obtain ⟨m, rfl, hm'⟩ := zf hm
  simp only [List.length_cons] at h1 h2 hm'
  obtain ⟨z, hz⟩ := ih (p ++ [b8 k]) (k + 1) m (by omega) (by omega) (by simp; omega) (by omega)
  rw [xp, if_pos (ZZ p x l), zc, Option.bind_some, yh, Option.bind_some, jy, xK p (b8 k) (by omega), xt (x := k + 1) (by omega) (by omega), Xj p (b8 k) l, hz]
  refine ⟨z, ?_⟩
  rw [mB, Xj p (b8 k) (mB (k + 1) l)]
  simp only [List.length_cons]
  rw [show k + 1 + (l.length : Int) = k + ((l.length + 1 : Nat) : Int) by omega]
def y9 (a0 : Int) (e0 : (List UInt8)) : Option (Int × (List UInt8)) := if 0 <= a0 ∧ a0 + 2 * e0.length <= 2 ^ 41 then some (a0 + e0.length, mB a0 e0) else none
theorem kC {a : Int} {s : List UInt8} (h0 : 0 <= a) (h1 : a + 2 * s.length <= 2 ^ 41) : y9 a s = some (a + s.length, mB a s) := if_pos ⟨h0, h1⟩
theorem Q2 (a0 : Int) (e0 : (List UInt8)) (r : (Int × (List UInt8))) (h : y9 a0 e0 = some r) : ∃ n, vB n a0 e0 = some r := by
 unfold y9 at h
 obtain ⟨⟨h0, h1⟩, h⟩ := zM h
 obtain ⟨z, hz⟩ := Th e0 [] a0 (e0.length + 1) h0 h1 (by simp; omega) (by omega)
 refine ⟨e0.length + 1, ?_⟩
 unfold vB
 simp only [List.nil_append, List.length_nil, Int.natCast_zero] at hz
 rw [hz]
 exact h
theorem wW : Xf y9 := fun a0 e0 r h => (Q2 a0 e0 r h).elim fun n hn => KO n a0 e0 r hn
def Yy (F : Int → (List (List UInt8)) → Option (Int × (List (List UInt8)))) : Prop := ∀ (a0 : Int) (e0 : (List (List UInt8))), Oc (F a0 e0) 64 [.obj 1 (eL (yD 1 za) e0)] [vr 0, vi a0] fun r => (vi r.1, [.obj 1 (eL (yD 1 za) r.2)])
def yX : Nat → Int → Int → (List (List UInt8)) → Option (Int × Int × (List (List UInt8)))
  | 0, _, _, _ => none
  | m + 1, a0, v1, e0 =>
  if v1 < (e0.length : Int) then
   (zy v1).bind fun i2 =>
   (e0[i2]?).bind fun x3 =>
   (y9 a0 x3).bind fun ⟨r4_0, r4_1⟩ =>
   yX m r4_0 (w64 (v1 + 1)) (e0.set i2 r4_1)
  else
  some (a0, v1, e0)
theorem Wl (m : Nat) : ∀ (a0 : Int) (v1 : Int) (e0 : (List (List UInt8))), Ol (yX m a0 v1 e0) 64 (zL Tryz.f64 0) ⟨[(0, vr 0), (1, vi a0), (5, vi v1)], [.obj 1 (eL (yD 1 za) e0)], 1⟩ fun o => match o with | ⟨o_0, o_1, o_2⟩ => (.exit 0, ⟨[(0, vr 0), (1, vi o_0), (5, vi o_1), (9, vb false)], [.obj 1 (eL (yD 1 za) o_2)], 1⟩) := by
  induction m with
  | zero => intro a0 v1 e0 o h; cases h
  | succ m ih => exact fun a0 v1 e0 => tlp (
   .le (yD 1 za) e0 <|
   .lI v1 (e0.length : Int) (fun c1 =>
    .na v1 fun i2 =>
    .ix0 (yD 1 za) e0 i2 fun x3 =>
    .ag 0 <|
    .cl (wW a0 x3) fun ⟨r4_0, r4_1⟩ =>
    .ag 1 <|
    .sl (e := (yD 1 za)) (x := r4_1) (c := [.own 1 (eL za r4_1)]) rfl e0 i2 <|
    .go (ih r4_0 (w64 (v1 + 1)) (e0.set i2 r4_1))) fun c1 =>
   .ret (a0, v1, e0))
def vh (n : Nat) (a0 : Int) (e0 : (List (List UInt8))) : Option (Int × (List (List UInt8))) :=
 (yX n a0 0 e0).bind fun ⟨o1_0, o1_1, o1_2⟩ =>
 some (o1_0, o1_2)
theorem Kg (n : Nat) : Yy (vh n) := fun a0 e0 => tc (
 .lp (Wl n a0 0 e0) fun ⟨o1_0, o1_1, o1_2⟩ =>
 .ret (o1_0, o1_2)) (zj Tryz.func64)
theorem VV : ∀ (l p : List (List UInt8)) (k : Int) (m : Nat), 0 <= k → k + 2 * bsz l <= 2 ^ 41 → p.length + l.length <= 2 ^ 41 → l.length < m → ∃ z, yX m k (p.length : Int) (p ++ l) = some (k + cB l, z, p ++ mBB k l) := by
 intro l
 induction l with
 | nil =>
  intro p k m _ _ _ hm
  obtain ⟨m, rfl, _⟩ := zf hm
  exact ⟨_, by rw [yX, if_neg (jz p)]; simp [mBB, cB]; rfl⟩
 | cons x l ih =>
  intro p k m h0 h1 h2 hm
  obtain ⟨m, rfl, hm'⟩ := zf hm
  rw [jH] at h1
  simp only [List.length_cons] at h2 hm'
  obtain ⟨z, hz⟩ := ih (p ++ [mB k x]) (k + x.length) m (by omega) (by omega) (by simp; omega) (by omega)
  rw [yX, if_pos (ZZ p x l), zc, Option.bind_some, yh, Option.bind_some, kC (by omega) (by omega), Option.bind_some]
  dsimp only
  rw [jy, xK p (mB k x) (by omega), Xj p (mB k x) l, hz]
  refine ⟨z, ?_⟩
  rw [mBB, Xj p (mB k x) (mBB (k + x.length) l), OT]
  rw [show k + (x.length : Int) + (cB l : Int) = k + ((x.length + cB l : Nat) : Int) by omega]
def yw (a0 : Int) (e0 : (List (List UInt8))) : Option (Int × (List (List UInt8))) := if 0 <= a0 ∧ a0 + 2 * bsz e0 <= 2 ^ 41 then some (a0 + cB e0, mBB a0 e0) else none
theorem v7 {a : Int} {s : List (List UInt8)} (h0 : 0 <= a) (h1 : a + 2 * bsz s <= 2 ^ 41) : yw a s = some (a + cB s, mBB a s) := if_pos ⟨h0, h1⟩
theorem WN (a0 : Int) (e0 : (List (List UInt8))) (r : (Int × (List (List UInt8)))) (h : yw a0 e0 = some r) : ∃ n, vh n a0 e0 = some r := by
 unfold yw at h
 obtain ⟨⟨h0, h1⟩, h⟩ := zM h
 have := wQ e0
 obtain ⟨z, hz⟩ := VV e0 [] a0 (e0.length + 1) h0 h1 (by simp; omega) (by omega)
 refine ⟨e0.length + 1, ?_⟩
 unfold vh
 simp only [List.nil_append, List.length_nil, Int.natCast_zero] at hz
 rw [hz]
 exact h
theorem qO : Yy yw := fun a0 e0 r h => (WN a0 e0 r h).elim fun n hn => Kg n a0 e0 r hn
def wX (F : Int → (List GValue) → Option (Int × (List GValue))) : Prop := ∀ (a0 : Int) (e0 : (List GValue)), Oc (F a0 e0) 145 [.obj 5 (eL yp e0)] [vr 0, vi a0] fun r => (vi r.1, [.obj 5 (eL yp r.2)])
def yY (G_laws_markValueS : Int → (List GValue) → Option (Int × (List GValue))) : Nat → Int → Int → (List GValue) → Option (Int × Int × (List GValue))
  | 0, _, _, _ => none
  | m + 1, a0, v1, e0 =>
  if v1 < (e0.length : Int) then
   (zy v1).bind fun i2 =>
   (e0[i2]?).bind fun x3 =>
   ((e0.set i2 (GValue.mk a0 x3.N x3.S x3.K x3.L))[i2]?).bind fun x4 =>
   (((e0.set i2 (GValue.mk a0 x3.N x3.S x3.K x3.L)).set i2 (GValue.mk x4.Kind (w64 (a0 + 1)) x4.S x4.K x4.L))[i2]?).bind fun x5 =>
   (y9 (w64 ((w64 (a0 + 1)) + 1)) x5.S).bind fun ⟨r6_0, r6_1⟩ =>
   ((((e0.set i2 (GValue.mk a0 x3.N x3.S x3.K x3.L)).set i2 (GValue.mk x4.Kind (w64 (a0 + 1)) x4.S x4.K x4.L)).set i2 (GValue.mk x5.Kind x5.N r6_1 x5.K x5.L))[i2]?).bind fun x7 =>
   (yw r6_0 x7.K).bind fun ⟨r8_0, r8_1⟩ =>
   (((((e0.set i2 (GValue.mk a0 x3.N x3.S x3.K x3.L)).set i2 (GValue.mk x4.Kind (w64 (a0 + 1)) x4.S x4.K x4.L)).set i2 (GValue.mk x5.Kind x5.N r6_1 x5.K x5.L)).set i2 (GValue.mk x7.Kind x7.N x7.S r8_1 x7.L))[i2]?).bind fun x9 =>
   (G_laws_markValueS r8_0 x9.L).bind fun ⟨r10_0, r10_1⟩ =>
   yY G_laws_markValueS m r10_0 (w64 (v1 + 1)) (((((e0.set i2 (GValue.mk a0 x3.N x3.S x3.K x3.L)).set i2 (GValue.mk x4.Kind (w64 (a0 + 1)) x4.S x4.K x4.L)).set i2 (GValue.mk x5.Kind x5.N r6_1 x5.K x5.L)).set i2 (GValue.mk x7.Kind x7.N x7.S r8_1 x7.L)).set i2 (GValue.mk x9.Kind x9.N x9.S x9.K r10_1))
  else
  some (a0, v1, e0)
theorem Wm (G_laws_markValueS : Int → (List GValue) → Option (Int × (List GValue))) (H_laws_markValueS : wX G_laws_markValueS) (m : Nat) : ∀ (a0 : Int) (v1 : Int) (e0 : (List GValue)), Ol (yY G_laws_markValueS m a0 v1 e0) 145 (zL Tryz.f145 0) ⟨[(0, vr 0), (1, vi a0), (5, vi v1)], [.obj 5 (eL yp e0)], 1⟩ fun o => match o with | ⟨o_0, o_1, o_2⟩ => (.exit 0, ⟨[(0, vr 0), (1, vi o_0), (5, vi o_1), (9, vb false)], [.obj 5 (eL yp o_2)], 1⟩) := by
  induction m with
  | zero => intro a0 v1 e0 o h; cases h
  | succ m ih => exact fun a0 v1 e0 => tlp (
   .le yp e0 <|
   .lI v1 (e0.length : Int) (fun c1 =>
    .na v1 fun i2 =>
    .ix yJ e0 i2 fun x3 =>
    .ag 0 <|
    .sl (yJ (GValue.mk a0 x3.N x3.S x3.K x3.L)) e0 i2 <|
    .ag 1 <|
    .ix yJ (e0.set i2 (GValue.mk a0 x3.N x3.S x3.K x3.L)) i2 fun x4 =>
    .ag 0 <|
    .sl (yJ (GValue.mk x4.Kind (w64 (a0 + 1)) x4.S x4.K x4.L)) (e0.set i2 (GValue.mk a0 x3.N x3.S x3.K x3.L)) i2 <|
    .ag 2 <|
    .ix yJ ((e0.set i2 (GValue.mk a0 x3.N x3.S x3.K x3.L)).set i2 (GValue.mk x4.Kind (w64 (a0 + 1)) x4.S x4.K x4.L)) i2 fun x5 =>
    .ag 0 <|
    .cl (wW (w64 ((w64 (a0 + 1)) + 1)) x5.S) fun ⟨r6_0, r6_1⟩ =>
    .ag 1 <|
    .sl (yJ (GValue.mk x5.Kind x5.N r6_1 x5.K x5.L)) ((e0.set i2 (GValue.mk a0 x3.N x3.S x3.K x3.L)).set i2 (GValue.mk x4.Kind (w64 (a0 + 1)) x4.S x4.K x4.L)) i2 <|
    .ag 4 <|
    .ix yJ (((e0.set i2 (GValue.mk a0 x3.N x3.S x3.K x3.L)).set i2 (GValue.mk x4.Kind (w64 (a0 + 1)) x4.S x4.K x4.L)).set i2 (GValue.mk x5.Kind x5.N r6_1 x5.K x5.L)) i2 fun x7 =>
    .ag 0 <|
    .cl (qO r6_0 x7.K) fun ⟨r8_0, r8_1⟩ =>
    .ag 1 <|
    .sl (yJ (GValue.mk x7.Kind x7.N x7.S r8_1 x7.L)) (((e0.set i2 (GValue.mk a0 x3.N x3.S x3.K x3.L)).set i2 (GValue.mk x4.Kind (w64 (a0 + 1)) x4.S x4.K x4.L)).set i2 (GValue.mk x5.Kind x5.N r6_1 x5.K x5.L)) i2 <|
    .ag 6 <|
    .ix yJ ((((e0.set i2 (GValue.mk a0 x3.N x3.S x3.K x3.L)).set i2 (GValue.mk x4.Kind (w64 (a0 + 1)) x4.S x4.K x4.L)).set i2 (GValue.mk x5.Kind x5.N r6_1 x5.K x5.L)).set i2 (GValue.mk x7.Kind x7.N x7.S r8_1 x7.L)) i2 fun x9 =>
    .ag 0 <|
    .cl (H_laws_markValueS r8_0 x9.L) fun ⟨r10_0, r10_1⟩ =>
    .ag 1 <|
    .sl (yJ (GValue.mk x9.Kind x9.N x9.S x9.K r10_1)) ((((e0.set i2 (GValue.mk a0 x3.N x3.S x3.K x3.L)).set i2 (GValue.mk x4.Kind (w64 (a0 + 1)) x4.S x4.K x4.L)).set i2 (GValue.mk x5.Kind x5.N r6_1 x5.K x5.L)).set i2 (GValue.mk x7.Kind x7.N x7.S r8_1 x7.L)) i2 <|
    .go (ih r10_0 (w64 (v1 + 1)) (((((e0.set i2 (GValue.mk a0 x3.N x3.S x3.K x3.L)).set i2 (GValue.mk x4.Kind (w64 (a0 + 1)) x4.S x4.K x4.L)).set i2 (GValue.mk x5.Kind x5.N r6_1 x5.K x5.L)).set i2 (GValue.mk x7.Kind x7.N x7.S r8_1 x7.L)).set i2 (GValue.mk x9.Kind x9.N x9.S x9.K r10_1)))) fun c1 =>
   .ret (a0, v1, e0))
def vj (G_laws_markValueS : Int → (List GValue) → Option (Int × (List GValue))) (n : Nat) (a0 : Int) (e0 : (List GValue)) : Option (Int × (List GValue)) :=
 (yY G_laws_markValueS n a0 0 e0).bind fun ⟨o1_0, o1_1, o1_2⟩ =>
 some (o1_0, o1_2)
theorem Kh (G_laws_markValueS : Int → (List GValue) → Option (Int × (List GValue))) (H_laws_markValueS : wX G_laws_markValueS) (n : Nat) : wX (vj G_laws_markValueS n) := fun a0 e0 => tc (
 .lp (Wm G_laws_markValueS H_laws_markValueS n a0 0 e0) fun ⟨o1_0, o1_1, o1_2⟩ =>
 .ret (o1_0, o1_2)) (zj Tryz.func145)
def yx : Nat → Int → (List GValue) → Option (Int × (List GValue))
 | 0, _, _ => none
 | n + 1, a0, e0 => vj (yx n) n a0 e0
theorem Q3 (n : Nat) : wX (yx n) := by
 induction n with
 | zero => exact fun _ _ _ h => (by rw [yx] at h; cases h)
 | succ n ih =>
  have ih_laws_markValueS := ih
  exact fun a0 e0 r h => Kh (yx n) ih_laws_markValueS n a0 e0 r (by rw [yx] at h; exact h)
theorem VW {G : Int → List GValue → Option (Int × List GValue)} : ∀ (l p : List GValue) (k : Int) (m : Nat), (∀ v ∈ l, ∀ i : Int, 0 <= i → i + 2 * yK v.L <= 2 ^ 41 → G i v.L = some (i + cVs v.L, mVs i v.L)) → 0 <= k → k + 2 * yK l <= 2 ^ 41 → p.length + l.length <= 2 ^ 41 → l.length < m → ∃ z, yY G m k (p.length : Int) (p ++ l) = some (k + cVs l, z, p ++ mVs k l) := by
 intro l
 induction l with
 | nil =>
  intro p k m _ _ _ _ hm
  obtain ⟨m, rfl, _⟩ := zf hm
  exact ⟨_, by rw [yY, if_neg (jz p)]; simp [mVs, cVs]; rfl⟩
 | cons x l ih =>
  intro p k m hG h0 h1 h2 hm
  obtain ⟨m, rfl, hm'⟩ := zf hm
  simp only [List.length_cons] at h2 hm'
  have hx := hG x List.mem_cons_self
  have hc := U7 x
  obtain ⟨kd, n, s, kk, ks⟩ := x
  have hb := Ya kk
  have hd := Re ks
  simp only [yK, vsz] at h1
  simp only [cV, vsz] at hc
  simp only [GValue.L] at hx
  obtain ⟨z, hz⟩ := ih (p ++ [mV k (.mk kd n s kk ks)]) (k + cV (.mk kd n s kk ks)) m (fun v hv => hG v (List.mem_cons_of_mem _ hv)) (by omega) (by simp only [cV]; omega) (by simp; omega) (by omega)
  rw [yY, if_pos (ZZ p _ l), zc, Option.bind_some, yh, Option.bind_some]
  simp only [jy, yh, Option.bind_some, GValue.Kind, GValue.N, GValue.S, GValue.K, GValue.L]
  rw [xt (x := k + 1) (by omega) (by omega), xt (x := k + 1 + 1) (by omega) (by omega), kC (by omega) (by omega)]
  simp only [Option.bind_some, jy, yh, GValue.Kind, GValue.N, GValue.S, GValue.K, GValue.L]
  rw [v7 (by omega) (by omega)]
  simp only [Option.bind_some, jy, yh, GValue.Kind, GValue.N, GValue.S, GValue.K, GValue.L]
  rw [hx _ (by omega) (by omega)]
  simp only [Option.bind_some, jy, yh, GValue.Kind, GValue.N, GValue.S, GValue.K, GValue.L]
  refine ⟨z, ?_⟩
  rw [xK p (mV k (.mk kd n s kk ks)) (by omega), show GValue.mk k (k + 1) (mB (k + 1 + 1) s) (mBB (k + 1 + 1 + s.length) kk) (mVs (k + 1 + 1 + s.length + cB kk) ks) = mV k (.mk kd n s kk ks) by simp only [mV], Xj p _ l,
   show k + 1 + 1 + (s.length : Int) + (cB kk : Int) + (cVs ks : Int) = k + ((cV (.mk kd n s kk ks) : Nat) : Int) by simp only [cV]; omega, hz]
  simp only [mVs, cVs, List.append_assoc, List.singleton_append]
  rw [show k + ((cV (.mk kd n s kk ks) : Nat) : Int) + (cVs l : Int) = k + ((cV (.mk kd n s kk ks) + cVs l : Nat) : Int) by omega]
theorem PE : ∀ (N : Nat) (l : List GValue), yK l < N → ∀ (k : Int) (f : Nat), 0 <= k → k + 2 * yK l <= 2 ^ 41 → yK l + 2 <= f → yx f k l = some (k + cVs l, mVs k l) := by
 intro N
 induction N with
 | zero => intro l hl; omega
 | succ N ih =>
  intro l hl k f h0 h1 hf
  obtain ⟨f, rfl, _⟩ := zf (show 0 < f by omega)
  have hlen := yR l
  rw [yx]
  unfold vj
  obtain ⟨z, hz⟩ := VW (G := yx f) l [] k f (fun v hv i g0 g1 => by
   have := w6 hv
   have := qa v
   exact ih v.L (by omega) i f g0 g1 (by omega)) h0 h1 (by simp; omega) (by omega)
  simp only [List.nil_append, List.length_nil, Int.natCast_zero] at hz
  rw [hz]; rfl
def wY (a0 : Int) (e0 : (List GValue)) : Option (Int × (List GValue)) := if 0 <= a0 ∧ a0 + 2 * yK e0 <= 2 ^ 41 then some (a0 + cVs e0, mVs a0 e0) else none
theorem Ur {a : Int} {s : List GValue} (h0 : 0 <= a) (h1 : a + 2 * yK s <= 2 ^ 41) : wY a s = some (a + cVs s, mVs a s) := if_pos ⟨h0, h1⟩
theorem WO (a0 : Int) (e0 : (List GValue)) (r : (Int × (List GValue))) (h : wY a0 e0 = some r) : ∃ n, yx n a0 e0 = some r := by
 unfold wY at h
 obtain ⟨⟨h0, h1⟩, h⟩ := zM h
 exact ⟨yK e0 + 2, by rw [PE _ e0 (Nat.lt_succ_self _) a0 _ h0 h1 (Nat.le_refl _), h]⟩
theorem Jv : wX wY := by
 intro a0 e0 r h
 obtain ⟨n, hn⟩ := WO a0 e0 r h
 exact (Q3 n) a0 e0 r hn
def Yz (F : Int → (List GEntry) → Option (Int × (List GEntry))) : Prop := ∀ (a0 : Int) (e0 : (List GEntry)), Oc (F a0 e0) 83 [.obj 9 (eL yQ e0)] [vr 0, vi a0] fun r => (vi r.1, [.obj 9 (eL yQ r.2)])
def yZ : Nat → Int → Int → (List GEntry) → Option (Int × Int × (List GEntry))
  | 0, _, _, _ => none
  | m + 1, a0, v1, e0 =>
  if v1 < (e0.length : Int) then
   (zy v1).bind fun i2 =>
   (e0[i2]?).bind fun x3 =>
   (y9 a0 x3.Addr).bind fun ⟨r4_0, r4_1⟩ =>
   ((e0.set i2 (GEntry.mk r4_1 x3.Val x3.Deps x3.Taint x3.Turned))[i2]?).bind fun x5 =>
   (((e0.set i2 (GEntry.mk r4_1 x3.Val x3.Deps x3.Taint x3.Turned)).set i2 (GEntry.mk x5.Addr (GValue.mk r4_0 x5.Val.N x5.Val.S x5.Val.K x5.Val.L) x5.Deps x5.Taint x5.Turned))[i2]?).bind fun x6 =>
   ((((e0.set i2 (GEntry.mk r4_1 x3.Val x3.Deps x3.Taint x3.Turned)).set i2 (GEntry.mk x5.Addr (GValue.mk r4_0 x5.Val.N x5.Val.S x5.Val.K x5.Val.L) x5.Deps x5.Taint x5.Turned)).set i2 (GEntry.mk x6.Addr (GValue.mk x6.Val.Kind (w64 (r4_0 + 1)) x6.Val.S x6.Val.K x6.Val.L) x6.Deps x6.Taint x6.Turned))[i2]?).bind fun x7 =>
   (y9 (w64 ((w64 (r4_0 + 1)) + 1)) x7.Val.S).bind fun ⟨r8_0, r8_1⟩ =>
   (((((e0.set i2 (GEntry.mk r4_1 x3.Val x3.Deps x3.Taint x3.Turned)).set i2 (GEntry.mk x5.Addr (GValue.mk r4_0 x5.Val.N x5.Val.S x5.Val.K x5.Val.L) x5.Deps x5.Taint x5.Turned)).set i2 (GEntry.mk x6.Addr (GValue.mk x6.Val.Kind (w64 (r4_0 + 1)) x6.Val.S x6.Val.K x6.Val.L) x6.Deps x6.Taint x6.Turned)).set i2 (GEntry.mk x7.Addr (GValue.mk x7.Val.Kind x7.Val.N r8_1 x7.Val.K x7.Val.L) x7.Deps x7.Taint x7.Turned))[i2]?).bind fun x9 =>
   (yw r8_0 x9.Val.K).bind fun ⟨r10_0, r10_1⟩ =>
   ((((((e0.set i2 (GEntry.mk r4_1 x3.Val x3.Deps x3.Taint x3.Turned)).set i2 (GEntry.mk x5.Addr (GValue.mk r4_0 x5.Val.N x5.Val.S x5.Val.K x5.Val.L) x5.Deps x5.Taint x5.Turned)).set i2 (GEntry.mk x6.Addr (GValue.mk x6.Val.Kind (w64 (r4_0 + 1)) x6.Val.S x6.Val.K x6.Val.L) x6.Deps x6.Taint x6.Turned)).set i2 (GEntry.mk x7.Addr (GValue.mk x7.Val.Kind x7.Val.N r8_1 x7.Val.K x7.Val.L) x7.Deps x7.Taint x7.Turned)).set i2 (GEntry.mk x9.Addr (GValue.mk x9.Val.Kind x9.Val.N x9.Val.S r10_1 x9.Val.L) x9.Deps x9.Taint x9.Turned))[i2]?).bind fun x11 =>
   (wY r10_0 x11.Val.L).bind fun ⟨r12_0, r12_1⟩ =>
   (((((((e0.set i2 (GEntry.mk r4_1 x3.Val x3.Deps x3.Taint x3.Turned)).set i2 (GEntry.mk x5.Addr (GValue.mk r4_0 x5.Val.N x5.Val.S x5.Val.K x5.Val.L) x5.Deps x5.Taint x5.Turned)).set i2 (GEntry.mk x6.Addr (GValue.mk x6.Val.Kind (w64 (r4_0 + 1)) x6.Val.S x6.Val.K x6.Val.L) x6.Deps x6.Taint x6.Turned)).set i2 (GEntry.mk x7.Addr (GValue.mk x7.Val.Kind x7.Val.N r8_1 x7.Val.K x7.Val.L) x7.Deps x7.Taint x7.Turned)).set i2 (GEntry.mk x9.Addr (GValue.mk x9.Val.Kind x9.Val.N x9.Val.S r10_1 x9.Val.L) x9.Deps x9.Taint x9.Turned)).set i2 (GEntry.mk x11.Addr (GValue.mk x11.Val.Kind x11.Val.N x11.Val.S x11.Val.K r12_1) x11.Deps x11.Taint x11.Turned))[i2]?).bind fun x13 =>
   (yw r12_0 x13.Deps).bind fun ⟨r14_0, r14_1⟩ =>
   ((((((((e0.set i2 (GEntry.mk r4_1 x3.Val x3.Deps x3.Taint x3.Turned)).set i2 (GEntry.mk x5.Addr (GValue.mk r4_0 x5.Val.N x5.Val.S x5.Val.K x5.Val.L) x5.Deps x5.Taint x5.Turned)).set i2 (GEntry.mk x6.Addr (GValue.mk x6.Val.Kind (w64 (r4_0 + 1)) x6.Val.S x6.Val.K x6.Val.L) x6.Deps x6.Taint x6.Turned)).set i2 (GEntry.mk x7.Addr (GValue.mk x7.Val.Kind x7.Val.N r8_1 x7.Val.K x7.Val.L) x7.Deps x7.Taint x7.Turned)).set i2 (GEntry.mk x9.Addr (GValue.mk x9.Val.Kind x9.Val.N x9.Val.S r10_1 x9.Val.L) x9.Deps x9.Taint x9.Turned)).set i2 (GEntry.mk x11.Addr (GValue.mk x11.Val.Kind x11.Val.N x11.Val.S x11.Val.K r12_1) x11.Deps x11.Taint x11.Turned)).set i2 (GEntry.mk x13.Addr x13.Val r14_1 x13.Taint x13.Turned))[i2]?).bind fun x15 =>
   (((((((((e0.set i2 (GEntry.mk r4_1 x3.Val x3.Deps x3.Taint x3.Turned)).set i2 (GEntry.mk x5.Addr (GValue.mk r4_0 x5.Val.N x5.Val.S x5.Val.K x5.Val.L) x5.Deps x5.Taint x5.Turned)).set i2 (GEntry.mk x6.Addr (GValue.mk x6.Val.Kind (w64 (r4_0 + 1)) x6.Val.S x6.Val.K x6.Val.L) x6.Deps x6.Taint x6.Turned)).set i2 (GEntry.mk x7.Addr (GValue.mk x7.Val.Kind x7.Val.N r8_1 x7.Val.K x7.Val.L) x7.Deps x7.Taint x7.Turned)).set i2 (GEntry.mk x9.Addr (GValue.mk x9.Val.Kind x9.Val.N x9.Val.S r10_1 x9.Val.L) x9.Deps x9.Taint x9.Turned)).set i2 (GEntry.mk x11.Addr (GValue.mk x11.Val.Kind x11.Val.N x11.Val.S x11.Val.K r12_1) x11.Deps x11.Taint x11.Turned)).set i2 (GEntry.mk x13.Addr x13.Val r14_1 x13.Taint x13.Turned)).set i2 (GEntry.mk x15.Addr x15.Val x15.Deps (decide ((r14_0.tmod 3) = 0)) x15.Turned))[i2]?).bind fun x16 =>
   yZ m (w64 ((w64 (r14_0 + 1)) + 1)) (w64 (v1 + 1)) (((((((((e0.set i2 (GEntry.mk r4_1 x3.Val x3.Deps x3.Taint x3.Turned)).set i2 (GEntry.mk x5.Addr (GValue.mk r4_0 x5.Val.N x5.Val.S x5.Val.K x5.Val.L) x5.Deps x5.Taint x5.Turned)).set i2 (GEntry.mk x6.Addr (GValue.mk x6.Val.Kind (w64 (r4_0 + 1)) x6.Val.S x6.Val.K x6.Val.L) x6.Deps x6.Taint x6.Turned)).set i2 (GEntry.mk x7.Addr (GValue.mk x7.Val.Kind x7.Val.N r8_1 x7.Val.K x7.Val.L) x7.Deps x7.Taint x7.Turned)).set i2 (GEntry.mk x9.Addr (GValue.mk x9.Val.Kind x9.Val.N x9.Val.S r10_1 x9.Val.L) x9.Deps x9.Taint x9.Turned)).set i2 (GEntry.mk x11.Addr (GValue.mk x11.Val.Kind x11.Val.N x11.Val.S x11.Val.K r12_1) x11.Deps x11.Taint x11.Turned)).set i2 (GEntry.mk x13.Addr x13.Val r14_1 x13.Taint x13.Turned)).set i2 (GEntry.mk x15.Addr x15.Val x15.Deps (decide ((r14_0.tmod 3) = 0)) x15.Turned)).set i2 (GEntry.mk x16.Addr x16.Val x16.Deps x16.Taint (w64 (r14_0 + 1))))
  else
  some (a0, v1, e0)
theorem Wn (m : Nat) : ∀ (a0 : Int) (v1 : Int) (e0 : (List GEntry)), Ol (yZ m a0 v1 e0) 83 (zL Tryz.f83 0) ⟨[(0, vr 0), (1, vi a0), (5, vi v1)], [.obj 9 (eL yQ e0)], 1⟩ fun o => match o with | ⟨o_0, o_1, o_2⟩ => (.exit 0, ⟨[(0, vr 0), (1, vi o_0), (5, vi o_1), (9, vb false)], [.obj 9 (eL yQ o_2)], 1⟩) := by
  induction m with
  | zero => intro a0 v1 e0 o h; cases h
  | succ m ih => exact fun a0 v1 e0 => tlp (
   .le yQ e0 <|
   .lI v1 (e0.length : Int) (fun c1 =>
    .na v1 fun i2 =>
    .ix zW e0 i2 fun x3 =>
    .ag 0 <|
    .cl (wW a0 x3.Addr) fun ⟨r4_0, r4_1⟩ =>
    .ag 1 <|
    .sl (zW (GEntry.mk r4_1 x3.Val x3.Deps x3.Taint x3.Turned)) e0 i2 <|
    .ag 2 <|
    .ix zW (e0.set i2 (GEntry.mk r4_1 x3.Val x3.Deps x3.Taint x3.Turned)) i2 fun x5 =>
    .ag 0 <|
    .sl (zW (GEntry.mk x5.Addr (GValue.mk r4_0 x5.Val.N x5.Val.S x5.Val.K x5.Val.L) x5.Deps x5.Taint x5.Turned)) (e0.set i2 (GEntry.mk r4_1 x3.Val x3.Deps x3.Taint x3.Turned)) i2 <|
    .ag 3 <|
    .ix zW ((e0.set i2 (GEntry.mk r4_1 x3.Val x3.Deps x3.Taint x3.Turned)).set i2 (GEntry.mk x5.Addr (GValue.mk r4_0 x5.Val.N x5.Val.S x5.Val.K x5.Val.L) x5.Deps x5.Taint x5.Turned)) i2 fun x6 =>
    .ag 0 <|
    .sl (zW (GEntry.mk x6.Addr (GValue.mk x6.Val.Kind (w64 (r4_0 + 1)) x6.Val.S x6.Val.K x6.Val.L) x6.Deps x6.Taint x6.Turned)) ((e0.set i2 (GEntry.mk r4_1 x3.Val x3.Deps x3.Taint x3.Turned)).set i2 (GEntry.mk x5.Addr (GValue.mk r4_0 x5.Val.N x5.Val.S x5.Val.K x5.Val.L) x5.Deps x5.Taint x5.Turned)) i2 <|
    .ag 4 <|
    .ix zW (((e0.set i2 (GEntry.mk r4_1 x3.Val x3.Deps x3.Taint x3.Turned)).set i2 (GEntry.mk x5.Addr (GValue.mk r4_0 x5.Val.N x5.Val.S x5.Val.K x5.Val.L) x5.Deps x5.Taint x5.Turned)).set i2 (GEntry.mk x6.Addr (GValue.mk x6.Val.Kind (w64 (r4_0 + 1)) x6.Val.S x6.Val.K x6.Val.L) x6.Deps x6.Taint x6.Turned)) i2 fun x7 =>
    .ag 0 <|
    .cl (wW (w64 ((w64 (r4_0 + 1)) + 1)) x7.Val.S) fun ⟨r8_0, r8_1⟩ =>
    .ag 1 <|
    .sl (zW (GEntry.mk x7.Addr (GValue.mk x7.Val.Kind x7.Val.N r8_1 x7.Val.K x7.Val.L) x7.Deps x7.Taint x7.Turned)) (((e0.set i2 (GEntry.mk r4_1 x3.Val x3.Deps x3.Taint x3.Turned)).set i2 (GEntry.mk x5.Addr (GValue.mk r4_0 x5.Val.N x5.Val.S x5.Val.K x5.Val.L) x5.Deps x5.Taint x5.Turned)).set i2 (GEntry.mk x6.Addr (GValue.mk x6.Val.Kind (w64 (r4_0 + 1)) x6.Val.S x6.Val.K x6.Val.L) x6.Deps x6.Taint x6.Turned)) i2 <|
    .ag 6 <|
    .ix zW ((((e0.set i2 (GEntry.mk r4_1 x3.Val x3.Deps x3.Taint x3.Turned)).set i2 (GEntry.mk x5.Addr (GValue.mk r4_0 x5.Val.N x5.Val.S x5.Val.K x5.Val.L) x5.Deps x5.Taint x5.Turned)).set i2 (GEntry.mk x6.Addr (GValue.mk x6.Val.Kind (w64 (r4_0 + 1)) x6.Val.S x6.Val.K x6.Val.L) x6.Deps x6.Taint x6.Turned)).set i2 (GEntry.mk x7.Addr (GValue.mk x7.Val.Kind x7.Val.N r8_1 x7.Val.K x7.Val.L) x7.Deps x7.Taint x7.Turned)) i2 fun x9 =>
    .ag 0 <|
    .cl (qO r8_0 x9.Val.K) fun ⟨r10_0, r10_1⟩ =>
    .ag 1 <|
    .sl (zW (GEntry.mk x9.Addr (GValue.mk x9.Val.Kind x9.Val.N x9.Val.S r10_1 x9.Val.L) x9.Deps x9.Taint x9.Turned)) ((((e0.set i2 (GEntry.mk r4_1 x3.Val x3.Deps x3.Taint x3.Turned)).set i2 (GEntry.mk x5.Addr (GValue.mk r4_0 x5.Val.N x5.Val.S x5.Val.K x5.Val.L) x5.Deps x5.Taint x5.Turned)).set i2 (GEntry.mk x6.Addr (GValue.mk x6.Val.Kind (w64 (r4_0 + 1)) x6.Val.S x6.Val.K x6.Val.L) x6.Deps x6.Taint x6.Turned)).set i2 (GEntry.mk x7.Addr (GValue.mk x7.Val.Kind x7.Val.N r8_1 x7.Val.K x7.Val.L) x7.Deps x7.Taint x7.Turned)) i2 <|
    .ag 8 <|
    .ix zW (((((e0.set i2 (GEntry.mk r4_1 x3.Val x3.Deps x3.Taint x3.Turned)).set i2 (GEntry.mk x5.Addr (GValue.mk r4_0 x5.Val.N x5.Val.S x5.Val.K x5.Val.L) x5.Deps x5.Taint x5.Turned)).set i2 (GEntry.mk x6.Addr (GValue.mk x6.Val.Kind (w64 (r4_0 + 1)) x6.Val.S x6.Val.K x6.Val.L) x6.Deps x6.Taint x6.Turned)).set i2 (GEntry.mk x7.Addr (GValue.mk x7.Val.Kind x7.Val.N r8_1 x7.Val.K x7.Val.L) x7.Deps x7.Taint x7.Turned)).set i2 (GEntry.mk x9.Addr (GValue.mk x9.Val.Kind x9.Val.N x9.Val.S r10_1 x9.Val.L) x9.Deps x9.Taint x9.Turned)) i2 fun x11 =>
    .ag 0 <|
    .cl (Jv r10_0 x11.Val.L) fun ⟨r12_0, r12_1⟩ =>
    .ag 1 <|
    .sl (zW (GEntry.mk x11.Addr (GValue.mk x11.Val.Kind x11.Val.N x11.Val.S x11.Val.K r12_1) x11.Deps x11.Taint x11.Turned)) (((((e0.set i2 (GEntry.mk r4_1 x3.Val x3.Deps x3.Taint x3.Turned)).set i2 (GEntry.mk x5.Addr (GValue.mk r4_0 x5.Val.N x5.Val.S x5.Val.K x5.Val.L) x5.Deps x5.Taint x5.Turned)).set i2 (GEntry.mk x6.Addr (GValue.mk x6.Val.Kind (w64 (r4_0 + 1)) x6.Val.S x6.Val.K x6.Val.L) x6.Deps x6.Taint x6.Turned)).set i2 (GEntry.mk x7.Addr (GValue.mk x7.Val.Kind x7.Val.N r8_1 x7.Val.K x7.Val.L) x7.Deps x7.Taint x7.Turned)).set i2 (GEntry.mk x9.Addr (GValue.mk x9.Val.Kind x9.Val.N x9.Val.S r10_1 x9.Val.L) x9.Deps x9.Taint x9.Turned)) i2 <|
    .ag 10 <|
    .ix zW ((((((e0.set i2 (GEntry.mk r4_1 x3.Val x3.Deps x3.Taint x3.Turned)).set i2 (GEntry.mk x5.Addr (GValue.mk r4_0 x5.Val.N x5.Val.S x5.Val.K x5.Val.L) x5.Deps x5.Taint x5.Turned)).set i2 (GEntry.mk x6.Addr (GValue.mk x6.Val.Kind (w64 (r4_0 + 1)) x6.Val.S x6.Val.K x6.Val.L) x6.Deps x6.Taint x6.Turned)).set i2 (GEntry.mk x7.Addr (GValue.mk x7.Val.Kind x7.Val.N r8_1 x7.Val.K x7.Val.L) x7.Deps x7.Taint x7.Turned)).set i2 (GEntry.mk x9.Addr (GValue.mk x9.Val.Kind x9.Val.N x9.Val.S r10_1 x9.Val.L) x9.Deps x9.Taint x9.Turned)).set i2 (GEntry.mk x11.Addr (GValue.mk x11.Val.Kind x11.Val.N x11.Val.S x11.Val.K r12_1) x11.Deps x11.Taint x11.Turned)) i2 fun x13 =>
    .ag 0 <|
    .cl (qO r12_0 x13.Deps) fun ⟨r14_0, r14_1⟩ =>
    .ag 1 <|
    .sl (zW (GEntry.mk x13.Addr x13.Val r14_1 x13.Taint x13.Turned)) ((((((e0.set i2 (GEntry.mk r4_1 x3.Val x3.Deps x3.Taint x3.Turned)).set i2 (GEntry.mk x5.Addr (GValue.mk r4_0 x5.Val.N x5.Val.S x5.Val.K x5.Val.L) x5.Deps x5.Taint x5.Turned)).set i2 (GEntry.mk x6.Addr (GValue.mk x6.Val.Kind (w64 (r4_0 + 1)) x6.Val.S x6.Val.K x6.Val.L) x6.Deps x6.Taint x6.Turned)).set i2 (GEntry.mk x7.Addr (GValue.mk x7.Val.Kind x7.Val.N r8_1 x7.Val.K x7.Val.L) x7.Deps x7.Taint x7.Turned)).set i2 (GEntry.mk x9.Addr (GValue.mk x9.Val.Kind x9.Val.N x9.Val.S r10_1 x9.Val.L) x9.Deps x9.Taint x9.Turned)).set i2 (GEntry.mk x11.Addr (GValue.mk x11.Val.Kind x11.Val.N x11.Val.S x11.Val.K r12_1) x11.Deps x11.Taint x11.Turned)) i2 <|
    .q ⟨.nz 3, .b true, rfl⟩ <|
    .eD (r14_0.tmod 3) 0 <|
    .ag 12 <|
    .ix zW (((((((e0.set i2 (GEntry.mk r4_1 x3.Val x3.Deps x3.Taint x3.Turned)).set i2 (GEntry.mk x5.Addr (GValue.mk r4_0 x5.Val.N x5.Val.S x5.Val.K x5.Val.L) x5.Deps x5.Taint x5.Turned)).set i2 (GEntry.mk x6.Addr (GValue.mk x6.Val.Kind (w64 (r4_0 + 1)) x6.Val.S x6.Val.K x6.Val.L) x6.Deps x6.Taint x6.Turned)).set i2 (GEntry.mk x7.Addr (GValue.mk x7.Val.Kind x7.Val.N r8_1 x7.Val.K x7.Val.L) x7.Deps x7.Taint x7.Turned)).set i2 (GEntry.mk x9.Addr (GValue.mk x9.Val.Kind x9.Val.N x9.Val.S r10_1 x9.Val.L) x9.Deps x9.Taint x9.Turned)).set i2 (GEntry.mk x11.Addr (GValue.mk x11.Val.Kind x11.Val.N x11.Val.S x11.Val.K r12_1) x11.Deps x11.Taint x11.Turned)).set i2 (GEntry.mk x13.Addr x13.Val r14_1 x13.Taint x13.Turned)) i2 fun x15 =>
    .ag 0 <|
    .sl (zW (GEntry.mk x15.Addr x15.Val x15.Deps (decide ((r14_0.tmod 3) = 0)) x15.Turned)) (((((((e0.set i2 (GEntry.mk r4_1 x3.Val x3.Deps x3.Taint x3.Turned)).set i2 (GEntry.mk x5.Addr (GValue.mk r4_0 x5.Val.N x5.Val.S x5.Val.K x5.Val.L) x5.Deps x5.Taint x5.Turned)).set i2 (GEntry.mk x6.Addr (GValue.mk x6.Val.Kind (w64 (r4_0 + 1)) x6.Val.S x6.Val.K x6.Val.L) x6.Deps x6.Taint x6.Turned)).set i2 (GEntry.mk x7.Addr (GValue.mk x7.Val.Kind x7.Val.N r8_1 x7.Val.K x7.Val.L) x7.Deps x7.Taint x7.Turned)).set i2 (GEntry.mk x9.Addr (GValue.mk x9.Val.Kind x9.Val.N x9.Val.S r10_1 x9.Val.L) x9.Deps x9.Taint x9.Turned)).set i2 (GEntry.mk x11.Addr (GValue.mk x11.Val.Kind x11.Val.N x11.Val.S x11.Val.K r12_1) x11.Deps x11.Taint x11.Turned)).set i2 (GEntry.mk x13.Addr x13.Val r14_1 x13.Taint x13.Turned)) i2 <|
    .ag 13 <|
    .ix zW ((((((((e0.set i2 (GEntry.mk r4_1 x3.Val x3.Deps x3.Taint x3.Turned)).set i2 (GEntry.mk x5.Addr (GValue.mk r4_0 x5.Val.N x5.Val.S x5.Val.K x5.Val.L) x5.Deps x5.Taint x5.Turned)).set i2 (GEntry.mk x6.Addr (GValue.mk x6.Val.Kind (w64 (r4_0 + 1)) x6.Val.S x6.Val.K x6.Val.L) x6.Deps x6.Taint x6.Turned)).set i2 (GEntry.mk x7.Addr (GValue.mk x7.Val.Kind x7.Val.N r8_1 x7.Val.K x7.Val.L) x7.Deps x7.Taint x7.Turned)).set i2 (GEntry.mk x9.Addr (GValue.mk x9.Val.Kind x9.Val.N x9.Val.S r10_1 x9.Val.L) x9.Deps x9.Taint x9.Turned)).set i2 (GEntry.mk x11.Addr (GValue.mk x11.Val.Kind x11.Val.N x11.Val.S x11.Val.K r12_1) x11.Deps x11.Taint x11.Turned)).set i2 (GEntry.mk x13.Addr x13.Val r14_1 x13.Taint x13.Turned)).set i2 (GEntry.mk x15.Addr x15.Val x15.Deps (decide ((r14_0.tmod 3) = 0)) x15.Turned)) i2 fun x16 =>
    .ag 0 <|
    .sl (zW (GEntry.mk x16.Addr x16.Val x16.Deps x16.Taint (w64 (r14_0 + 1)))) ((((((((e0.set i2 (GEntry.mk r4_1 x3.Val x3.Deps x3.Taint x3.Turned)).set i2 (GEntry.mk x5.Addr (GValue.mk r4_0 x5.Val.N x5.Val.S x5.Val.K x5.Val.L) x5.Deps x5.Taint x5.Turned)).set i2 (GEntry.mk x6.Addr (GValue.mk x6.Val.Kind (w64 (r4_0 + 1)) x6.Val.S x6.Val.K x6.Val.L) x6.Deps x6.Taint x6.Turned)).set i2 (GEntry.mk x7.Addr (GValue.mk x7.Val.Kind x7.Val.N r8_1 x7.Val.K x7.Val.L) x7.Deps x7.Taint x7.Turned)).set i2 (GEntry.mk x9.Addr (GValue.mk x9.Val.Kind x9.Val.N x9.Val.S r10_1 x9.Val.L) x9.Deps x9.Taint x9.Turned)).set i2 (GEntry.mk x11.Addr (GValue.mk x11.Val.Kind x11.Val.N x11.Val.S x11.Val.K r12_1) x11.Deps x11.Taint x11.Turned)).set i2 (GEntry.mk x13.Addr x13.Val r14_1 x13.Taint x13.Turned)).set i2 (GEntry.mk x15.Addr x15.Val x15.Deps (decide ((r14_0.tmod 3) = 0)) x15.Turned)) i2 <|
    .go (ih (w64 ((w64 (r14_0 + 1)) + 1)) (w64 (v1 + 1)) (((((((((e0.set i2 (GEntry.mk r4_1 x3.Val x3.Deps x3.Taint x3.Turned)).set i2 (GEntry.mk x5.Addr (GValue.mk r4_0 x5.Val.N x5.Val.S x5.Val.K x5.Val.L) x5.Deps x5.Taint x5.Turned)).set i2 (GEntry.mk x6.Addr (GValue.mk x6.Val.Kind (w64 (r4_0 + 1)) x6.Val.S x6.Val.K x6.Val.L) x6.Deps x6.Taint x6.Turned)).set i2 (GEntry.mk x7.Addr (GValue.mk x7.Val.Kind x7.Val.N r8_1 x7.Val.K x7.Val.L) x7.Deps x7.Taint x7.Turned)).set i2 (GEntry.mk x9.Addr (GValue.mk x9.Val.Kind x9.Val.N x9.Val.S r10_1 x9.Val.L) x9.Deps x9.Taint x9.Turned)).set i2 (GEntry.mk x11.Addr (GValue.mk x11.Val.Kind x11.Val.N x11.Val.S x11.Val.K r12_1) x11.Deps x11.Taint x11.Turned)).set i2 (GEntry.mk x13.Addr x13.Val r14_1 x13.Taint x13.Turned)).set i2 (GEntry.mk x15.Addr x15.Val x15.Deps (decide ((r14_0.tmod 3) = 0)) x15.Turned)).set i2 (GEntry.mk x16.Addr x16.Val x16.Deps x16.Taint (w64 (r14_0 + 1)))))) fun c1 =>
   .ret (a0, v1, e0))
def vk (n : Nat) (a0 : Int) (e0 : (List GEntry)) : Option (Int × (List GEntry)) :=
 (yZ n a0 0 e0).bind fun ⟨o1_0, o1_1, o1_2⟩ =>
 some (o1_0, o1_2)
theorem Ki (n : Nat) : Yz (vk n) := fun a0 e0 => tc (
 .lp (Wn n a0 0 e0) fun ⟨o1_0, o1_1, o1_2⟩ =>
 .ret (o1_0, o1_2)) (zj Tryz.func83)
theorem VX : ∀ (l p : List GEntry) (k : Int) (m : Nat), 0 <= k → k + 4 * xT l <= 2 ^ 40 → p.length + l.length <= 2 ^ 40 → l.length < m → ∃ z, yZ m k (p.length : Int) (p ++ l) = some (k + cEs l, z, p ++ mEs k l) := by
 intro l
 induction l with
 | nil =>
  intro p k m _ _ _ hm
  obtain ⟨m, rfl, _⟩ := zf hm
  exact ⟨_, by rw [yZ, if_neg (jz p)]; simp [mEs, cEs]; rfl⟩
 | cons x l ih =>
  intro p k m h0 h1 h2 hm
  obtain ⟨m, rfl, hm'⟩ := zf hm
  simp only [List.length_cons] at h2 hm'
  have hc := HO x
  simp only [xT] at h1
  obtain ⟨z, hz⟩ := ih (p ++ [mE k x]) (k + cE x) m (by omega) (by omega) (by simp; omega) (by omega)
  have hcv := U7 x.Val
  have hcd := Ya x.Deps
  have hve := qa x.Val
  have hcq := Bf x.Val
  have hmq := Bg (k + x.Addr.length) x.Val
  have hb := Ya x.Val.K
  have hd := Re x.Val.L
  have hmE : mE k x = .mk (mB k x.Addr) (mV (k + x.Addr.length) x.Val) (mBB (k + x.Addr.length + cV x.Val) x.Deps) (decide ((k + x.Addr.length + cV x.Val + cB x.Deps).tmod 3 = 0)) (k + x.Addr.length + cV x.Val + cB x.Deps + 1) := rfl
  have hcE : cE x = x.Addr.length + cV x.Val + cB x.Deps + 2 := rfl
  unfold esz at h1 hc
  obtain ⟨ad, v, dp, ta, tu⟩ := x
  obtain ⟨kd, n, s, kk, ks⟩ := v
  simp only [GEntry.Addr, GEntry.Val, GEntry.Deps, GValue.S, GValue.K, GValue.L] at *
  rw [yZ, if_pos (ZZ p _ l), zc, Option.bind_some, yh, Option.bind_some]
  simp only [GEntry.Addr, GEntry.Val, GEntry.Deps, GEntry.Taint, GEntry.Turned]
  rw [kC (by omega) (by omega)]
  simp only [Option.bind_some, jy, yh, GValue.Kind, GValue.N, GValue.S, GValue.K, GValue.L, GEntry.Addr, GEntry.Val, GEntry.Deps, GEntry.Taint, GEntry.Turned]
  rw [xt (x := k + (ad.length : Int) + 1) (by omega) (by omega), xt (x := k + (ad.length : Int) + 1 + 1) (by omega) (by omega), kC (by omega) (by omega)]
  simp only [Option.bind_some, jy, yh, GValue.Kind, GValue.N, GValue.S, GValue.K, GValue.L, GEntry.Addr, GEntry.Val, GEntry.Deps, GEntry.Taint, GEntry.Turned]
  rw [v7 (by omega) (by omega)]
  simp only [Option.bind_some, jy, yh, GValue.Kind, GValue.N, GValue.S, GValue.K, GValue.L, GEntry.Addr, GEntry.Val, GEntry.Deps, GEntry.Taint, GEntry.Turned]
  rw [Ur (by omega) (by omega)]
  simp only [Option.bind_some, jy, yh, GValue.Kind, GValue.N, GValue.S, GValue.K, GValue.L, GEntry.Addr, GEntry.Val, GEntry.Deps, GEntry.Taint, GEntry.Turned]
  have e1 : k + (ad.length : Int) + 1 + 1 + (s.length : Int) + (cB kk : Int) + (cVs ks : Int) = k + (ad.length : Int) + (cV (.mk kd n s kk ks) : Int) := by omega
  rw [e1, v7 (by omega) (by omega)]
  simp only [Option.bind_some, jy, yh, GValue.Kind, GValue.N, GValue.S, GValue.K, GValue.L, GEntry.Addr, GEntry.Val, GEntry.Deps, GEntry.Taint, GEntry.Turned]
  rw [xt (x := k + (ad.length : Int) + (cV (.mk kd n s kk ks) : Int) + (cB dp : Int) + 1) (by omega) (by omega), xt (x := k + (ad.length : Int) + (cV (.mk kd n s kk ks) : Int) + (cB dp : Int) + 1 + 1) (by omega) (by omega), <- hmq]
  refine ⟨z, Eq.trans ?_ (Eq.trans hz ?_)⟩
  ·congr 1
   ·omega
   ·exact xK p (mE k _) (by omega)
   ·rw [List.append_assoc, List.singleton_append, hmE]; congr
  simp only [mEs, cEs, List.append_assoc, List.singleton_append]
  rw [show k + ((cE (.mk ad (.mk kd n s kk ks) dp ta tu) : Nat) : Int) + (cEs l : Int) = k + ((cE (.mk ad (.mk kd n s kk ks) dp ta tu) + cEs l : Nat) : Int) by omega]
def wZ (a0 : Int) (e0 : (List GEntry)) : Option (Int × (List GEntry)) := if 0 <= a0 ∧ a0 + 4 * xT e0 <= 2 ^ 40 then some (a0 + cEs e0, mEs a0 e0) else none
theorem Us {a : Int} {s : List GEntry} (h0 : 0 <= a) (h1 : a + 4 * xT s <= 2 ^ 40) : wZ a s = some (a + cEs s, mEs a s) := if_pos ⟨h0, h1⟩
theorem WP (a0 : Int) (e0 : (List GEntry)) (r : (Int × (List GEntry))) (h : wZ a0 e0 = some r) : ∃ n, vk n a0 e0 = some r := by
 unfold wZ at h
 obtain ⟨⟨h0, h1⟩, h⟩ := zM h
 have := qx e0
 obtain ⟨z, hz⟩ := VX e0 [] a0 (e0.length + 1) h0 h1 (by simp; omega) (by omega)
 refine ⟨e0.length + 1, ?_⟩
 unfold vk
 simp only [List.nil_append, List.length_nil, Int.natCast_zero] at hz
 rw [hz]
 exact h
theorem Jw : Yz wZ := fun a0 e0 r h => (WP a0 e0 r h).elim fun n hn => Ki n a0 e0 r hn
def qv (a0_0 : Int) (a0_1 : Bool) (a0_3 : Int) (a1 : Int) (e0 : (List UInt8)) (e1 : (List GEntry)) : Option (Int × (List UInt8) × (List GEntry)) :=
 (y9 a1 e0).bind fun ⟨r1_0, r1_1⟩ =>
 (wZ r1_0 e1).bind fun ⟨r2_0, r2_1⟩ =>
 some (r2_0, r1_1, r2_1)
theorem Y0 (a0_0 : Int) (a0_1 : Bool) (a0_3 : Int) (a1 : Int) (e0 : (List UInt8)) (e1 : (List GEntry)) : Oc (qv a0_0 a0_1 a0_3 a1 e0 e1) 23 [.obj 1 (eL za e0), .obj 9 (eL yQ e1)] [.val true [ci a0_0, .bool a0_1, .ref 0, ci a0_3, .ref 1], vi a1] fun r => (vi r.1, [.obj 1 (eL za r.2.1), .obj 9 (eL yQ r.2.2)]) := tc (
 .cl (wW a1 e0) fun ⟨r1_0, r1_1⟩ =>
 .cl (Jw r1_0 e1) fun ⟨r2_0, r2_1⟩ =>
 .ret (r2_0, r1_1, r2_1)) (zj Tryz.func23)
end
end Go.Am.Try
