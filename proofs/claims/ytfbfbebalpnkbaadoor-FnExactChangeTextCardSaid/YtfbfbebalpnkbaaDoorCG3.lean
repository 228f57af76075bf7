/- The functions of the program in plain Lean, and that the machine answers as they do; conditions at each theorem. -/
import Derived.Test.YtfbfbebalpnkbaaDoorCG2
set_option linter.unusedVariables false
set_option linter.unusedSimpArgs false
namespace Go.Am.Try
open Go.Am Go.Proofs
set_option linter.unusedVariables false
set_option maxRecDepth 20000
set_option maxHeartbeats 2000000
noncomputable section
def Zy (F : (List GChange) → Option Bool) : Prop := ∀ (a0 : (List GChange)), Oc (F a0) 27 [] [vq yz a0] fun r => (vb r, [])
def zl (a0 : (List GChange)) (v1 : Int) : Nat → Int → Option (Bool ⊕ Int)
  | 0, _ => none
  | m + 1, v2 =>
  if v2 < v1 then
   (z7 v2).bind fun i2 =>
   (a0[i2]?).bind fun x3 =>
   (k8 x3.Path).bind fun r4 =>
   if r4 = true then
    (qB x3.Old).bind fun r6 =>
    if r6 = true then
     (qB x3.New).bind fun r8 =>
     if r8 = true then
      if x3.Had = true then
       if x3.Has = true then
        if v2 = 0 then
         zl a0 v1 m (w64 (v2 + 1))
        else
        (z7 (w64 (v2 - 1))).bind fun i13 =>
        (a0[i13]?).bind fun x14 =>
        (zQ x14.Path x3.Path).bind fun r15 =>
        if 0 <= r15 then
         some (.inl false)
        else
        if (x14.Path.length : Int) <= (x3.Path.length : Int) then
         (z7 (x14.Path.length : Int)).bind fun i18 =>
         (jB x3.Path none (some i18)).bind fun s19 =>
         (zQ x14.Path s19).bind fun r20 =>
         if r20 = 0 then
          some (.inl false)
         else
         zl a0 v1 m (w64 (v2 + 1))
        else
        zl a0 v1 m (w64 (v2 + 1))
       else
       (jb x3.New).bind fun r12 =>
       if r12 = true then
        if (x3.Path.length : Int) = 0 then
         some (.inl false)
        else
        (z7 (w64 ((x3.Path.length : Int) - 1))).bind fun i15 =>
        (x3.Path[i15]?).bind fun x16 =>
        if x16.Kind = 0 then
         if v2 = 0 then
          zl a0 v1 m (w64 (v2 + 1))
         else
         (z7 (w64 (v2 - 1))).bind fun i19 =>
         (a0[i19]?).bind fun x20 =>
         (zQ x20.Path x3.Path).bind fun r21 =>
         if 0 <= r21 then
          some (.inl false)
         else
         if (x20.Path.length : Int) <= (x3.Path.length : Int) then
          (z7 (x20.Path.length : Int)).bind fun i24 =>
          (jB x3.Path none (some i24)).bind fun s25 =>
          (zQ x20.Path s25).bind fun r26 =>
          if r26 = 0 then
           some (.inl false)
          else
          zl a0 v1 m (w64 (v2 + 1))
         else
         zl a0 v1 m (w64 (v2 + 1))
        else
        some (.inl false)
       else
       some (.inl false)
      else
      if x3.Has = true then
       (jb x3.Old).bind fun r12 =>
       if r12 = true then
        if (x3.Path.length : Int) = 0 then
         some (.inl false)
        else
        (z7 (w64 ((x3.Path.length : Int) - 1))).bind fun i15 =>
        (x3.Path[i15]?).bind fun x16 =>
        if x16.Kind = 0 then
         if v2 = 0 then
          zl a0 v1 m (w64 (v2 + 1))
         else
         (z7 (w64 (v2 - 1))).bind fun i19 =>
         (a0[i19]?).bind fun x20 =>
         (zQ x20.Path x3.Path).bind fun r21 =>
         if 0 <= r21 then
          some (.inl false)
         else
         if (x20.Path.length : Int) <= (x3.Path.length : Int) then
          (z7 (x20.Path.length : Int)).bind fun i24 =>
          (jB x3.Path none (some i24)).bind fun s25 =>
          (zQ x20.Path s25).bind fun r26 =>
          if r26 = 0 then
           some (.inl false)
          else
          zl a0 v1 m (w64 (v2 + 1))
         else
         zl a0 v1 m (w64 (v2 + 1))
        else
        some (.inl false)
       else
       some (.inl false)
      else
      some (.inl false)
     else
     some (.inl false)
    else
    some (.inl false)
   else
   some (.inl false)
  else
  some (.inr v2)
theorem YT (a0 : (List GChange)) (v1 : Int) (m : Nat) : ∀ (v2 : Int), Ol (zl a0 v1 m v2) 27 (ye Tryd.f27 0) ⟨[(0, vq yz a0), (7, vq yz a0), (8, vi v1), (9, vi v2)], [], 0⟩ fun o => match o with | .inl o_0 => (.ret, ⟨[(2, vb o_0)], [], 0⟩) | .inr (o_1) => (.exit 0, ⟨[(0, vq yz a0), (7, vq yz a0), (8, vi v1), (9, vi o_1), (10, vb false)], [], 0⟩) := by
  induction m with
  | zero => intro v2 o h; cases h
  | succ m ih => exact fun v2 => tlp (
   .lI v2 v1 (fun c1 =>
    .na v2 fun i2 =>
    .ix eq_GChange a0 i2 fun x3 =>
    .le zb x3.Path <|
    .cl (VA x3.Path) fun r4 =>
    .sp (r4 = true) (fun c5 =>
     .kF 0 (nT c5) <|
     .kF 0 (nT c5) <|
     .kF 0 (nT c5) <|
     .cl (Y2 x3.Old) fun r6 =>
     .kF 0 (nT c5) <|
     .kF 0 (nT c5) <|
     .sp (r6 = true) (fun c7 =>
      .kF 0 (nT c7) <|
      .kF 0 (nT c7) <|
      .kF 0 (nT c7) <|
      .cl (Y2 x3.New) fun r8 =>
      .kF 0 (nT c7) <|
      .kF 0 (nT c7) <|
      .sp (r8 = true) (fun c9 =>
       .kF 0 (nT c9) <|
       .kF 0 (nT c9) <|
       .kF 0 (nT c9) <|
       .kF 0 (nT c9) <|
       .sp (x3.Had = true) (fun c10 =>
        .kF 0 (nT c10) <|
        .kF 0 (nT c10) <|
        .kF 0 (nT c10) <|
        .kF 0 (nT c10) <|
        .kF 0 (nT c10) <|
        .kF 0 (nT c9) <|
        .kF 0 (nT c10) <|
        .kF 0 (nT c9) <|
        .sp (x3.Has = true) (fun c11 =>
         .kF 4 (nT c11) <|
         .kF 0 (nT c11) <|
         .kF 0 (nT c11) <|
         .kF 0 (nT c11) <|
         .kF 1 (nT c11) <|
         .eb c10 c11 <|
         .eI v2 0 (fun c12 =>
          .go (ih (w64 (v2 + 1)))) fun c12 =>
         .na (w64 (v2 - 1)) fun i13 =>
         .ix eq_GChange a0 i13 fun x14 =>
         .cl (yL x14.Path x3.Path) fun r15 =>
         .gI 0 r15 (fun c16 =>
          .ret (.inl false)) fun c16 =>
         .le zb x14.Path <|
         .gI (x14.Path.length : Int) (x3.Path.length : Int) (fun c17 =>
          .le zb x14.Path <|
          .na (x14.Path.length : Int) fun i18 =>
          .ct zb x3.Path none (some i18) fun s19 =>
          .un Q2 x3.Path <|
          .cl (yL x14.Path s19) fun r20 =>
          .eI r20 0 (fun c21 =>
           .ret (.inl false)) fun c21 =>
          .go (ih (w64 (v2 + 1)))) fun c17 =>
         .go (ih (w64 (v2 + 1)))) fun c11 =>
        .kT 4 (nF (bF c11)) <|
        .kT 0 (nF (bF c11)) <|
        .kT 0 (nF (bF c11)) <|
        .cl (YS x3.New) fun r12 =>
        .kT 0 (nF (bF c11)) <|
        .kT 1 (nF (bF c11)) <|
        .sp (r12 = true) (fun c13 =>
         .kF 1 (nT c13) <|
         .eb c10 (bF c11) <|
         .eI (x3.Path.length : Int) 0 (fun c14 =>
          .ret (.inl false)) fun c14 =>
         .na (w64 ((x3.Path.length : Int) - 1)) fun i15 =>
         .ix yv x3.Path i15 fun x16 =>
         .eI x16.Kind 0 (fun c17 =>
          .eI v2 0 (fun c18 =>
           .go (ih (w64 (v2 + 1)))) fun c18 =>
          .na (w64 (v2 - 1)) fun i19 =>
          .ix eq_GChange a0 i19 fun x20 =>
          .cl (yL x20.Path x3.Path) fun r21 =>
          .gI 0 r21 (fun c22 =>
           .ret (.inl false)) fun c22 =>
          .le zb x20.Path <|
          .gI (x20.Path.length : Int) (x3.Path.length : Int) (fun c23 =>
           .le zb x20.Path <|
           .na (x20.Path.length : Int) fun i24 =>
           .ct zb x3.Path none (some i24) fun s25 =>
           .un Q2 x3.Path <|
           .cl (yL x20.Path s25) fun r26 =>
           .eI r26 0 (fun c27 =>
            .ret (.inl false)) fun c27 =>
           .go (ih (w64 (v2 + 1)))) fun c23 =>
          .go (ih (w64 (v2 + 1)))) fun c17 =>
         .ret (.inl false)) fun c13 =>
        .kT 1 (nF (bF c13)) <|
        .ret (.inl false)) fun c10 =>
       .kT 0 (nF (bF c10)) <|
       .kT 0 (nF (bF c10)) <|
       .kT 0 (nF (bF c10)) <|
       .kT 0 (nF (bF c10)) <|
       .sp (x3.Has = true) (fun c11 =>
        .kF 0 (nT c11) <|
        .kF 0 (nT c11) <|
        .kF 0 (nT c11) <|
        .cl (YS x3.Old) fun r12 =>
        .kF 0 (nT c11) <|
        .kT 0 (nF (bF c10)) <|
        .kF 0 (nT c11) <|
        .kF 0 (nT c9) <|
        .kT 0 (nF (bF c10)) <|
        .kF 0 (nT c9) <|
        .sp (r12 = true) (fun c13 =>
         .kF 0 (nT c13) <|
         .kF 0 (nT c13) <|
         .kF 0 (nT c13) <|
         .kF 0 (nT c13) <|
         .kF 0 (nT c11) <|
         .kF 0 (nT c11) <|
         .kF 0 (nT c11) <|
         .kF 0 (nT c11) <|
         .kF 0 (nT c13) <|
         .kF 0 (nT c11) <|
         .kF 0 (nT c13) <|
         .eb (bF c10) c11 <|
         .eI (x3.Path.length : Int) 0 (fun c14 =>
          .ret (.inl false)) fun c14 =>
         .na (w64 ((x3.Path.length : Int) - 1)) fun i15 =>
         .ix yv x3.Path i15 fun x16 =>
         .eI x16.Kind 0 (fun c17 =>
          .eI v2 0 (fun c18 =>
           .go (ih (w64 (v2 + 1)))) fun c18 =>
          .na (w64 (v2 - 1)) fun i19 =>
          .ix eq_GChange a0 i19 fun x20 =>
          .cl (yL x20.Path x3.Path) fun r21 =>
          .gI 0 r21 (fun c22 =>
           .ret (.inl false)) fun c22 =>
          .le zb x20.Path <|
          .gI (x20.Path.length : Int) (x3.Path.length : Int) (fun c23 =>
           .le zb x20.Path <|
           .na (x20.Path.length : Int) fun i24 =>
           .ct zb x3.Path none (some i24) fun s25 =>
           .un Q2 x3.Path <|
           .cl (yL x20.Path s25) fun r26 =>
           .eI r26 0 (fun c27 =>
            .ret (.inl false)) fun c27 =>
           .go (ih (w64 (v2 + 1)))) fun c23 =>
          .go (ih (w64 (v2 + 1)))) fun c17 =>
         .ret (.inl false)) fun c13 =>
        .kT 0 (nF (bF c13)) <|
        .kT 0 (nF (bF c13)) <|
        .kT 0 (nF (bF c13)) <|
        .kT 0 (nF (bF c13)) <|
        .kT 0 (nF (bF c13)) <|
        .kT 0 (nF (bF c13)) <|
        .ret (.inl false)) fun c11 =>
       .kT 0 (nF (bF c11)) <|
       .kT 0 (nF (bF c11)) <|
       .kT 0 (nF (bF c11)) <|
       .kT 0 (nF (bF c11)) <|
       .kT 0 (nF (bF c10)) <|
       .kT 0 (nF (bF c11)) <|
       .kF 0 (nT c9) <|
       .kT 0 (nF (bF c10)) <|
       .kF 0 (nT c9) <|
       .ret (.inl false)) fun c9 =>
      .kT 0 (nF (bF c9)) <|
      .kT 0 (nF (bF c9)) <|
      .kT 0 (nF (bF c9)) <|
      .kT 0 (nF (bF c9)) <|
      .kT 0 (nF (bF c9)) <|
      .kT 0 (nF (bF c9)) <|
      .ret (.inl false)) fun c7 =>
     .kT 0 (nF (bF c7)) <|
     .kT 0 (nF (bF c7)) <|
     .kT 0 (nF (bF c7)) <|
     .kT 0 (nF (bF c7)) <|
     .kT 0 (nF (bF c7)) <|
     .ret (.inl false)) fun c5 =>
    .kT 0 (nF (bF c5)) <|
    .kT 0 (nF (bF c5)) <|
    .kT 0 (nF (bF c5)) <|
    .kT 0 (nF (bF c5)) <|
    .kT 0 (nF (bF c5)) <|
    .ret (.inl false)) fun c1 =>
   .ret (.inr v2))
def kf (n : Nat) (a0 : (List GChange)) : Option Bool :=
 (zl a0 (a0.length : Int) n 0).bind fun o1 =>
 match o1 with
 | .inl o1_0 =>
  some o1_0
 | .inr (o1_1) =>
  some (decide ((a0.length : Int) <= 80))
theorem QL (n : Nat) : Zy (kf n) := fun a0 => tc (
 .le yz a0 <|
 .l2 (YT a0 (a0.length : Int) n 0) (fun o1_0 =>
  .ret o1_0) fun o1_1 =>
 .le yz a0 <|
 .gD (a0.length : Int) 80 <|
 .ret (decide ((a0.length : Int) <= 80))) (zr Tryd.func27)
theorem LC {v : GValue} (h : vsz v <= 2 ^ 20) : qB v = some (jL v) := by
 unfold qB qi wj jL
 rw [if_pos ⟨h, by decide, by decide⟩, Option.bind_some]
 rw [show (5 : Int).toNat = 5 from rfl]
 cases hs : shV 5 v
 ·simp
 ·dsimp only
  rw [if_pos h, Option.bind_some]
  simp
theorem HV {p : List GStep} (h : zW p <= 2 ^ 20) : k8 p = some (q4 p) := by
 unfold k8 yK q4
 by_cases c : p.length <= 6
 ·obtain ⟨z, h1, h2⟩ := L7 h
  rw [if_pos (by omega), h1, Option.bind_some, Option.bind_some, h2, decide_eq_true c, Bool.true_and, Bool.not_not]
 ·rw [if_neg (by omega), decide_eq_false c]; rfl
theorem LD {v : GValue} (h : yh v = true) (h0 : v.Kind = 0) : v = GValue.mk 0 0 [] [] [] := by
 unfold yh at h
 rw [if_pos (.inl h0)] at h
 obtain ⟨h1, h2, h3, h4⟩ := of_decide_eq_true h
 cases v
 simp only [GValue.Kind, GValue.N, GValue.S, GValue.K, GValue.L] at *
 rw [h0, h1, List.eq_nil_of_length_eq_zero h2, List.eq_nil_of_length_eq_zero h3, List.eq_nil_of_length_eq_zero h4]
theorem Rw {v : GValue} (h : jL v = true) : jb v = some (decide (v.Kind = 0)) := by
 obtain ⟨h1, _⟩ := U4 h
 unfold jb
 by_cases c : v.Kind = 0
 ·rw [LD h1 c]; rfl
 ·rw [if_neg c, decide_eq_false c]
theorem K8 {p : Nat} (h : 0 < p) (h1 : p <= 2 ^ 40) : z7 (w64 (((p : Nat) : Int) - 1)) = some (p - 1) := by
 rw [yD (by omega) (by omega), show ((p : Nat) : Int) - 1 = ((p - 1 : Nat) : Int) by omega, zg]
theorem WW {p : List GStep} (h : q4 p = true) : p.all xd = true := by unfold q4 at h; rw [Bool.and_eq_true] at h; exact h.2
theorem MU {p : List GStep} (n : Nat) (h : p.all xd = true) : (p.take n).all xd = true := List.all_eq_true.2 fun x hx => List.all_eq_true.1 h x (List.mem_of_mem_take hx)
theorem Rx {a b : List GStep} (ha : q4 a = true) (hl : a.length <= 2 ^ 40) (hb : b.all xd = true) : zQ a b = some (jN a b) := by
 unfold zQ zP
 rw [if_pos ⟨hl, WW ha, hb⟩]; rfl
theorem Uu {a : List GChange} {x : GChange} {p m : Nat} {pv : Bool} {v1 : Int} (hv : v1 = (a.length : Int)) (ha : xf a <= 1048577) (hg : a[p]? = some x) (hp : (p = 0 ∧ pv = true) ∨ (0 < p ∧ ∃ y, a[p - 1]? = some y ∧ q4 y.Path = true ∧ pv = ch2 y.Path x.Path)) :
    zl a v1 (m + 1) ((p : Nat) : Int) = if (ch1 x && pv) = true then zl a v1 m (((p + 1 : Nat) : Nat) : Int) else some (.inl false) := by
  have hl := kS a
  have hpl := (List.getElem?_eq_some_iff.1 hg).1
  have hx := Y8 (List.mem_of_getElem? hg)
  unfold qE at hx
  have hxl := wk x.Path
  have tail : q4 x.Path = true → (if ((p : Nat) : Int) = 0 then
         zl a v1 m (w64 (((p : Nat) : Int) + 1))
        else
        (z7 (w64 (((p : Nat) : Int) - 1))).bind fun i13 =>
        (a[i13]?).bind fun x14 =>
        (zQ x14.Path x.Path).bind fun r15 =>
        if 0 <= r15 then
         some (.inl false)
        else
        if (x14.Path.length : Int) <= (x.Path.length : Int) then
         (z7 (x14.Path.length : Int)).bind fun i18 =>
         (jB x.Path none (some i18)).bind fun s19 =>
         (zQ x14.Path s19).bind fun r20 =>
         if r20 = 0 then
          some (.inl false)
         else
         zl a v1 m (w64 (((p : Nat) : Int) + 1))
        else
        zl a v1 m (w64 (((p : Nat) : Int) + 1))) = if pv = true then zl a v1 m (((p + 1 : Nat) : Nat) : Int) else some (.inl false) := by
    intro hpx
    rw [show w64 (((p : Nat) : Int) + 1) = (((p + 1 : Nat) : Nat) : Int) from yf (by omega)]
    rcases hp with ⟨h1, h2⟩ | ⟨h1, y, h2, h4, h3⟩
    · rw [if_pos (by omega), h2, if_pos rfl]
    · have hy := Y8 (List.mem_of_getElem? h2)
      unfold qE at hy
      have hyl := wk y.Path
      rw [if_neg (by omega), K8 h1 (by omega), Option.bind_some, h2, Option.bind_some, Rx h4 (by omega) (WW hpx), Option.bind_some, h3]
      unfold ch2
      by_cases c : jN y.Path x.Path < 0
      · rw [if_neg (by omega), decide_eq_true c, Bool.true_and]
        by_cases c2 : y.Path.length <= x.Path.length
        · rw [if_pos (by omega), zg, Option.bind_some, LM c2, Option.bind_some, Rx h4 (by omega) (MU _ (WW hpx)), Option.bind_some, decide_eq_true c2, Bool.true_and]
          by_cases c3 : jN y.Path (x.Path.take y.Path.length) = 0
          · rw [if_pos c3, decide_eq_true c3]; rfl
          · rw [if_neg c3, decide_eq_false c3]; rfl
        · rw [if_neg (by omega), decide_eq_false c2]; rfl
      · rw [if_pos (by omega), decide_eq_false c, Bool.false_and]; rfl
  have last : ∀ {α : Type} (A B : Option α), (if (x.Path.length : Int) = 0 then B else (z7 (w64 ((x.Path.length : Int) - 1))).bind fun i15 => (x.Path[i15]?).bind fun x16 => if x16.Kind = 0 then A else B) = if Y9 x.Path = true then A else B := by
    intro α A B
    unfold Y9
    by_cases c : x.Path.length = 0
    · rw [if_pos (by omega), List.eq_nil_of_length_eq_zero c]; rfl
    · have hlt : x.Path.length - 1 < x.Path.length := by omega
      rw [if_neg (by omega), K8 (by omega) (by omega), Option.bind_some, zw hlt, Option.bind_some]
      by_cases k : (x.Path[x.Path.length - 1]).Kind = 0
      · rw [if_pos k]; simp [k]
      · rw [if_neg k]; simp [k]
  rw [zl, if_pos (by omega), zg, Option.bind_some, hg, Option.bind_some, HV (by omega), Option.bind_some, LC (by omega), LC (by omega)]
  simp only [Option.bind_some, last]
  unfold ch1
  cases hpB : q4 x.Path with
  | false => simp
  | true =>
    simp only [tail hpB]
    cases hOld : jL x.Old with
    | false => simp
    | true =>
      cases hNew : jL x.New with
      | false => simp
      | true =>
        rw [Rw hOld, Rw hNew]
        simp only [Option.bind_some, if_true, Bool.true_and]
        cases x.Had <;> cases x.Has <;> cases Y9 x.Path <;> cases pv <;> by_cases c1 : x.Old.Kind = 0 <;> by_cases c2 : x.New.Kind = 0 <;> simp [c1, c2]
theorem MV {a : List GChange} {v1 : Int} (hv : v1 = (a.length : Int)) (ha : xf a <= 1048577) : ∀ (l p : List GChange) (y : GChange) (m : Nat), a = p ++ y :: l → q4 y.Path = true → l.length < m → ∃ z, zl a v1 m (((p.length + 1 : Nat) : Nat) : Int) = some (if chA y.Path l = true then .inr z else .inl false) := by
 intro l
 have hl := kS a
 induction l with
 | nil =>
  intro p y m he _ hm
  obtain ⟨m, rfl, _⟩ := zo hm
  have hlen : a.length = p.length + 1 := by rw [he]; simp
  exact ⟨_, by rw [zl, if_neg (by omega), chA, if_pos rfl]⟩
 | cons x l ih =>
  intro p y m he hy hm
  obtain ⟨m, rfl, hm'⟩ := zo hm
  have hgy : a[p.length + 1 - 1]? = some y := by rw [he]; exact zZ p y (x :: l)
  have hgx : a[p.length + 1]? = some x := by rw [he, show p ++ y :: x :: l = (p ++ [y]) ++ x :: l by simp, show p.length + 1 = (p ++ [y]).length by simp]; exact zZ (p ++ [y]) x l
  rw [Uu hv ha hgx (.inr ⟨by omega, y, hgy, hy, rfl⟩), chA]
  cases hc : ch1 x with
  | false => exact ⟨0, by simp⟩
  | true =>
   obtain ⟨z, hz⟩ := ih (p ++ [y]) x m (by rw [he]; simp) (UC hc) (by simp only [List.length_cons] at hm'; omega)
   rw [show (p ++ [y]).length + 1 = p.length + 1 + 1 by simp] at hz
   refine ⟨z, ?_⟩
   rw [hz]
   cases ch2 y.Path x.Path <;> simp
def w5 (a0 : (List GChange)) : Option Bool := if xf a0 <= 1048577 then some (decide (a0.length <= 80) && XK a0) else none
theorem LE {l : List GChange} (h : xf l <= 1048577) : w5 l = some (decide (l.length <= 80) && XK l) := if_pos h
theorem X6 (a0 : (List GChange)) (r : Bool) (h : w5 a0 = some r) : ∃ n, kf n a0 = some r := by
 unfold w5 at h
 obtain ⟨ha, h⟩ := zM h
 have hl := kS a0
 refine ⟨a0.length + 2, ?_⟩
 unfold kf
 rw [<- h]
 cases a0 with
 | nil => rfl
 | cons x l =>
  have h0 := Uu (v1 := ((x :: l).length : Int)) (m := l.length + 2) (p := 0) (pv := true) rfl ha rfl (.inl ⟨rfl, rfl⟩)
  rw [show ((0 : Nat) : Int) = 0 from rfl] at h0
  rw [show (x :: l).length + 2 = (l.length + 2) + 1 from rfl, h0, XK, Bool.and_true]
  cases hc : ch1 x with
  | false => simp
  | true =>
   obtain ⟨z, hz⟩ := MV (v1 := ((x :: l).length : Int)) rfl ha l [] x (l.length + 2) rfl (UC hc) (by omega)
   rw [if_pos rfl, show (0 + 1 : Nat) = ([] : List GChange).length + 1 from rfl, hz, Bool.true_and]
   cases chA x.Path l
   ·simp
   ·rw [if_pos rfl, Option.bind_some, Bool.and_true]
    dsimp only
    congr 1
    exact decide_eq_decide.2 ⟨fun h => by omega, fun h => by omega⟩
theorem WX : Zy w5 := fun a0 r h => (X6 a0 r h).elim fun n hn => QL n a0 r hn
def Y3 (F : (List GStep) → Option (List UInt8)) : Prop := ∀ (a0 : (List GStep)), Oc (F a0) 28 [] [vq zb a0] fun r => (.val false [.own 1 (eL za r)], [])
def yy (a0 : (List GStep)) (v1 : Int) : Nat → Int → (List UInt8) → Option (Int × (List UInt8))
  | 0, _, _ => none
  | m + 1, v2, v3 =>
  if v2 < v1 then
   (z7 v2).bind fun i2 =>
   (a0[i2]?).bind fun x3 =>
   if x3.Kind = 0 then
    if zq 1 (v3.length + [(46 : UInt8)].length) then
    if zq 1 ((v3 ++ [(46 : UInt8)]).length + x3.Key.length) then
    yy a0 v1 m (w64 (v2 + 1)) ((v3 ++ [(46 : UInt8)]) ++ x3.Key)
    else none
    else none
   else
   if zq 1 (v3.length + [(91 : UInt8)].length) then
   (yX x3.I 10 (v3 ++ [(91 : UInt8)])).bind fun r6 =>
   if zq 1 (r6.length + [(93 : UInt8)].length) then
   yy a0 v1 m (w64 (v2 + 1)) (r6 ++ [(93 : UInt8)])
   else none
   else none
  else
  some (v2, v3)
theorem Wg (a0 : (List GStep)) (v1 : Int) (m : Nat) : ∀ (v2 : Int) (v3 : (List UInt8)), Ol (yy a0 v1 m v2 v3) 28 (ye Tryd.f28 0) ⟨[(3, vr 0), (7, vq zb a0), (8, vi v1), (9, vi v2)], [.obj 1 (eL za v3)], 0⟩ fun o => match o with | ⟨o_0, o_1⟩ => (.exit 0, ⟨[(3, vr 0), (7, vq zb a0), (8, vi v1), (9, vi o_0), (10, vb false)], [.obj 1 (eL za o_1)], 0⟩) := by
  induction m with
  | zero => intro v2 v3 o h; cases h
  | succ m ih => exact fun v2 v3 => tlp (
   .lI v2 v1 (fun c1 =>
    .na v2 fun i2 =>
    .ix yv a0 i2 fun x3 =>
    .eI x3.Kind 0 (fun c4 =>
     .pl zf [(46 : UInt8)] <|
     .ap 1 zf v3 [(46 : UInt8)] fun n5 =>
     .ap 1 zf (v3 ++ [(46 : UInt8)]) x3.Key fun n6 =>
     .go (ih (w64 (v2 + 1)) ((v3 ++ [(46 : UInt8)]) ++ x3.Key))) fun c4 =>
    .pl zf [(91 : UInt8)] <|
    .ap 1 zf v3 [(91 : UInt8)] fun n5 =>
    .cl (vC x3.I 10 (v3 ++ [(91 : UInt8)])) fun r6 =>
    .pl zf [(93 : UInt8)] <|
    .ap 1 zf r6 [(93 : UInt8)] fun n7 =>
    .go (ih (w64 (v2 + 1)) (r6 ++ [(93 : UInt8)]))) fun c1 =>
   .ret (v2, v3))
def v6 (n : Nat) (a0 : (List GStep)) : Option (List UInt8) :=
 (yy a0 (a0.length : Int) n 0 []).bind fun ⟨o1_0, o1_1⟩ =>
 some o1_1
theorem K9 (n : Nat) : Y3 (v6 n) := fun a0 => tc (
 .le zb a0 <|
 .lp (Wg a0 (a0.length : Int) n 0 []) fun ⟨o1_0, o1_1⟩ =>
 .ret o1_1) (zr Tryd.func28)
theorem LF {n : Int} {b : List UInt8} (h0 : -4611686018427387904 <= n) (h1 : n <= 4611686018427387904) (h : b.length <= 2 ^ 40) : yX n 10 b = some (b ++ Lib.itoa n) := if_pos ⟨rfl, by omega, by omega, h⟩
theorem RT {a : List GStep} (hI : Q5 a = true) (ha : zW a <= 2 ^ 30) : ∀ (l p : List GStep) (acc : List UInt8) (m : Nat), a = p ++ l → l.length < m → acc.length + 23 * zW l <= 2 ^ 38 → ∃ z, yy a (a.length : Int) m (p.length : Int) acc = some (z, acc ++ xe l) := by
 have hl := wk a
 intro l
 induction l with
 | nil =>
  intro p acc m he hm _
  obtain ⟨m, rfl, _⟩ := zo hm
  exact ⟨_, by rw [yy, he, List.append_nil, if_neg (by omega), xe, List.append_nil]⟩
 | cons x l ih =>
  intro p acc m he hm hb
  obtain ⟨m, rfl, hm'⟩ := zo hm
  have hlen : a.length = p.length + (l.length + 1) := by rw [he]; simp
  have hg : a[p.length]? = some x := by rw [he]; exact zZ p x l
  obtain ⟨h0, h1⟩ := U8 hI (x := x) (by rw [he]; simp)
  have hd := XI h0 h1
  simp only [zW, wA] at hb
  by_cases c : x.Kind = 0
  ·obtain ⟨z, hz⟩ := ih (p ++ [x]) (acc ++ [46] ++ x.Key) m (by rw [he]; simp) (by simp only [List.length_cons] at hm'; omega) (by simp only [List.length_append, List.length_cons, List.length_nil]; omega)
   refine ⟨z, ?_⟩
   rw [yy, if_pos (by omega), zg, Option.bind_some, hg, Option.bind_some, if_pos c, if_pos (zt (by decide) (by simp only [List.length_cons, List.length_nil]; omega)), if_pos (zt (by decide) (by simp only [List.length_append, List.length_cons, List.length_nil]; omega)), yj p x (by omega), hz, xe, stT, if_pos c]
   simp
  ·obtain ⟨z, hz⟩ := ih (p ++ [x]) (acc ++ [91] ++ Lib.itoa x.I ++ [93]) m (by rw [he]; simp) (by simp only [List.length_cons] at hm'; omega) (by simp only [List.length_append, List.length_cons, List.length_nil]; omega)
   refine ⟨z, ?_⟩
   rw [yy, if_pos (by omega), zg, Option.bind_some, hg, Option.bind_some, if_neg c, if_pos (zt (by decide) (by simp only [List.length_cons, List.length_nil]; omega)), LF h0 h1 (by simp only [List.length_append, List.length_cons, List.length_nil]; omega), Option.bind_some, if_pos (zt (by decide) (by simp only [List.length_append, List.length_cons, List.length_nil]; omega)), yj p x (by omega), hz, xe, stT, if_neg c]
   simp
def qk (a0 : (List GStep)) : Option (List UInt8) := if zW a0 <= 2 ^ 30 ∧ Q5 a0 = true then some (xe a0) else none
theorem WY (a0 : (List GStep)) (r : (List UInt8)) (h : qk a0 = some r) : ∃ n, v6 n a0 = some r := by
 unfold qk at h
 obtain ⟨⟨h0, h1⟩, h⟩ := zM h
 obtain ⟨z, hz⟩ := RT h1 h0 a0 [] [] (a0.length + 1) rfl (by omega) (by simp only [List.length_nil]; omega)
 refine ⟨a0.length + 1, ?_⟩
 unfold v6
 simp only [List.length_nil, Int.natCast_zero, List.nil_append] at hz
 rw [hz]; exact h
theorem JA : Y3 qk := fun a0 r h => (WY a0 r h).elim fun n hn => K9 n a0 r hn
def xO (a0 : Bool) (e0 : (List UInt8)) : Option (List UInt8) :=
 match a0 with
 | true =>
  if zq 1 (e0.length + [116, 114, 117, 101].length) then
  some (e0 ++ [116, 114, 117, 101])
  else none
 | false =>
  if zq 1 (e0.length + [102, 97, 108, 115, 101].length) then
  some (e0 ++ [102, 97, 108, 115, 101])
  else none
theorem v7 (a0 : Bool) (e0 : (List UInt8)) : Oc (xO a0 e0) 97 [.obj 1 (eL za e0)] [vr 0, vb a0] fun r => (.val false [.own 1 (eL za r)], [.dead]) := tc (
 .vM 0 a0 (
  .os [116, 114, 117, 101] <|
  .ap 1 zf e0 [116, 114, 117, 101] fun n1 =>
  .ret (e0 ++ [116, 114, 117, 101])) <|
 .os [102, 97, 108, 115, 101] <|
 .ap 1 zf e0 [102, 97, 108, 115, 101] fun n1 =>
 .ret (e0 ++ [102, 97, 108, 115, 101])) (zr Tryd.func97)
def qR (a0 : Bool) (e0 : (List UInt8)) : Option (List UInt8) :=
 (xO a0 e0).bind fun r1 =>
 some r1
theorem YU (a0 : Bool) (e0 : (List UInt8)) : Oc (qR a0 e0) 63 [.obj 1 (eL za e0)] [vr 0, vb a0] fun r => (.val false [.own 1 (eL za r)], [.dead]) := tc (
 .cl (v7 a0 e0) fun r1 =>
 .ret r1) (zr Tryd.func63)
def xG (F : GValue → (List UInt8) → Option (List UInt8)) : Prop := ∀ (a0 : GValue) (e0 : (List UInt8)), Oc (F a0 e0) 29 [.obj 1 (eL za e0)] [.val true (zH a0), vr 0] fun r => (.val false [.own 1 (eL za r)], [.dead])
def yd (G_impl_Value_text : GValue → (List UInt8) → Option (List UInt8)) (v0 : (List UInt8)) (v1 : Int) : Nat → Int → (List UInt8) → Option (Int × (List UInt8))
  | 0, _, _ => none
  | m + 1, v2, v3 =>
  if v2 < v1 then
   (z7 v2).bind fun i2 =>
   (v0[i2]?).bind fun x3 =>
   if ((x3.toNat : Nat) : Int) = 34 then
    if zq 1 (v3.length + [(92 : UInt8)].length) then
    if zq 1 ((v3 ++ [(92 : UInt8)]).length + [x3].length) then
    yd G_impl_Value_text v0 v1 m (w64 (v2 + 1)) ((v3 ++ [(92 : UInt8)]) ++ [x3])
    else none
    else none
   else
   if ((x3.toNat : Nat) : Int) = 92 then
    if zq 1 (v3.length + [(92 : UInt8)].length) then
    if zq 1 ((v3 ++ [(92 : UInt8)]).length + [x3].length) then
    yd G_impl_Value_text v0 v1 m (w64 (v2 + 1)) ((v3 ++ [(92 : UInt8)]) ++ [x3])
    else none
    else none
   else
   if zq 1 (v3.length + [x3].length) then
   yd G_impl_Value_text v0 v1 m (w64 (v2 + 1)) (v3 ++ [x3])
   else none
  else
  some (v2, v3)
theorem YV (G_impl_Value_text : GValue → (List UInt8) → Option (List UInt8)) (H_impl_Value_text : xG G_impl_Value_text) (v0 : (List UInt8)) (v1 : Int) (m : Nat) : ∀ (v2 : Int) (v3 : (List UInt8)), Ol (yd G_impl_Value_text v0 v1 m v2 v3) 29 (ye Tryd.f29 0) ⟨[(1, vr 1), (41, vq za v0), (42, vi v1), (43, vi v2)], [.dead, .obj 1 (eL za v3)], 1⟩ fun o => match o with | ⟨o_0, o_1⟩ => (.exit 1, ⟨[(1, vr 1), (41, vq za v0), (42, vi v1), (43, vi o_0), (44, vb false)], [.dead, .obj 1 (eL za o_1)], 1⟩) := by
  induction m with
  | zero => intro v2 v3 o h; cases h
  | succ m ih => exact fun v2 v3 => tlp (
   .lI v2 v1 (fun c1 =>
    .na v2 fun i2 =>
    .ix0 za v0 i2 fun x3 =>
    .eI ((x3.toNat : Nat) : Int) 34 (fun c4 =>
     .pl zf [(92 : UInt8)] <|
     .ap 1 zf v3 [(92 : UInt8)] fun n5 =>
     .pl zf [x3] <|
     .ap 1 zf (v3 ++ [(92 : UInt8)]) [x3] fun n6 =>
     .go (ih (w64 (v2 + 1)) ((v3 ++ [(92 : UInt8)]) ++ [x3]))) fun c4 =>
    .eI ((x3.toNat : Nat) : Int) 92 (fun c5 =>
     .pl zf [(92 : UInt8)] <|
     .ap 1 zf v3 [(92 : UInt8)] fun n6 =>
     .pl zf [x3] <|
     .ap 1 zf (v3 ++ [(92 : UInt8)]) [x3] fun n7 =>
     .go (ih (w64 (v2 + 1)) ((v3 ++ [(92 : UInt8)]) ++ [x3]))) fun c5 =>
    .pl zf [x3] <|
    .ap 1 zf v3 [x3] fun n6 =>
    .go (ih (w64 (v2 + 1)) (v3 ++ [x3]))) fun c1 =>
   .ret (v2, v3))
def zB (G_impl_Value_text : GValue → (List UInt8) → Option (List UInt8)) (v0 : UInt8) (v1 : (List GValue)) (v2 : Int) (a0 : GValue) : Nat → Int → (List UInt8) → Option (Int × (List UInt8))
  | 0, _, _ => none
  | m + 1, v3, v4 =>
  if v3 < v2 then
   (z7 v3).bind fun i2 =>
   (v1[i2]?).bind fun x3 =>
   if 0 < v3 then
    if zq 1 (v4.length + [44, 32].length) then
    if a0.Kind = 5 then
     (a0.K[i2]?).bind fun x7 =>
     if zq 1 ((v4 ++ [44, 32]).length + x7.length) then
     if zq 1 (((v4 ++ [44, 32]) ++ x7).length + [32, 61, 32].length) then
     (G_impl_Value_text x3 (((v4 ++ [44, 32]) ++ x7) ++ [32, 61, 32])).bind fun r10 =>
     zB G_impl_Value_text v0 v1 v2 a0 m (w64 (v3 + 1)) r10
     else none
     else none
    else
    (G_impl_Value_text x3 (v4 ++ [44, 32])).bind fun r7 =>
    zB G_impl_Value_text v0 v1 v2 a0 m (w64 (v3 + 1)) r7
    else none
   else
   if a0.Kind = 5 then
    (a0.K[i2]?).bind fun x6 =>
    if zq 1 (v4.length + x6.length) then
    if zq 1 ((v4 ++ x6).length + [32, 61, 32].length) then
    (G_impl_Value_text x3 ((v4 ++ x6) ++ [32, 61, 32])).bind fun r9 =>
    zB G_impl_Value_text v0 v1 v2 a0 m (w64 (v3 + 1)) r9
    else none
    else none
   else
   (G_impl_Value_text x3 v4).bind fun r6 =>
   zB G_impl_Value_text v0 v1 v2 a0 m (w64 (v3 + 1)) r6
  else
  some (v3, v4)
theorem kO (G_impl_Value_text : GValue → (List UInt8) → Option (List UInt8)) (H_impl_Value_text : xG G_impl_Value_text) (v0 : UInt8) (v1 : (List GValue)) (v2 : Int) (a0 : GValue) (m : Nat) : ∀ (v3 : Int) (v4 : (List UInt8)), Ol (zB G_impl_Value_text v0 v1 v2 a0 m v3 v4) 29 (ye Tryd.f29 1) ⟨[(1, vr 1), (2, vp 2 0), (8, .val false [.int .u8 ((v0.toNat : Nat) : Int)]), (72, vq zd v1), (73, vi v2), (74, vi v3)], [.dead, .obj 1 (eL za v4), .var (zH a0)], 1⟩ fun o => match o with | ⟨o_0, o_1⟩ => (.exit 3, ⟨[(1, vr 1), (2, vp 2 0), (8, .val false [.int .u8 ((v0.toNat : Nat) : Int)]), (72, vq zd v1), (73, vi v2), (74, vi o_0), (75, vb false)], [.dead, .obj 1 (eL za o_1), .var (zH a0)], 1⟩) := by
  induction m with
  | zero => intro v3 v4 o h; cases h
  | succ m ih => exact fun v3 v4 => tlp (
   .lI v3 v2 (fun c1 =>
    .na v3 fun i2 =>
    .ix zU v1 i2 fun x3 =>
    .lI 0 v3 (fun c4 =>
     .os [44, 32] <|
     .ap 1 zf v4 [44, 32] fun n5 =>
     .eI a0.Kind 5 (fun c6 =>
      .ag 1 <|
      .ix0 (zL za) a0.K i2 fun x7 =>
      .ap 1 zf (v4 ++ [44, 32]) x7 fun n8 =>
      .os [32, 61, 32] <|
      .ap 1 zf ((v4 ++ [44, 32]) ++ x7) [32, 61, 32] fun n9 =>
      .cl (H_impl_Value_text x3 (((v4 ++ [44, 32]) ++ x7) ++ [32, 61, 32])) fun r10 =>
      .go (ih (w64 (v3 + 1)) r10)) fun c6 =>
     .cl (H_impl_Value_text x3 (v4 ++ [44, 32])) fun r7 =>
     .go (ih (w64 (v3 + 1)) r7)) fun c4 =>
    .eI a0.Kind 5 (fun c5 =>
     .ag 1 <|
     .ix0 (zL za) a0.K i2 fun x6 =>
     .ap 1 zf v4 x6 fun n7 =>
     .os [32, 61, 32] <|
     .ap 1 zf (v4 ++ x6) [32, 61, 32] fun n8 =>
     .cl (H_impl_Value_text x3 ((v4 ++ x6) ++ [32, 61, 32])) fun r9 =>
     .go (ih (w64 (v3 + 1)) r9)) fun c5 =>
    .cl (H_impl_Value_text x3 v4) fun r6 =>
    .go (ih (w64 (v3 + 1)) r6)) fun c1 =>
   .ret (v3, v4))
def qx (G_impl_Value_text : GValue → (List UInt8) → Option (List UInt8)) (n : Nat) (a0 : GValue) (e0 : (List UInt8)) : Option (List UInt8) :=
 if a0.Kind = 0 then
  if zq 1 (e0.length + [110, 117, 108, 108].length) then
  some (e0 ++ [110, 117, 108, 108])
  else none
 else
 if a0.Kind = 1 then
  (qR (decide (a0.N = 1)) e0).bind fun r3 =>
  some r3
 else
 if a0.Kind = 2 then
  (yX a0.N 10 e0).bind fun r4 =>
  some r4
 else
 if a0.Kind = 6 then
  if zq 1 (e0.length + [(63 : UInt8)].length) then
  some (e0 ++ [(63 : UInt8)])
  else none
 else
 if a0.Kind = 3 then
  if zq 1 (e0.length + [(34 : UInt8)].length) then
  (yd G_impl_Value_text a0.S (a0.S.length : Int) n 0 (e0 ++ [(34 : UInt8)])).bind fun ⟨o7_0, o7_1⟩ =>
  if zq 1 (o7_1.length + [(34 : UInt8)].length) then
  some (o7_1 ++ [(34 : UInt8)])
  else none
  else none
 else
 if a0.Kind = 5 then
  if zq 1 (e0.length + [(123 : UInt8)].length) then
  (zB G_impl_Value_text (125 : UInt8) a0.L (a0.L.length : Int) a0 n 0 (e0 ++ [(123 : UInt8)])).bind fun ⟨o8_0, o8_1⟩ =>
  if zq 1 (o8_1.length + [(125 : UInt8)].length) then
  some (o8_1 ++ [(125 : UInt8)])
  else none
  else none
 else
 if zq 1 (e0.length + [(91 : UInt8)].length) then
 (zB G_impl_Value_text (93 : UInt8) a0.L (a0.L.length : Int) a0 n 0 (e0 ++ [(91 : UInt8)])).bind fun ⟨o8_0, o8_1⟩ =>
 if zq 1 (o8_1.length + [(93 : UInt8)].length) then
 some (o8_1 ++ [(93 : UInt8)])
 else none
 else none
theorem QM (G_impl_Value_text : GValue → (List UInt8) → Option (List UInt8)) (H_impl_Value_text : xG G_impl_Value_text) (n : Nat) : xG (qx G_impl_Value_text n) := fun a0 e0 => tc (
 .eI a0.Kind 0 (fun c1 =>
  .os [110, 117, 108, 108] <|
  .ap 1 zf e0 [110, 117, 108, 108] fun n2 =>
  .ret (e0 ++ [110, 117, 108, 108])) fun c1 =>
 .eI a0.Kind 1 (fun c2 =>
  .eD a0.N 1 <|
  .cl (YU (decide (a0.N = 1)) e0) fun r3 =>
  .ret r3) fun c2 =>
 .eI a0.Kind 2 (fun c3 =>
  .cl (vC a0.N 10 e0) fun r4 =>
  .ret r4) fun c3 =>
 .eI a0.Kind 6 (fun c4 =>
  .pl zf [(63 : UInt8)] <|
  .ap 1 zf e0 [(63 : UInt8)] fun n5 =>
  .ret (e0 ++ [(63 : UInt8)])) fun c4 =>
 .eI a0.Kind 3 (fun c5 =>
  .pl zf [(34 : UInt8)] <|
  .ap 1 zf e0 [(34 : UInt8)] fun n6 =>
  .le za a0.S <|
  .lp (YV G_impl_Value_text H_impl_Value_text a0.S (a0.S.length : Int) n 0 (e0 ++ [(34 : UInt8)])) fun ⟨o7_0, o7_1⟩ =>
  .pl zf [(34 : UInt8)] <|
  .ap 1 zf o7_1 [(34 : UInt8)] fun n8 =>
  .ret (o7_1 ++ [(34 : UInt8)])) fun c5 =>
 .eI a0.Kind 5 (fun c6 =>
  .pl zf [(123 : UInt8)] <|
  .ap 1 zf e0 [(123 : UInt8)] fun n7 =>
  .le zd a0.L <|
  .lp (kO G_impl_Value_text H_impl_Value_text (125 : UInt8) a0.L (a0.L.length : Int) a0 n 0 (e0 ++ [(123 : UInt8)])) fun ⟨o8_0, o8_1⟩ =>
  .pl zf [(125 : UInt8)] <|
  .ap 1 zf o8_1 [(125 : UInt8)] fun n9 =>
  .ret (o8_1 ++ [(125 : UInt8)])) fun c6 =>
 .pl zf [(91 : UInt8)] <|
 .ap 1 zf e0 [(91 : UInt8)] fun n7 =>
 .le zd a0.L <|
 .lp (kO G_impl_Value_text H_impl_Value_text (93 : UInt8) a0.L (a0.L.length : Int) a0 n 0 (e0 ++ [(91 : UInt8)])) fun ⟨o8_0, o8_1⟩ =>
 .pl zf [(93 : UInt8)] <|
 .ap 1 zf o8_1 [(93 : UInt8)] fun n9 =>
 .ret (o8_1 ++ [(93 : UInt8)])) (zr Tryd.func29)
def yc : Nat → GValue → (List UInt8) → Option (List UInt8)
 | 0, _, _ => none
 | n + 1, a0, e0 => qx (yc n) n a0 e0
theorem Wh (n : Nat) : xG (yc n) := by
 induction n with
 | zero => exact fun _ _ _ h => (by rw [yc] at h; cases h)
 | succ n ih =>
  have ih_impl_Value_text := ih
  exact fun a0 e0 r h => QM (yc n) ih_impl_Value_text n a0 e0 r (by rw [yc] at h; exact h)
theorem LG {G : GValue → List UInt8 → Option (List UInt8)} {a : List UInt8} (ha : a.length <= 2 ^ 30) : ∀ (l p acc : List UInt8) (m : Nat), a = p ++ l → l.length < m → acc.length + 2 * l.length <= 2 ^ 39 + 2 ^ 25 → ∃ z, yd G a (a.length : Int) m (p.length : Int) acc = some (z, acc ++ Zu l) := by
 intro l
 induction l with
 | nil =>
  intro p acc m he hm _
  obtain ⟨m, rfl, _⟩ := zo hm
  exact ⟨_, by rw [yd, he, List.append_nil, if_neg (by omega), Zu, List.append_nil]⟩
 | cons x l ih =>
  intro p acc m he hm hb
  obtain ⟨m, rfl, hm'⟩ := zo hm
  have hlen : a.length = p.length + (l.length + 1) := by rw [he]; simp
  have hg : a[p.length]? = some x := by rw [he]; exact zZ p x l
  simp only [List.length_cons] at hb hm'
  have e1 : ((x.toNat : Nat) : Int) = 34 ↔ x = 34 := ⟨fun h => UInt8.toNat_inj.1 (by show x.toNat = 34; omega), fun h => by rw [h]; rfl⟩
  have e2 : ((x.toNat : Nat) : Int) = 92 ↔ x = 92 := ⟨fun h => UInt8.toNat_inj.1 (by show x.toNat = 92; omega), fun h => by rw [h]; rfl⟩
  by_cases c : x = 34 ∨ x = 92
  ·obtain ⟨z, hz⟩ := ih (p ++ [x]) (acc ++ [92] ++ [x]) m (by rw [he]; simp) (by omega) (by simp only [List.length_append, List.length_cons, List.length_nil]; omega)
   refine ⟨z, ?_⟩
   rw [yd, if_pos (by omega), zg, Option.bind_some, hg, Option.bind_some, if_pos (zt (by decide) (by simp only [List.length_cons, List.length_nil]; omega)), if_pos (zt (by decide) (by simp only [List.length_append, List.length_cons, List.length_nil]; omega)), yj p x (by omega), hz, Zu, if_pos c]
   rcases c with c | c
   ·rw [if_pos (e1.2 c)]; simp
   ·rw [if_pos (e2.2 c)]; simp
  ·obtain ⟨z, hz⟩ := ih (p ++ [x]) (acc ++ [x]) m (by rw [he]; simp) (by omega) (by simp only [List.length_append, List.length_cons, List.length_nil]; omega)
   refine ⟨z, ?_⟩
   rw [yd, if_pos (by omega), zg, Option.bind_some, hg, Option.bind_some, if_neg (fun h => c (.inl (e1.1 h))), if_neg (fun h => c (.inr (e2.1 h))), if_pos (zt (by decide) (by simp only [List.length_cons, List.length_nil]; omega)), yj p x (by omega), hz, Zu, if_neg c]
   simp
theorem KA {G : GValue → List UInt8 → Option (List UInt8)} {v0 : UInt8} {a : GValue} {M : Nat} (hM : M <= 2 ^ 39) (hA : vsz a <= 2 ^ 20) (hk : a.Kind = 5 → a.K.length = a.L.length) (hG : ∀ x ∈ a.L, (∀ b : List UInt8, b.length <= M → G x b = some (b ++ y4 x)) ∧ (y4 x).length <= 23 * vsz x + 21) :
  ∀ (l p : List GValue) (kp k : List (List UInt8)) (acc : List UInt8) (m : Nat), a.L = p ++ l → (a.Kind = 5 → a.K = kp ++ k ∧ kp.length = p.length) → l.length < m → acc.length + 30 * yw l + 23 * bsz k <= M →
  ∃ z, zB G v0 a.L (a.L.length : Int) a m (p.length : Int) acc = some (z, acc ++ wu (decide (a.Kind = 5)) (decide (p = [])) k l) := by
 have hv := xR a
 have hl := yC a.L
 intro l
 induction l with
 | nil =>
  intro p kp k acc m he _ hm _
  obtain ⟨m, rfl, _⟩ := zo hm
  exact ⟨_, by rw [zB, he, List.append_nil, if_neg (by omega), wu, List.append_nil]⟩
 | cons x l ih =>
  intro p kp k acc m he hkk hm hb
  obtain ⟨m, rfl, hm'⟩ := zo hm
  have hlen : a.L.length = p.length + (l.length + 1) := by rw [he]; simp
  have hg : a.L[p.length]? = some x := by rw [he]; exact zZ p x l
  obtain ⟨g1, g2⟩ := hG x (by rw [he]; simp)
  simp only [yw, List.length_cons] at hb hm'
  have hp' : decide (p ++ [x] = []) = false := by simp
  by_cases c5 : a.Kind = 5
  ·obtain ⟨k1, k2⟩ := hkk c5
   have hkl := hk c5
   cases k with
   | nil => rw [k1, List.append_nil] at hkl; omega
   | cons y k =>
    rw [Yc] at hb
    have hgk : a.K[p.length]? = some y := by rw [k1, <- k2]; exact zZ kp y k
    have next := fun acc' ha => ih (p ++ [x]) (kp ++ [y]) k acc' m (by rw [he]; simp) (fun _ => ⟨by rw [k1]; simp, by simp [k2]⟩) (by omega) ha
    by_cases c0 : p = []
    ·subst c0
     obtain ⟨z, hz⟩ := next (acc ++ y ++ [32, 61, 32] ++ y4 x) (by simp only [List.length_append, List.length_cons, List.length_nil]; omega)
     refine ⟨z, ?_⟩
     rw [zB, if_pos (by omega), zg, Option.bind_some, hg, Option.bind_some, if_neg (by simp), if_pos c5, hgk, Option.bind_some, if_pos (zt (by decide) (by omega)), if_pos (zt (by decide) (by simp only [List.length_append, List.length_cons, List.length_nil]; omega)), g1 _ (by simp only [List.length_append, List.length_cons, List.length_nil]; omega), Option.bind_some, yj [] x (by simp), hz, hp', wu, decide_eq_true c5]
     simp
    ·have hpos : (0 : Int) < (p.length : Int) := by have := List.length_pos_iff.2 c0; omega
     obtain ⟨z, hz⟩ := next (acc ++ [44, 32] ++ y ++ [32, 61, 32] ++ y4 x) (by simp only [List.length_append, List.length_cons, List.length_nil]; omega)
     refine ⟨z, ?_⟩
     rw [zB, if_pos (by omega), zg, Option.bind_some, hg, Option.bind_some, if_pos hpos, if_pos (zt (by decide) (by simp only [List.length_cons, List.length_nil]; omega)), if_pos c5, hgk, Option.bind_some, if_pos (zt (by decide) (by simp only [List.length_append, List.length_cons, List.length_nil]; omega)), if_pos (zt (by decide) (by simp only [List.length_append, List.length_cons, List.length_nil]; omega)), g1 _ (by simp only [List.length_append, List.length_cons, List.length_nil]; omega), Option.bind_some, yj p x (by omega), hz, hp', wu, decide_eq_true c5, decide_eq_false c0]
     simp
  ·have next := fun acc' ha => ih (p ++ [x]) kp k.tail acc' m (by rw [he]; simp) (fun e => absurd e c5) (by omega) ha
   have hbt := UA k
   by_cases c0 : p = []
   ·subst c0
    obtain ⟨z, hz⟩ := next (acc ++ y4 x) (by simp only [List.length_append]; omega)
    refine ⟨z, ?_⟩
    rw [zB, if_pos (by omega), zg, Option.bind_some, hg, Option.bind_some, if_neg (by simp), if_neg c5, g1 _ (by omega), Option.bind_some, yj [] x (by simp), hz, hp', wu, decide_eq_false c5]
    simp
   ·have hpos : (0 : Int) < (p.length : Int) := by have := List.length_pos_iff.2 c0; omega
    obtain ⟨z, hz⟩ := next (acc ++ [44, 32] ++ y4 x) (by simp only [List.length_append, List.length_cons, List.length_nil]; omega)
    refine ⟨z, ?_⟩
    rw [zB, if_pos (by omega), zg, Option.bind_some, hg, Option.bind_some, if_pos hpos, if_pos (zt (by decide) (by simp only [List.length_cons, List.length_nil]; omega)), if_neg c5, g1 _ (by simp only [List.length_append, List.length_cons, List.length_nil]; omega), Option.bind_some, yj p x (by omega), hz, hp', wu, decide_eq_false c5, decide_eq_false c0]
    simp
theorem Pr : ∀ (d : Nat) (v : GValue) (b : List UInt8) (f : Nat), shV d v = true → vsz v <= 2 ^ 20 → b.length + d * 2 ^ 25 <= 2 ^ 39 → vsz v + 3 <= f → yc f v b = some (b ++ y4 v)
 | 0, v, b, f, h, _, _, _ => by cases h
 | d + 1, v, b, f, h, hs, hb, hf => by
  obtain ⟨f, rfl, hf'⟩ : ∃ n, f = n + 1 ∧ vsz v + 2 <= n := ⟨f - 1, by omega, by omega⟩
  have hlen := jM (d + 1) v h
  rw [shV, Bool.and_eq_true, List.all_eq_true] at h
  obtain ⟨h1, h2⟩ := h
  obtain ⟨l1, l2, l3, l4⟩ := VN h1
  have hv := xR v
  have hvl := yC v.L
  have hG : ∀ x ∈ v.L, (∀ b : List UInt8, b.length <= 2 ^ 39 - d * 2 ^ 25 → yc f x b = some (b ++ y4 x)) ∧ (y4 x).length <= 23 * vsz x + 21 := fun x hx => by
   have := wy hx
   exact ⟨fun b hb' => Pr d x b f (h2 x hx) (by omega) (by omega) (by omega), jM d x (h2 x hx)⟩
  rw [show yc (f + 1) v b = qx (yc f) f v b from rfl]
  unfold qx
  rw [VM] at hlen ⊢
  by_cases k0 : v.Kind = 0
  ·rw [if_pos k0, if_pos k0, if_pos (zt (by decide) (by simp only [List.length_cons, List.length_nil]; omega))]
  rw [if_neg k0, if_neg k0]
  rw [if_neg k0] at hlen
  by_cases k1 : v.Kind = 1
  ·rw [if_pos k1, if_pos k1]
   unfold qR xO
   by_cases c : v.N = 1
   ·rw [if_pos c, decide_eq_true c]
    dsimp only
    rw [if_pos (zt (by decide) (by simp only [List.length_cons, List.length_nil]; omega))]; rfl
   ·rw [if_neg c, decide_eq_false c]
    dsimp only
    rw [if_pos (zt (by decide) (by simp only [List.length_cons, List.length_nil]; omega))]; rfl
  rw [if_neg k1, if_neg k1]
  rw [if_neg k1] at hlen
  by_cases k2 : v.Kind = 2
  ·have := l2 k2
   rw [if_pos k2, if_pos k2, show yX v.N 10 b = some (b ++ Lib.itoa v.N) from if_pos ⟨rfl, by omega, by omega, by omega⟩]; rfl
  rw [if_neg k2, if_neg k2]
  rw [if_neg k2] at hlen
  by_cases k6 : v.Kind = 6
  ·rw [if_pos k6, if_neg (show ¬ v.Kind = 3 by omega), if_pos k6, if_pos (zt (by decide) (by simp only [List.length_cons, List.length_nil]; omega))]
  rw [if_neg k6]
  by_cases k3 : v.Kind = 3
  ·have hel := XH v.S
   rw [if_pos k3, if_pos k3, if_pos (zt (by decide) (by simp only [List.length_cons, List.length_nil]; omega))]
   obtain ⟨z, hz⟩ := LG (G := yc f) (a := v.S) (by omega) v.S [] (b ++ [34]) f rfl (by omega) (by simp only [List.length_append, List.length_cons, List.length_nil]; omega)
   simp only [List.length_nil, Int.natCast_zero] at hz
   rw [hz, Option.bind_some]
   dsimp only
   rw [if_pos (zt (by decide) (by simp only [List.length_append, List.length_cons, List.length_nil]; omega))]
   simp [JJ]
  rw [if_neg k3, if_neg k3, if_neg k6]
  rw [if_neg k3, if_neg k6] at hlen
  by_cases k5 : v.Kind = 5
  ·rw [if_pos k5, if_pos k5, if_pos (zt (by decide) (by simp only [List.length_cons, List.length_nil]; omega))]
   rw [if_pos k5] at hlen
   obtain ⟨z, hz⟩ := KA (v0 := 125) (M := 2 ^ 39 - d * 2 ^ 25) (by omega) hs l3 hG v.L [] [] v.K (b ++ [123]) f rfl (fun _ => ⟨rfl, rfl⟩) (by omega) (by simp only [List.length_append, List.length_cons, List.length_nil]; omega)
   simp only [List.length_nil, Int.natCast_zero] at hz
   simp only [List.length_cons, List.length_append, List.length_nil] at hlen
   rw [hz, Option.bind_some, decide_eq_true k5]
   dsimp only
   rw [if_pos (zt (by decide) (by simp only [List.length_append, List.length_cons, List.length_nil, decide_true]; omega))]
   simp
  ·rw [if_neg k5, if_neg k5, if_pos (zt (by decide) (by simp only [List.length_cons, List.length_nil]; omega))]
   rw [if_neg k5] at hlen
   obtain ⟨z, hz⟩ := KA (v0 := 93) (M := 2 ^ 39 - d * 2 ^ 25) (by omega) hs l3 hG v.L [] [] v.K (b ++ [91]) f rfl (fun _ => ⟨rfl, rfl⟩) (by omega) (by simp only [List.length_append, List.length_cons, List.length_nil]; omega)
   simp only [List.length_nil, Int.natCast_zero] at hz
   simp only [List.length_cons, List.length_append, List.length_nil] at hlen
   rw [hz, Option.bind_some, decide_eq_false k5]
   dsimp only
   rw [if_pos (zt (by decide) (by simp only [List.length_append, List.length_cons, List.length_nil, decide_true]; omega))]
   simp
def yp (a0 : GValue) (e0 : (List UInt8)) : Option (List UInt8) := if shV 5 a0 = true ∧ vsz a0 <= 2 ^ 20 ∧ e0.length <= 2 ^ 38 then some (e0 ++ y4 a0) else none
theorem ES {v : GValue} {b : List UInt8} (h : shV 5 v = true) (hs : vsz v <= 2 ^ 20) (hb : b.length <= 2 ^ 38) : yp v b = some (b ++ y4 v) := if_pos ⟨h, hs, hb⟩
theorem X7 (a0 : GValue) (e0 : (List UInt8)) (r : (List UInt8)) (h : yp a0 e0 = some r) : ∃ n, yc n a0 e0 = some r := by
 unfold yp at h
 obtain ⟨⟨h0, h1, h2⟩, h⟩ := zM h
 exact ⟨vsz a0 + 3, by rw [<- h]; exact Pr 5 a0 e0 _ h0 h1 (by omega) (Nat.le_refl _)⟩
theorem jJ : xG yp := by
 intro a0 e0 r h
 obtain ⟨n, hn⟩ := X7 a0 e0 r h
 exact (Wh n) a0 e0 r hn
def qy (a0 : GChange) : Option (List UInt8) :=
 (w5 [a0]).bind fun r1 =>
 match r1 with
 | true =>
  (qk a0.Path).bind fun r2 =>
  match a0.Had with
  | true =>
   if zq 1 (r2.length + [32, 45, 32].length) then
   (yp a0.Old (r2 ++ [32, 45, 32])).bind fun r4 =>
   match a0.Has with
   | true =>
    if zq 1 (r4.length + [32, 43, 32].length) then
    (yp a0.New (r4 ++ [32, 43, 32])).bind fun r6 =>
    some r6
    else none
   | false =>
    some r4
   else none
  | false =>
   match a0.Has with
   | true =>
    if zq 1 (r2.length + [32, 43, 32].length) then
    (yp a0.New (r2 ++ [32, 43, 32])).bind fun r4 =>
    some r4
    else none
   | false =>
    some r2
 | false =>
  some []
theorem WZ (a0 : GChange) : Oc (qy a0) 8 [] [.val true (qJ a0)] fun r => (.val false [.own 1 (eL za r)], []) := tc (
 .vw R4 [a0] <|
 .cl (WX [a0]) fun r1 =>
 .vN 0 r1 (
  .cl (JA a0.Path) fun r2 =>
  .vM 0 a0.Had (
   .os [32, 45, 32] <|
   .ap 1 zf r2 [32, 45, 32] fun n3 =>
   .cl (jJ a0.Old (r2 ++ [32, 45, 32])) fun r4 =>
   .vM 0 a0.Has (
    .os [32, 43, 32] <|
    .ap 1 zf r4 [32, 43, 32] fun n5 =>
    .cl (jJ a0.New (r4 ++ [32, 43, 32])) fun r6 =>
    .ret r6) <|
   .ret r4) <|
  .vM 0 a0.Has (
   .os [32, 43, 32] <|
   .ap 1 zf r2 [32, 43, 32] fun n3 =>
   .cl (jJ a0.New (r2 ++ [32, 43, 32])) fun r4 =>
   .ret r4) <|
  .ret r2) <|
 .ret []) (zr Tryd.func8)
def YW (F : (List UInt8) → (List UInt8) → Option Bool) : Prop := ∀ (a0 : (List UInt8)) (a1 : (List UInt8)), Oc (F a0 a1) 9 [] [vq za a0, vq za a1] fun r => (vb r, [])
def xH (a0 : (List UInt8)) (a1 : (List UInt8)) : Nat → Int → Option (Bool ⊕ Int)
  | 0, _ => none
  | m + 1, v2 =>
  if v2 < (a0.length : Int) then
   (z7 v2).bind fun i2 =>
   (a0[i2]?).bind fun x3 =>
   (a1[i2]?).bind fun x4 =>
   if ((x3.toNat : Nat) : Int) = ((x4.toNat : Nat) : Int) then
    xH a0 a1 m (w64 (v2 + 1))
   else
   some (.inl false)
  else
  some (.inr v2)
theorem Qa (a0 : (List UInt8)) (a1 : (List UInt8)) (m : Nat) : ∀ (v2 : Int), Ol (xH a0 a1 m v2) 9 (ye Tryd.f9 0) ⟨[(0, vq za a0), (1, vq za a1), (5, vi v2)], [], 0⟩ fun o => match o with | .inl o_0 => (.ret, ⟨[(4, vb o_0)], [], 0⟩) | .inr (o_1) => (.exit 0, ⟨[(0, vq za a0), (1, vq za a1), (5, vi o_1), (14, vb false)], [], 0⟩) := by
  induction m with
  | zero => intro v2 o h; cases h
  | succ m ih => exact fun v2 => tlp (
   .le za a0 <|
   .lI v2 (a0.length : Int) (fun c1 =>
    .na v2 fun i2 =>
    .ix0 za a0 i2 fun x3 =>
    .ag 1 <|
    .ix0 za a1 i2 fun x4 =>
    .eI ((x3.toNat : Nat) : Int) ((x4.toNat : Nat) : Int) (fun c5 =>
     .go (ih (w64 (v2 + 1)))) fun c5 =>
    .ret (.inl false)) fun c1 =>
   .ret (.inr v2))
def vP (n : Nat) (a0 : (List UInt8)) (a1 : (List UInt8)) : Option Bool :=
 if (a0.length : Int) = (a1.length : Int) then
  (xH a0 a1 n 0).bind fun o2 =>
  match o2 with
  | .inl o2_0 =>
   some o2_0
  | .inr (o2_1) =>
   some true
 else
 some false
theorem VC (n : Nat) : YW (vP n) := fun a0 a1 => tc (
 .le za a0 <|
 .le za a1 <|
 .eI (a0.length : Int) (a1.length : Int) (fun c1 =>
  .l2 (Qa a0 a1 n 0) (fun o2_0 =>
   .ret o2_0) fun o2_1 =>
  .ret true) fun c1 =>
 .ret false) (zr Tryd.func9)
theorem Uv {a : List UInt8} (ha : a.length <= 2 ^ 40) : ∀ (d i m : Nat), i + d = a.length → d < m → ∃ z, xH a a m (i : Int) = some (.inr z) := by
 intro d
 induction d with
 | zero =>
  intro i m hi hm
  obtain ⟨m, rfl, _⟩ := zo hm
  exact ⟨_, by rw [xH, if_neg (by omega)]⟩
 | succ d ih =>
  intro i m hi hm
  obtain ⟨m, rfl, hm'⟩ := zo hm
  have hil : i < a.length := by omega
  rw [xH, if_pos (by omega), zg, Option.bind_some, zw hil, Option.bind_some, Option.bind_some, if_pos rfl, yf (by omega)]
  exact ih (i + 1) m (by omega) (by omega)
def yt (a0 : (List UInt8)) (a1 : (List UInt8)) : Option Bool := if a0 = a1 ∧ a0.length <= 2 ^ 40 then some true else none
theorem QN (a0 : (List UInt8)) (a1 : (List UInt8)) (r : Bool) (h : yt a0 a1 = some r) : ∃ n, vP n a0 a1 = some r := by
 unfold yt at h
 obtain ⟨⟨he, ha⟩, h2⟩ := zM h
 clear h
 subst he
 refine ⟨a0.length + 1, ?_⟩
 obtain ⟨z, hz⟩ := Uv ha a0.length 0 (a0.length + 1) (by omega) (by omega)
 rw [show ((0 : Nat) : Int) = 0 from rfl] at hz
 unfold vP
 rw [if_pos rfl, hz]; exact h2
theorem jx : YW yt := fun a0 a1 r h => (QN a0 a1 r h).elim fun n hn => VC n a0 a1 r hn
def jc (a0 : GStep) (a1 : GStep) : Option Bool :=
 if a0.Kind = a1.Kind then
  (yt a0.Key a1.Key).bind fun r2 =>
  match r2 with
  | true =>
   if a0.I = a1.I then
    some true
   else
   some false
  | false =>
   some false
 else
 some false
theorem VD (a0 : GStep) (a1 : GStep) : Oc (jc a0 a1) 64 [] [.val true (jf a0), .val true (jf a1)] fun r => (vb r, []) := tc (
 .eI a0.Kind a1.Kind (fun c1 =>
  .cl (jx a0.Key a1.Key) fun r2 =>
  .vN 0 r2 (
   .eI a0.I a1.I (fun c3 =>
    .ret true) fun c3 =>
   .ret false) <|
  .ret false) fun c1 =>
 .ret false) (zr Tryd.func64)
def YX (F : (List GStep) → (List GStep) → Option Bool) : Prop := ∀ (a0 : (List GStep)) (a1 : (List GStep)), Oc (F a0 a1) 30 [] [vq zb a0, vq zb a1] fun r => (vb r, [])
def xI (a0 : (List GStep)) (a1 : (List GStep)) : Nat → Int → Option (Bool ⊕ Int)
  | 0, _ => none
  | m + 1, v2 =>
  if v2 < (a0.length : Int) then
   (z7 v2).bind fun i2 =>
   (a0[i2]?).bind fun x3 =>
   (a1[i2]?).bind fun x4 =>
   (jc x3 x4).bind fun r5 =>
   match r5 with
   | true =>
    xI a0 a1 m (w64 (v2 + 1))
   | false =>
    some (.inl false)
  else
  some (.inr v2)
theorem Qb (a0 : (List GStep)) (a1 : (List GStep)) (m : Nat) : ∀ (v2 : Int), Ol (xI a0 a1 m v2) 30 (ye Tryd.f30 0) ⟨[(0, vq zb a0), (1, vq zb a1), (5, vi v2)], [], 0⟩ fun o => match o with | .inl o_0 => (.ret, ⟨[(4, vb o_0)], [], 0⟩) | .inr (o_1) => (.exit 0, ⟨[(0, vq zb a0), (1, vq zb a1), (5, vi o_1), (14, vb false)], [], 0⟩) := by
  induction m with
  | zero => intro v2 o h; cases h
  | succ m ih => exact fun v2 => tlp (
   .le zb a0 <|
   .lI v2 (a0.length : Int) (fun c1 =>
    .na v2 fun i2 =>
    .ix yv a0 i2 fun x3 =>
    .ag 1 <|
    .ix yv a1 i2 fun x4 =>
    .cl (VD x3 x4) fun r5 =>
    .vN 0 r5 (
     .go (ih (w64 (v2 + 1)))) <|
    .ret (.inl false)) fun c1 =>
   .ret (.inr v2))
def vQ (n : Nat) (a0 : (List GStep)) (a1 : (List GStep)) : Option Bool :=
 if (a0.length : Int) = (a1.length : Int) then
  (xI a0 a1 n 0).bind fun o2 =>
  match o2 with
  | .inl o2_0 =>
   some o2_0
  | .inr (o2_1) =>
   some true
 else
 some false
theorem VE (n : Nat) : YX (vQ n) := fun a0 a1 => tc (
 .le zb a0 <|
 .le zb a1 <|
 .eI (a0.length : Int) (a1.length : Int) (fun c1 =>
  .l2 (Qb a0 a1 n 0) (fun o2_0 =>
   .ret o2_0) fun o2_1 =>
  .ret true) fun c1 =>
 .ret false) (zr Tryd.func30)
theorem Uw {a : List GStep} (ha : a.length <= 2 ^ 40) (hG : ∀ v ∈ a, jc v v = some true) : ∀ (d i m : Nat), i + d = a.length → d < m → ∃ z, xI a a m (i : Int) = some (.inr z) := by
 intro d
 induction d with
 | zero =>
  intro i m hi hm
  obtain ⟨m, rfl, _⟩ := zo hm
  exact ⟨_, by rw [xI, if_neg (by omega)]⟩
 | succ d ih =>
  intro i m hi hm
  obtain ⟨m, rfl, hm'⟩ := zo hm
  have hil : i < a.length := by omega
  rw [xI, if_pos (by omega), zg, Option.bind_some, zw hil, Option.bind_some, Option.bind_some, hG _ (List.getElem_mem hil), Option.bind_some, yf (by omega)]
  exact ih (i + 1) m (by omega) (by omega)
theorem LH {v : GStep} (h : wA v <= 2 ^ 39) : jc v v = some true := by
 unfold wA at h
 unfold jc yt
 rw [if_pos rfl, if_pos ⟨rfl, by omega⟩, Option.bind_some]
 dsimp only
 rw [if_pos rfl]
open Classical in
noncomputable def wE (a0 : (List GStep)) (a1 : (List GStep)) : Option Bool := if a0 = a1 ∧ zW a0 <= 2 ^ 39 then some true else none
theorem Eu {s : List GStep} (h : zW s <= 2 ^ 39) : wE s s = some true := if_pos ⟨rfl, h⟩
theorem QO (a0 : (List GStep)) (a1 : (List GStep)) (r : Bool) (h : wE a0 a1 = some r) : ∃ n, vQ n a0 a1 = some r := by
 unfold wE at h
 obtain ⟨⟨he, ha⟩, h2⟩ := zM h
 clear h
 subst he
 have hl := wk a0
 refine ⟨a0.length + 1, ?_⟩
 obtain ⟨z, hz⟩ := Uw (a := a0) (by omega) (fun v hv => LH (by have := Y7 hv; omega)) a0.length 0 (a0.length + 1) (by omega) (by omega)
 rw [show ((0 : Nat) : Int) = 0 from rfl] at hz
 unfold vQ
 rw [if_pos rfl, hz]; exact h2
theorem KB : YX wE := fun a0 a1 r h => (QO a0 a1 r h).elim fun n hn => VE n a0 a1 r hn
def Y4 (F : (List (List UInt8)) → (List (List UInt8)) → Option Bool) : Prop := ∀ (a0 : (List (List UInt8))) (a1 : (List (List UInt8))), Oc (F a0 a1) 65 [] [vq (zL za) a0, vq (zL za) a1] fun r => (vb r, [])
def xq (a0 : (List (List UInt8))) (a1 : (List (List UInt8))) : Nat → Int → Option (Bool ⊕ Int)
  | 0, _ => none
  | m + 1, v2 =>
  if v2 < (a0.length : Int) then
   (z7 v2).bind fun i2 =>
   (a0[i2]?).bind fun x3 =>
   (a1[i2]?).bind fun x4 =>
   (yt x3 x4).bind fun r5 =>
   match r5 with
   | true =>
    xq a0 a1 m (w64 (v2 + 1))
   | false =>
    some (.inl false)
  else
  some (.inr v2)
theorem Wj (a0 : (List (List UInt8))) (a1 : (List (List UInt8))) (m : Nat) : ∀ (v2 : Int), Ol (xq a0 a1 m v2) 65 (ye Tryd.f65 0) ⟨[(0, vq (zL za) a0), (1, vq (zL za) a1), (5, vi v2)], [], 0⟩ fun o => match o with | .inl o_0 => (.ret, ⟨[(4, vb o_0)], [], 0⟩) | .inr (o_1) => (.exit 0, ⟨[(0, vq (zL za) a0), (1, vq (zL za) a1), (5, vi o_1), (14, vb false)], [], 0⟩) := by
  induction m with
  | zero => intro v2 o h; cases h
  | succ m ih => exact fun v2 => tlp (
   .le (zL za) a0 <|
   .lI v2 (a0.length : Int) (fun c1 =>
    .na v2 fun i2 =>
    .ix0 (zL za) a0 i2 fun x3 =>
    .ag 1 <|
    .ix0 (zL za) a1 i2 fun x4 =>
    .cl (jx x3 x4) fun r5 =>
    .vN 0 r5 (
     .go (ih (w64 (v2 + 1)))) <|
    .ret (.inl false)) fun c1 =>
   .ret (.inr v2))
def v8 (n : Nat) (a0 : (List (List UInt8))) (a1 : (List (List UInt8))) : Option Bool :=
 if (a0.length : Int) = (a1.length : Int) then
  (xq a0 a1 n 0).bind fun o2 =>
  match o2 with
  | .inl o2_0 =>
   some o2_0
  | .inr (o2_1) =>
   some true
 else
 some false
theorem KC (n : Nat) : Y4 (v8 n) := fun a0 a1 => tc (
 .le (zL za) a0 <|
 .le (zL za) a1 <|
 .eI (a0.length : Int) (a1.length : Int) (fun c1 =>
  .l2 (Wj a0 a1 n 0) (fun o2_0 =>
   .ret o2_0) fun o2_1 =>
  .ret true) fun c1 =>
 .ret false) (zr Tryd.func65)
theorem RU {a : List (List UInt8)} (ha : bsz a <= 2 ^ 40) : ∀ (d i m : Nat), i + d = a.length → d < m → ∃ z, xq a a m (i : Int) = some (.inr z) := by
 have hl := kQ a
 intro d
 induction d with
 | zero =>
  intro i m hi hm
  obtain ⟨m, rfl, _⟩ := zo hm
  exact ⟨_, by rw [xq, if_neg (by omega)]⟩
 | succ d ih =>
  intro i m hi hm
  obtain ⟨m, rfl, hm'⟩ := zo hm
  have hil : i < a.length := by omega
  have hx := Q3 (List.getElem_mem hil)
  rw [xq, if_pos (by omega), zg, Option.bind_some, zw hil, Option.bind_some, Option.bind_some]
  unfold yt
  rw [if_pos ⟨rfl, by omega⟩, Option.bind_some, yf (by omega)]
  exact ih (i + 1) m (by omega) (by omega)
def ql (a0 : (List (List UInt8))) (a1 : (List (List UInt8))) : Option Bool := if a0 = a1 ∧ bsz a0 <= 2 ^ 40 then some true else none
theorem Qc (a0 : (List (List UInt8))) (a1 : (List (List UInt8))) (r : Bool) (h : ql a0 a1 = some r) : ∃ n, v8 n a0 a1 = some r := by
 unfold ql at h
 obtain ⟨⟨he, ha⟩, h2⟩ := zM h
 clear h
 subst he
 have hl := kQ a0
 refine ⟨a0.length + 1, ?_⟩
 obtain ⟨z, hz⟩ := RU ha a0.length 0 (a0.length + 1) (by omega) (by omega)
 rw [show ((0 : Nat) : Int) = 0 from rfl] at hz
 unfold v8
 rw [if_pos rfl, hz]; exact h2
theorem JB : Y4 ql := fun a0 a1 r h => (Qc a0 a1 r h).elim fun n hn => KC n a0 a1 r hn
def jy (F : (List GValue) → (List GValue) → Option Bool) : Prop := ∀ (a0 : (List GValue)) (a1 : (List GValue)), Oc (F a0 a1) 66 [] [vq zd a0, vq zd a1] fun r => (vb r, [])
def qD (F : GValue → GValue → Option Bool) : Prop := ∀ (a0 : GValue) (a1 : GValue), Oc (F a0 a1) 31 [] [.val true (zH a0), .val true (zH a1)] fun r => (vb r, [])
def xr (G_laws_eqValue : GValue → GValue → Option Bool) (a0 : (List GValue)) (a1 : (List GValue)) : Nat → Int → Option (Bool ⊕ Int)
  | 0, _ => none
  | m + 1, v2 =>
  if v2 < (a0.length : Int) then
   (z7 v2).bind fun i2 =>
   (a0[i2]?).bind fun x3 =>
   (a1[i2]?).bind fun x4 =>
   (G_laws_eqValue x3 x4).bind fun r5 =>
   match r5 with
   | true =>
    xr G_laws_eqValue a0 a1 m (w64 (v2 + 1))
   | false =>
    some (.inl false)
  else
  some (.inr v2)
theorem Wk (G_laws_eqValue : GValue → GValue → Option Bool) (H_laws_eqValue : qD G_laws_eqValue) (a0 : (List GValue)) (a1 : (List GValue)) (m : Nat) : ∀ (v2 : Int), Ol (xr G_laws_eqValue a0 a1 m v2) 66 (ye Tryd.f66 0) ⟨[(0, vq zd a0), (1, vq zd a1), (5, vi v2)], [], 0⟩ fun o => match o with | .inl o_0 => (.ret, ⟨[(4, vb o_0)], [], 0⟩) | .inr (o_1) => (.exit 0, ⟨[(0, vq zd a0), (1, vq zd a1), (5, vi o_1), (14, vb false)], [], 0⟩) := by
  induction m with
  | zero => intro v2 o h; cases h
  | succ m ih => exact fun v2 => tlp (
   .le zd a0 <|
   .lI v2 (a0.length : Int) (fun c1 =>
    .na v2 fun i2 =>
    .ix zU a0 i2 fun x3 =>
    .ag 1 <|
    .ix zU a1 i2 fun x4 =>
    .cl (H_laws_eqValue x3 x4) fun r5 =>
    .vN 0 r5 (
     .go (ih (w64 (v2 + 1)))) <|
    .ret (.inl false)) fun c1 =>
   .ret (.inr v2))
def jz (G_laws_eqValue : GValue → GValue → Option Bool) (n : Nat) (a0 : (List GValue)) (a1 : (List GValue)) : Option Bool :=
 if (a0.length : Int) = (a1.length : Int) then
  (xr G_laws_eqValue a0 a1 n 0).bind fun o2 =>
  match o2 with
  | .inl o2_0 =>
   some o2_0
  | .inr (o2_1) =>
   some true
 else
 some false
theorem KD (G_laws_eqValue : GValue → GValue → Option Bool) (H_laws_eqValue : qD G_laws_eqValue) (n : Nat) : jy (jz G_laws_eqValue n) := fun a0 a1 => tc (
 .le zd a0 <|
 .le zd a1 <|
 .eI (a0.length : Int) (a1.length : Int) (fun c1 =>
  .l2 (Wk G_laws_eqValue H_laws_eqValue a0 a1 n 0) (fun o2_0 =>
   .ret o2_0) fun o2_1 =>
  .ret true) fun c1 =>
 .ret false) (zr Tryd.func66)
def vR (G_laws_eqValueS : (List GValue) → (List GValue) → Option Bool) (a0 : GValue) (a1 : GValue) : Option Bool :=
 if a0.Kind = a1.Kind then
  if a0.N = a1.N then
   (yt a0.S a1.S).bind fun r3 =>
   match r3 with
   | true =>
    (ql a0.K a1.K).bind fun r4 =>
    match r4 with
    | true =>
     (G_laws_eqValueS a0.L a1.L).bind fun r5 =>
     match r5 with
     | true =>
      some true
     | false =>
      some false
    | false =>
     some false
   | false =>
    some false
  else
  some false
 else
 some false
theorem VF (G_laws_eqValueS : (List GValue) → (List GValue) → Option Bool) (H_laws_eqValueS : jy G_laws_eqValueS) : qD (vR G_laws_eqValueS) := fun a0 a1 => tc (
 .eI a0.Kind a1.Kind (fun c1 =>
  .eI a0.N a1.N (fun c2 =>
   .cl (jx a0.S a1.S) fun r3 =>
   .vN 0 r3 (
    .cl (JB a0.K a1.K) fun r4 =>
    .vN 0 r4 (
     .cl (H_laws_eqValueS a0.L a1.L) fun r5 =>
     .vN 0 r5 (
      .ret true) <|
     .ret false) <|
    .ret false) <|
   .ret false) fun c2 =>
  .ret false) fun c1 =>
 .ret false) (zr Tryd.func31)
mutual
def yT : Nat → (List GValue) → (List GValue) → Option Bool
 | 0, _, _ => none
 | n + 1, a0, a1 => jz (xt n) n a0 a1
def xt : Nat → GValue → GValue → Option Bool
 | 0, _, _ => none
 | n + 1, a0, a1 => vR (yT n) a0 a1
end
theorem Zz (n : Nat) : jy (yT n) ∧ qD (xt n) := by
 induction n with
 | zero => exact ⟨fun _ _ _ h => (by rw [yT] at h; cases h), fun _ _ _ h => (by rw [xt] at h; cases h)⟩
 | succ n ih =>
  obtain ⟨ih_laws_eqValueS, ih_laws_eqValue⟩ := ih
  exact ⟨fun a0 a1 r h => KD (xt n) ih_laws_eqValue n a0 a1 r (by rw [yT] at h; exact h),
   fun a0 a1 r h => VF (yT n) ih_laws_eqValueS a0 a1 r (by rw [xt] at h; exact h)⟩
theorem KE {G : GValue → GValue → Option Bool} {a : List GValue} {f : Nat} (ha : a.length <= 2 ^ 40) (hf : a.length < f) (hG : ∀ v ∈ a, G v v = some true) : jz G f a a = some true := by
 have loop : ∀ (d i m : Nat), i + d = a.length → d < m → ∃ z, xr G a a m (i : Int) = some (.inr z) := by
  intro d
  induction d with
  | zero =>
   intro i m hi hm
   obtain ⟨m, rfl, _⟩ := zo hm
   exact ⟨_, by rw [xr, if_neg (by omega)]⟩
  | succ d ih =>
   intro i m hi hm
   obtain ⟨m, rfl, hm'⟩ := zo hm
   have hil : i < a.length := by omega
   rw [xr, if_pos (by omega), zg, Option.bind_some, zw hil, Option.bind_some, Option.bind_some, hG _ (List.getElem_mem hil), Option.bind_some, yf (by omega)]
   exact ih (i + 1) m (by omega) (by omega)
 obtain ⟨z, hz⟩ := loop a.length 0 f (by omega) (by omega)
 rw [show ((0 : Nat) : Int) = 0 from rfl] at hz
 unfold jz
 rw [if_pos rfl, hz]; rfl
theorem Ry : ∀ (N : Nat) (v : GValue), vsz v < N → vsz v <= 2 ^ 40 → ∀ f : Nat, 2 * vsz v + 3 <= f → xt f v v = some true := by
 intro N
 induction N with
 | zero => intro v hv; omega
 | succ N ih =>
  intro v hv hs f hf
  obtain ⟨f, rfl, _⟩ := zo (show 0 < f by omega)
  obtain ⟨f, rfl, _⟩ := zo (show 0 < f by omega)
  have he := xR v
  have hl := yC v.L
  rw [xt]
  unfold vR yt ql
  rw [if_pos rfl, if_pos rfl, if_pos (show v.S = v.S ∧ v.S.length <= 2 ^ 40 from ⟨rfl, by omega⟩), Option.bind_some]
  dsimp only
  rw [if_pos (show v.K = v.K ∧ bsz v.K <= 2 ^ 40 from ⟨rfl, by omega⟩), Option.bind_some]
  dsimp only
  rw [yT, KE (by omega) (by omega) fun x hx => ?_]
  ·rfl
  ·have := wy hx
   exact ih x (by omega) (by omega) f (by omega)
open Classical in
noncomputable def vA (a0 : (List GValue)) (a1 : (List GValue)) : Option Bool := if a0 = a1 ∧ yw a0 <= 2 ^ 40 then some true else none
theorem Qd (a0 : (List GValue)) (a1 : (List GValue)) (r : Bool) (h : vA a0 a1 = some r) : ∃ n, yT n a0 a1 = some r := by
 unfold vA at h
 obtain ⟨⟨he, ha⟩, h2⟩ := zM h
 clear h
 subst he
 have hl := yC a0
 refine ⟨2 * yw a0 + 5, ?_⟩
 rw [yT, KE (by omega) (by omega) fun x hx => ?_, h2]
 have := wy hx
 exact Ry _ x (Nat.lt_succ_self _) (by omega) _ (by omega)
open Classical in
noncomputable def yu (a0 : GValue) (a1 : GValue) : Option Bool := if a0 = a1 ∧ vsz a0 <= 2 ^ 40 then some true else none
theorem QP (a0 : GValue) (a1 : GValue) (r : Bool) (h : yu a0 a1 = some r) : ∃ n, xt n a0 a1 = some r := by
 unfold yu at h
 obtain ⟨⟨he, ha⟩, h2⟩ := zM h
 clear h
 subst he
 exact ⟨2 * vsz a0 + 3, by rw [<- h2]; exact Ry _ a0 (Nat.lt_succ_self _) ha _ (Nat.le_refl _)⟩
theorem MW : jy vA := by
 intro a0 a1 r h
 obtain ⟨n, hn⟩ := Qd a0 a1 r h
 exact (Zz n).1 a0 a1 r hn
theorem wt : qD yu := by
 intro a0 a1 r h
 obtain ⟨n, hn⟩ := QP a0 a1 r h
 exact (Zz n).2 a0 a1 r hn
def j0 (a0 : GChange) (a1 : GChange) : Option Bool :=
 (wE a0.Path a1.Path).bind fun r1 =>
 match r1 with
 | true =>
  if a0.Had = true then
   if a1.Had = true then
    (yu a0.Old a1.Old).bind fun r4 =>
    match r4 with
    | true =>
     if a0.Has = true then
      if a1.Has = true then
       (yu a0.New a1.New).bind fun r7 =>
       match r7 with
       | true =>
        some true
       | false =>
        some false
      else
      some false
     else
     if a1.Has = true then
      some false
     else
     (yu a0.New a1.New).bind fun r7 =>
     match r7 with
     | true =>
      some true
     | false =>
      some false
    | false =>
     some false
   else
   some false
  else
  if a1.Had = true then
   some false
  else
  (yu a0.Old a1.Old).bind fun r4 =>
  match r4 with
  | true =>
   if a0.Has = true then
    if a1.Has = true then
     (yu a0.New a1.New).bind fun r7 =>
     match r7 with
     | true =>
      some true
     | false =>
      some false
    else
    some false
   else
   if a1.Has = true then
    some false
   else
   (yu a0.New a1.New).bind fun r7 =>
   match r7 with
   | true =>
    some true
   | false =>
    some false
  | false =>
   some false
 | false =>
  some false
theorem JC (a0 : GChange) (a1 : GChange) : Oc (j0 a0 a1) 10 [] [.val true (qJ a0), .val true (qJ a1)] fun r => (vb r, []) := tc (
 .cl (KB a0.Path a1.Path) fun r1 =>
 .vN 0 r1 (
  .sp (a0.Had = true) (fun c2 =>
   .sp (a1.Had = true) (fun c3 =>
    .eb c2 c3 <|
    .cl (wt a0.Old a1.Old) fun r4 =>
    .vN 0 r4 (
     .sp (a0.Has = true) (fun c5 =>
      .sp (a1.Has = true) (fun c6 =>
       .eb c5 c6 <|
       .cl (wt a0.New a1.New) fun r7 =>
       .vN 0 r7 (
        .ret true) <|
       .ret false) fun c6 =>
      .eb c5 (bF c6) <|
      .ret false) fun c5 =>
     .sp (a1.Has = true) (fun c6 =>
      .eb (bF c5) c6 <|
      .ret false) fun c6 =>
     .eb (bF c5) (bF c6) <|
     .cl (wt a0.New a1.New) fun r7 =>
     .vN 0 r7 (
      .ret true) <|
     .ret false) <|
    .ret false) fun c3 =>
   .eb c2 (bF c3) <|
   .ret false) fun c2 =>
  .sp (a1.Had = true) (fun c3 =>
   .eb (bF c2) c3 <|
   .ret false) fun c3 =>
  .eb (bF c2) (bF c3) <|
  .cl (wt a0.Old a1.Old) fun r4 =>
  .vN 0 r4 (
   .sp (a0.Has = true) (fun c5 =>
    .sp (a1.Has = true) (fun c6 =>
     .eb c5 c6 <|
     .cl (wt a0.New a1.New) fun r7 =>
     .vN 0 r7 (
      .ret true) <|
     .ret false) fun c6 =>
    .eb c5 (bF c6) <|
    .ret false) fun c5 =>
   .sp (a1.Has = true) (fun c6 =>
    .eb (bF c5) c6 <|
    .ret false) fun c6 =>
   .eb (bF c5) (bF c6) <|
   .cl (wt a0.New a1.New) fun r7 =>
   .vN 0 r7 (
    .ret true) <|
   .ret false) <|
  .ret false) <|
 .ret false) (zr Tryd.func10)
def ZZ (F : Int → (List UInt8) → Option (Int × (List UInt8))) : Prop := ∀ (a0 : Int) (e0 : (List UInt8)), Oc (F a0 e0) 12 [.obj 1 (eL za e0)] [vr 0, vi a0] fun r => (vi r.1, [.obj 1 (eL za r.2)])
def yU : Nat → Int → Int → (List UInt8) → Option (Int × Int × (List UInt8))
  | 0, _, _, _ => none
  | m + 1, a0, v1, e0 =>
  if v1 < (e0.length : Int) then
   (z7 v1).bind fun i2 =>
   (e0[i2]?).bind fun x3 =>
   yU m (w64 (a0 + 1)) (w64 (v1 + 1)) (e0.set i2 (b8 a0))
  else
  some (a0, v1, e0)
theorem X8 (m : Nat) : ∀ (a0 : Int) (v1 : Int) (e0 : (List UInt8)), Ol (yU m a0 v1 e0) 12 (ye Tryd.f12 0) ⟨[(0, vr 0), (1, vi a0), (5, vi v1)], [.obj 1 (eL za e0)], 1⟩ fun o => match o with | ⟨o_0, o_1, o_2⟩ => (.exit 0, ⟨[(0, vr 0), (1, vi o_0), (5, vi o_1), (9, vb false)], [.obj 1 (eL za o_2)], 1⟩) := by
  induction m with
  | zero => intro a0 v1 e0 o h; cases h
  | succ m ih => exact fun a0 v1 e0 => tlp (
   .le za e0 <|
   .lI v1 (e0.length : Int) (fun c1 =>
    .na v1 fun i2 =>
    .ix0 za e0 i2 fun x3 =>
    .ag 0 <|
    .sl (e := za) (x := (b8 a0)) (c := [.int .u8 (((b8 a0).toNat : Nat) : Int)]) rfl e0 i2 <|
    .go (ih (w64 (a0 + 1)) (w64 (v1 + 1)) (e0.set i2 (b8 a0)))) fun c1 =>
   .ret (a0, v1, e0))
def kG (n : Nat) (a0 : Int) (e0 : (List UInt8)) : Option (Int × (List UInt8)) :=
 (yU n a0 0 e0).bind fun ⟨o1_0, o1_1, o1_2⟩ =>
 some (o1_0, o1_2)
theorem JD (n : Nat) : ZZ (kG n) := fun a0 e0 => tc (
 .lp (X8 n a0 0 e0) fun ⟨o1_0, o1_1, o1_2⟩ =>
 .ret (o1_0, o1_2)) (zr Tryd.func12)
theorem VG : ∀ (l p : List UInt8) (k : Int) (m : Nat), 0 <= k → k + 2 * l.length <= 2 ^ 41 → p.length + l.length <= 2 ^ 41 → l.length < m → ∃ z, yU m k (p.length : Int) (p ++ l) = some (k + l.length, z, p ++ mB k l) := by
 intro l
 induction l with
 | nil =>
  intro p k m _ _ _ hm
  obtain ⟨m, rfl, _⟩ := zo hm
  exact ⟨_, by rw [yU, if_neg (ZG p)]; simp [mB]; rfl⟩
 | cons x l ih =>
  intro p k m h0 h1 h2 hm
  obtain ⟨m, rfl, hm'⟩ := zo hm
  simp only [List.length_cons] at h1 h2 hm'
  obtain ⟨z, hz⟩ := ih (p ++ [b8 k]) (k + 1) m (by omega) (by omega) (by simp; omega) (by omega)
  rw [yU, if_pos (Qg p x l), zg, Option.bind_some, zZ, Option.bind_some, kR, yj p (b8 k) (by omega), yD (x := k + 1) (by omega) (by omega), Ye p (b8 k) l, hz]
  refine ⟨z, ?_⟩
  rw [mB, Ye p (b8 k) (mB (k + 1) l)]
  simp only [List.length_cons]
  rw [show k + 1 + (l.length : Int) = k + ((l.length + 1 : Nat) : Int) by omega]
def y3 (a0 : Int) (e0 : (List UInt8)) : Option (Int × (List UInt8)) := if 0 <= a0 ∧ a0 + 2 * e0.length <= 2 ^ 41 then some (a0 + e0.length, mB a0 e0) else none
theorem jK {a : Int} {s : List UInt8} (h0 : 0 <= a) (h1 : a + 2 * s.length <= 2 ^ 41) : y3 a s = some (a + s.length, mB a s) := if_pos ⟨h0, h1⟩
theorem Wl (a0 : Int) (e0 : (List UInt8)) (r : (Int × (List UInt8))) (h : y3 a0 e0 = some r) : ∃ n, kG n a0 e0 = some r := by
 unfold y3 at h
 obtain ⟨⟨h0, h1⟩, h⟩ := zM h
 obtain ⟨z, hz⟩ := VG e0 [] a0 (e0.length + 1) h0 h1 (by simp; omega) (by omega)
 refine ⟨e0.length + 1, ?_⟩
 unfold kG
 simp only [List.nil_append, List.length_nil, Int.natCast_zero] at hz
 rw [hz]
 exact h
theorem w6 : ZZ y3 := fun a0 e0 r h => (Wl a0 e0 r h).elim fun n hn => JD n a0 e0 r hn
def Ya (F : Int → (List GStep) → Option (Int × (List GStep))) : Prop := ∀ (a0 : Int) (e0 : (List GStep)), Oc (F a0 e0) 32 [.obj 3 (eL xu e0)] [vr 0, vi a0] fun r => (vi r.1, [.obj 3 (eL xu r.2)])
def yV : Nat → Int → Int → (List GStep) → Option (Int × Int × (List GStep))
  | 0, _, _, _ => none
  | m + 1, a0, v1, e0 =>
  if v1 < (e0.length : Int) then
   (z7 v1).bind fun i2 =>
   (e0[i2]?).bind fun x3 =>
   ((e0.set i2 (GStep.mk a0 x3.Key x3.I))[i2]?).bind fun x4 =>
   (y3 (w64 (a0 + 1)) x4.Key).bind fun ⟨r5_0, r5_1⟩ =>
   (((e0.set i2 (GStep.mk a0 x3.Key x3.I)).set i2 (GStep.mk x4.Kind r5_1 x4.I))[i2]?).bind fun x6 =>
   yV m (w64 (r5_0 + 1)) (w64 (v1 + 1)) (((e0.set i2 (GStep.mk a0 x3.Key x3.I)).set i2 (GStep.mk x4.Kind r5_1 x4.I)).set i2 (GStep.mk x6.Kind x6.Key r5_0))
  else
  some (a0, v1, e0)
theorem X9 (m : Nat) : ∀ (a0 : Int) (v1 : Int) (e0 : (List GStep)), Ol (yV m a0 v1 e0) 32 (ye Tryd.f32 0) ⟨[(0, vr 0), (1, vi a0), (5, vi v1)], [.obj 3 (eL xu e0)], 1⟩ fun o => match o with | ⟨o_0, o_1, o_2⟩ => (.exit 0, ⟨[(0, vr 0), (1, vi o_0), (5, vi o_1), (9, vb false)], [.obj 3 (eL xu o_2)], 1⟩) := by
  induction m with
  | zero => intro a0 v1 e0 o h; cases h
  | succ m ih => exact fun a0 v1 e0 => tlp (
   .le xu e0 <|
   .lI v1 (e0.length : Int) (fun c1 =>
    .na v1 fun i2 =>
    .ix qm e0 i2 fun x3 =>
    .ag 0 <|
    .sl (qm (GStep.mk a0 x3.Key x3.I)) e0 i2 <|
    .ag 1 <|
    .ix qm (e0.set i2 (GStep.mk a0 x3.Key x3.I)) i2 fun x4 =>
    .ag 0 <|
    .cl (w6 (w64 (a0 + 1)) x4.Key) fun ⟨r5_0, r5_1⟩ =>
    .ag 1 <|
    .sl (qm (GStep.mk x4.Kind r5_1 x4.I)) (e0.set i2 (GStep.mk a0 x3.Key x3.I)) i2 <|
    .ag 3 <|
    .ix qm ((e0.set i2 (GStep.mk a0 x3.Key x3.I)).set i2 (GStep.mk x4.Kind r5_1 x4.I)) i2 fun x6 =>
    .ag 0 <|
    .sl (qm (GStep.mk x6.Kind x6.Key r5_0)) ((e0.set i2 (GStep.mk a0 x3.Key x3.I)).set i2 (GStep.mk x4.Kind r5_1 x4.I)) i2 <|
    .go (ih (w64 (r5_0 + 1)) (w64 (v1 + 1)) (((e0.set i2 (GStep.mk a0 x3.Key x3.I)).set i2 (GStep.mk x4.Kind r5_1 x4.I)).set i2 (GStep.mk x6.Kind x6.Key r5_0)))) fun c1 =>
   .ret (a0, v1, e0))
def kH (n : Nat) (a0 : Int) (e0 : (List GStep)) : Option (Int × (List GStep)) :=
 (yV n a0 0 e0).bind fun ⟨o1_0, o1_1, o1_2⟩ =>
 some (o1_0, o1_2)
theorem JE (n : Nat) : Ya (kH n) := fun a0 e0 => tc (
 .lp (X9 n a0 0 e0) fun ⟨o1_0, o1_1, o1_2⟩ =>
 .ret (o1_0, o1_2)) (zr Tryd.func32)
theorem VH : ∀ (l p : List GStep) (k : Int) (m : Nat), 0 <= k → k + 4 * zW l <= 2 ^ 40 → p.length + l.length <= 2 ^ 40 → l.length < m → ∃ z, yV m k (p.length : Int) (p ++ l) = some (k + xY l, z, p ++ wU k l) := by
 intro l
 induction l with
 | nil =>
  intro p k m _ _ _ hm
  obtain ⟨m, rfl, _⟩ := zo hm
  exact ⟨_, by rw [yV, if_neg (ZG p)]; simp [wU, xY]; rfl⟩
 | cons x l ih =>
  intro p k m h0 h1 h2 hm
  obtain ⟨m, rfl, hm'⟩ := zo hm
  simp only [List.length_cons] at h2 hm'
  simp only [zW, wA] at h1
  obtain ⟨z, hz⟩ := ih (p ++ [mSt k x]) (k + ((x.Key.length + 2 : Nat) : Int)) m (by omega) (by omega) (by simp; omega) (by omega)
  obtain ⟨kd, ky, i⟩ := x
  simp only [GStep.Key] at *
  rw [yV, if_pos (Qg p _ l), zg, Option.bind_some, zZ, Option.bind_some]
  simp only [kR, zZ, Option.bind_some, GStep.Kind, GStep.Key, GStep.I]
  rw [yD (x := k + 1) (by omega) (by omega), jK (by omega) (by omega)]
  simp only [Option.bind_some, kR, zZ, GStep.Kind, GStep.Key, GStep.I]
  rw [yD (x := k + 1 + (ky.length : Int) + 1) (by omega) (by omega)]
  refine ⟨z, Eq.trans ?_ (Eq.trans hz ?_)⟩
  ·congr 1
   ·omega
   ·exact yj p (mSt k _) (by omega)
   ·rw [List.append_assoc, List.singleton_append]; rfl
  simp only [wU, xY, GStep.Key, List.append_assoc, List.singleton_append]
  rw [show k + ((ky.length + 2 : Nat) : Int) + (xY l : Int) = k + ((ky.length + 2 + xY l : Nat) : Int) by omega]
def wM (a0 : Int) (e0 : (List GStep)) : Option (Int × (List GStep)) := if 0 <= a0 ∧ a0 + 4 * zW e0 <= 2 ^ 40 then some (a0 + xY e0, wU a0 e0) else none
theorem Ux {a : Int} {s : List GStep} (h0 : 0 <= a) (h1 : a + 4 * zW s <= 2 ^ 40) : wM a s = some (a + xY s, wU a s) := if_pos ⟨h0, h1⟩
theorem Wm (a0 : Int) (e0 : (List GStep)) (r : (Int × (List GStep))) (h : wM a0 e0 = some r) : ∃ n, kH n a0 e0 = some r := by
 unfold wM at h
 obtain ⟨⟨h0, h1⟩, h⟩ := zM h
 have := wk e0
 obtain ⟨z, hz⟩ := VH e0 [] a0 (e0.length + 1) h0 h1 (by simp; omega) (by omega)
 refine ⟨e0.length + 1, ?_⟩
 unfold kH
 simp only [List.nil_append, List.length_nil, Int.natCast_zero] at hz
 rw [hz]
 exact h
theorem QQ : Ya wM := fun a0 e0 r h => (Wm a0 e0 r h).elim fun n hn => JE n a0 e0 r hn
def Z0 (F : Int → (List (List UInt8)) → Option (Int × (List (List UInt8)))) : Prop := ∀ (a0 : Int) (e0 : (List (List UInt8))), Oc (F a0 e0) 41 [.obj 1 (eL (xN 1 za) e0)] [vr 0, vi a0] fun r => (vi r.1, [.obj 1 (eL (xN 1 za) r.2)])
def yM : Nat → Int → Int → (List (List UInt8)) → Option (Int × Int × (List (List UInt8)))
  | 0, _, _, _ => none
  | m + 1, a0, v1, e0 =>
  if v1 < (e0.length : Int) then
   (z7 v1).bind fun i2 =>
   (e0[i2]?).bind fun x3 =>
   (y3 a0 x3).bind fun ⟨r4_0, r4_1⟩ =>
   yM m r4_0 (w64 (v1 + 1)) (e0.set i2 r4_1)
  else
  some (a0, v1, e0)
theorem YY (m : Nat) : ∀ (a0 : Int) (v1 : Int) (e0 : (List (List UInt8))), Ol (yM m a0 v1 e0) 41 (ye Tryd.f41 0) ⟨[(0, vr 0), (1, vi a0), (5, vi v1)], [.obj 1 (eL (xN 1 za) e0)], 1⟩ fun o => match o with | ⟨o_0, o_1, o_2⟩ => (.exit 0, ⟨[(0, vr 0), (1, vi o_0), (5, vi o_1), (9, vb false)], [.obj 1 (eL (xN 1 za) o_2)], 1⟩) := by
  induction m with
  | zero => intro a0 v1 e0 o h; cases h
  | succ m ih => exact fun a0 v1 e0 => tlp (
   .le (xN 1 za) e0 <|
   .lI v1 (e0.length : Int) (fun c1 =>
    .na v1 fun i2 =>
    .ix0 (xN 1 za) e0 i2 fun x3 =>
    .ag 0 <|
    .cl (w6 a0 x3) fun ⟨r4_0, r4_1⟩ =>
    .ag 1 <|
    .sl (e := (xN 1 za)) (x := r4_1) (c := [.own 1 (eL za r4_1)]) rfl e0 i2 <|
    .go (ih r4_0 (w64 (v1 + 1)) (e0.set i2 r4_1))) fun c1 =>
   .ret (a0, v1, e0))
def kg (n : Nat) (a0 : Int) (e0 : (List (List UInt8))) : Option (Int × (List (List UInt8))) :=
 (yM n a0 0 e0).bind fun ⟨o1_0, o1_1, o1_2⟩ =>
 some (o1_0, o1_2)
theorem QR (n : Nat) : Z0 (kg n) := fun a0 e0 => tc (
 .lp (YY n a0 0 e0) fun ⟨o1_0, o1_1, o1_2⟩ =>
 .ret (o1_0, o1_2)) (zr Tryd.func41)
theorem KF : ∀ (l p : List (List UInt8)) (k : Int) (m : Nat), 0 <= k → k + 2 * bsz l <= 2 ^ 41 → p.length + l.length <= 2 ^ 41 → l.length < m → ∃ z, yM m k (p.length : Int) (p ++ l) = some (k + cB l, z, p ++ mBB k l) := by
 intro l
 induction l with
 | nil =>
  intro p k m _ _ _ hm
  obtain ⟨m, rfl, _⟩ := zo hm
  exact ⟨_, by rw [yM, if_neg (ZG p)]; simp [mBB, cB]; rfl⟩
 | cons x l ih =>
  intro p k m h0 h1 h2 hm
  obtain ⟨m, rfl, hm'⟩ := zo hm
  rw [Yc] at h1
  simp only [List.length_cons] at h2 hm'
  obtain ⟨z, hz⟩ := ih (p ++ [mB k x]) (k + x.length) m (by omega) (by omega) (by simp; omega) (by omega)
  rw [yM, if_pos (Qg p x l), zg, Option.bind_some, zZ, Option.bind_some, jK (by omega) (by omega), Option.bind_some]
  dsimp only
  rw [kR, yj p (mB k x) (by omega), Ye p (mB k x) l, hz]
  refine ⟨z, ?_⟩
  rw [mBB, Ye p (mB k x) (mBB (k + x.length) l), Gp]
  rw [show k + (x.length : Int) + (cB l : Int) = k + ((x.length + cB l : Nat) : Int) by omega]
def xJ (a0 : Int) (e0 : (List (List UInt8))) : Option (Int × (List (List UInt8))) := if 0 <= a0 ∧ a0 + 2 * bsz e0 <= 2 ^ 41 then some (a0 + cB e0, mBB a0 e0) else none
theorem XV {a : Int} {s : List (List UInt8)} (h0 : 0 <= a) (h1 : a + 2 * bsz s <= 2 ^ 41) : xJ a s = some (a + cB s, mBB a s) := if_pos ⟨h0, h1⟩
theorem XA (a0 : Int) (e0 : (List (List UInt8))) (r : (Int × (List (List UInt8)))) (h : xJ a0 e0 = some r) : ∃ n, kg n a0 e0 = some r := by
 unfold xJ at h
 obtain ⟨⟨h0, h1⟩, h⟩ := zM h
 have := kQ e0
 obtain ⟨z, hz⟩ := KF e0 [] a0 (e0.length + 1) h0 h1 (by simp; omega) (by omega)
 refine ⟨e0.length + 1, ?_⟩
 unfold kg
 simp only [List.nil_append, List.length_nil, Int.natCast_zero] at hz
 rw [hz]
 exact h
theorem Zd : Z0 xJ := fun a0 e0 r h => (XA a0 e0 r h).elim fun n hn => QR n a0 e0 r hn
def w7 (F : Int → (List GValue) → Option (Int × (List GValue))) : Prop := ∀ (a0 : Int) (e0 : (List GValue)), Oc (F a0 e0) 67 [.obj 5 (eL zJ e0)] [vr 0, vi a0] fun r => (vi r.1, [.obj 5 (eL zJ r.2)])
def yN (G_laws_markValueS : Int → (List GValue) → Option (Int × (List GValue))) : Nat → Int → Int → (List GValue) → Option (Int × Int × (List GValue))
  | 0, _, _, _ => none
  | m + 1, a0, v1, e0 =>
  if v1 < (e0.length : Int) then
   (z7 v1).bind fun i2 =>
   (e0[i2]?).bind fun x3 =>
   ((e0.set i2 (GValue.mk a0 x3.N x3.S x3.K x3.L))[i2]?).bind fun x4 =>
   (((e0.set i2 (GValue.mk a0 x3.N x3.S x3.K x3.L)).set i2 (GValue.mk x4.Kind (w64 (a0 + 1)) x4.S x4.K x4.L))[i2]?).bind fun x5 =>
   (y3 (w64 ((w64 (a0 + 1)) + 1)) x5.S).bind fun ⟨r6_0, r6_1⟩ =>
   ((((e0.set i2 (GValue.mk a0 x3.N x3.S x3.K x3.L)).set i2 (GValue.mk x4.Kind (w64 (a0 + 1)) x4.S x4.K x4.L)).set i2 (GValue.mk x5.Kind x5.N r6_1 x5.K x5.L))[i2]?).bind fun x7 =>
   (xJ r6_0 x7.K).bind fun ⟨r8_0, r8_1⟩ =>
   (((((e0.set i2 (GValue.mk a0 x3.N x3.S x3.K x3.L)).set i2 (GValue.mk x4.Kind (w64 (a0 + 1)) x4.S x4.K x4.L)).set i2 (GValue.mk x5.Kind x5.N r6_1 x5.K x5.L)).set i2 (GValue.mk x7.Kind x7.N x7.S r8_1 x7.L))[i2]?).bind fun x9 =>
   (G_laws_markValueS r8_0 x9.L).bind fun ⟨r10_0, r10_1⟩ =>
   yN G_laws_markValueS m r10_0 (w64 (v1 + 1)) (((((e0.set i2 (GValue.mk a0 x3.N x3.S x3.K x3.L)).set i2 (GValue.mk x4.Kind (w64 (a0 + 1)) x4.S x4.K x4.L)).set i2 (GValue.mk x5.Kind x5.N r6_1 x5.K x5.L)).set i2 (GValue.mk x7.Kind x7.N x7.S r8_1 x7.L)).set i2 (GValue.mk x9.Kind x9.N x9.S x9.K r10_1))
  else
  some (a0, v1, e0)
theorem YZ (G_laws_markValueS : Int → (List GValue) → Option (Int × (List GValue))) (H_laws_markValueS : w7 G_laws_markValueS) (m : Nat) : ∀ (a0 : Int) (v1 : Int) (e0 : (List GValue)), Ol (yN G_laws_markValueS m a0 v1 e0) 67 (ye Tryd.f67 0) ⟨[(0, vr 0), (1, vi a0), (5, vi v1)], [.obj 5 (eL zJ e0)], 1⟩ fun o => match o with | ⟨o_0, o_1, o_2⟩ => (.exit 0, ⟨[(0, vr 0), (1, vi o_0), (5, vi o_1), (9, vb false)], [.obj 5 (eL zJ o_2)], 1⟩) := by
  induction m with
  | zero => intro a0 v1 e0 o h; cases h
  | succ m ih => exact fun a0 v1 e0 => tlp (
   .le zJ e0 <|
   .lI v1 (e0.length : Int) (fun c1 =>
    .na v1 fun i2 =>
    .ix yF e0 i2 fun x3 =>
    .ag 0 <|
    .sl (yF (GValue.mk a0 x3.N x3.S x3.K x3.L)) e0 i2 <|
    .ag 1 <|
    .ix yF (e0.set i2 (GValue.mk a0 x3.N x3.S x3.K x3.L)) i2 fun x4 =>
    .ag 0 <|
    .sl (yF (GValue.mk x4.Kind (w64 (a0 + 1)) x4.S x4.K x4.L)) (e0.set i2 (GValue.mk a0 x3.N x3.S x3.K x3.L)) i2 <|
    .ag 2 <|
    .ix yF ((e0.set i2 (GValue.mk a0 x3.N x3.S x3.K x3.L)).set i2 (GValue.mk x4.Kind (w64 (a0 + 1)) x4.S x4.K x4.L)) i2 fun x5 =>
    .ag 0 <|
    .cl (w6 (w64 ((w64 (a0 + 1)) + 1)) x5.S) fun ⟨r6_0, r6_1⟩ =>
    .ag 1 <|
    .sl (yF (GValue.mk x5.Kind x5.N r6_1 x5.K x5.L)) ((e0.set i2 (GValue.mk a0 x3.N x3.S x3.K x3.L)).set i2 (GValue.mk x4.Kind (w64 (a0 + 1)) x4.S x4.K x4.L)) i2 <|
    .ag 4 <|
    .ix yF (((e0.set i2 (GValue.mk a0 x3.N x3.S x3.K x3.L)).set i2 (GValue.mk x4.Kind (w64 (a0 + 1)) x4.S x4.K x4.L)).set i2 (GValue.mk x5.Kind x5.N r6_1 x5.K x5.L)) i2 fun x7 =>
    .ag 0 <|
    .cl (Zd r6_0 x7.K) fun ⟨r8_0, r8_1⟩ =>
    .ag 1 <|
    .sl (yF (GValue.mk x7.Kind x7.N x7.S r8_1 x7.L)) (((e0.set i2 (GValue.mk a0 x3.N x3.S x3.K x3.L)).set i2 (GValue.mk x4.Kind (w64 (a0 + 1)) x4.S x4.K x4.L)).set i2 (GValue.mk x5.Kind x5.N r6_1 x5.K x5.L)) i2 <|
    .ag 6 <|
    .ix yF ((((e0.set i2 (GValue.mk a0 x3.N x3.S x3.K x3.L)).set i2 (GValue.mk x4.Kind (w64 (a0 + 1)) x4.S x4.K x4.L)).set i2 (GValue.mk x5.Kind x5.N r6_1 x5.K x5.L)).set i2 (GValue.mk x7.Kind x7.N x7.S r8_1 x7.L)) i2 fun x9 =>
    .ag 0 <|
    .cl (H_laws_markValueS r8_0 x9.L) fun ⟨r10_0, r10_1⟩ =>
    .ag 1 <|
    .sl (yF (GValue.mk x9.Kind x9.N x9.S x9.K r10_1)) ((((e0.set i2 (GValue.mk a0 x3.N x3.S x3.K x3.L)).set i2 (GValue.mk x4.Kind (w64 (a0 + 1)) x4.S x4.K x4.L)).set i2 (GValue.mk x5.Kind x5.N r6_1 x5.K x5.L)).set i2 (GValue.mk x7.Kind x7.N x7.S r8_1 x7.L)) i2 <|
    .go (ih r10_0 (w64 (v1 + 1)) (((((e0.set i2 (GValue.mk a0 x3.N x3.S x3.K x3.L)).set i2 (GValue.mk x4.Kind (w64 (a0 + 1)) x4.S x4.K x4.L)).set i2 (GValue.mk x5.Kind x5.N r6_1 x5.K x5.L)).set i2 (GValue.mk x7.Kind x7.N x7.S r8_1 x7.L)).set i2 (GValue.mk x9.Kind x9.N x9.S x9.K r10_1)))) fun c1 =>
   .ret (a0, v1, e0))
def kh (G_laws_markValueS : Int → (List GValue) → Option (Int × (List GValue))) (n : Nat) (a0 : Int) (e0 : (List GValue)) : Option (Int × (List GValue)) :=
 (yN G_laws_markValueS n a0 0 e0).bind fun ⟨o1_0, o1_1, o1_2⟩ =>
 some (o1_0, o1_2)
theorem QS (G_laws_markValueS : Int → (List GValue) → Option (Int × (List GValue))) (H_laws_markValueS : w7 G_laws_markValueS) (n : Nat) : w7 (kh G_laws_markValueS n) := fun a0 e0 => tc (
 .lp (YZ G_laws_markValueS H_laws_markValueS n a0 0 e0) fun ⟨o1_0, o1_1, o1_2⟩ =>
 .ret (o1_0, o1_2)) (zr Tryd.func67)
def yq : Nat → Int → (List GValue) → Option (Int × (List GValue))
 | 0, _, _ => none
 | n + 1, a0, e0 => kh (yq n) n a0 e0
theorem Wn (n : Nat) : w7 (yq n) := by
 induction n with
 | zero => exact fun _ _ _ h => (by rw [yq] at h; cases h)
 | succ n ih =>
  have ih_laws_markValueS := ih
  exact fun a0 e0 r h => QS (yq n) ih_laws_markValueS n a0 e0 r (by rw [yq] at h; exact h)
theorem KG {G : Int → List GValue → Option (Int × List GValue)} : ∀ (l p : List GValue) (k : Int) (m : Nat), (∀ v ∈ l, ∀ i : Int, 0 <= i → i + 2 * yw v.L <= 2 ^ 41 → G i v.L = some (i + cVs v.L, mVs i v.L)) → 0 <= k → k + 2 * yw l <= 2 ^ 41 → p.length + l.length <= 2 ^ 41 → l.length < m → ∃ z, yN G m k (p.length : Int) (p ++ l) = some (k + cVs l, z, p ++ mVs k l) := by
 intro l
 induction l with
 | nil =>
  intro p k m _ _ _ _ hm
  obtain ⟨m, rfl, _⟩ := zo hm
  exact ⟨_, by rw [yN, if_neg (ZG p)]; simp [mVs, cVs]; rfl⟩
 | cons x l ih =>
  intro p k m hG h0 h1 h2 hm
  obtain ⟨m, rfl, hm'⟩ := zo hm
  simp only [List.length_cons] at h2 hm'
  have hx := hG x List.mem_cons_self
  have hc := Tj x
  obtain ⟨kd, n, s, kk, ks⟩ := x
  have hb := Qh kk
  have hd := KK ks
  simp only [yw, vsz] at h1
  simp only [cV, vsz] at hc
  simp only [GValue.L] at hx
  obtain ⟨z, hz⟩ := ih (p ++ [mV k (.mk kd n s kk ks)]) (k + cV (.mk kd n s kk ks)) m (fun v hv => hG v (List.mem_cons_of_mem _ hv)) (by omega) (by simp only [cV]; omega) (by simp; omega) (by omega)
  rw [yN, if_pos (Qg p _ l), zg, Option.bind_some, zZ, Option.bind_some]
  simp only [kR, zZ, Option.bind_some, GValue.Kind, GValue.N, GValue.S, GValue.K, GValue.L]
  rw [yD (x := k + 1) (by omega) (by omega), yD (x := k + 1 + 1) (by omega) (by omega), jK (by omega) (by omega)]
  simp only [Option.bind_some, kR, zZ, GValue.Kind, GValue.N, GValue.S, GValue.K, GValue.L]
  rw [XV (by omega) (by omega)]
  simp only [Option.bind_some, kR, zZ, GValue.Kind, GValue.N, GValue.S, GValue.K, GValue.L]
  rw [hx _ (by omega) (by omega)]
  simp only [Option.bind_some, kR, zZ, GValue.Kind, GValue.N, GValue.S, GValue.K, GValue.L]
  refine ⟨z, ?_⟩
  rw [yj p (mV k (.mk kd n s kk ks)) (by omega), show GValue.mk k (k + 1) (mB (k + 1 + 1) s) (mBB (k + 1 + 1 + s.length) kk) (mVs (k + 1 + 1 + s.length + cB kk) ks) = mV k (.mk kd n s kk ks) by simp only [mV], Ye p _ l,
   show k + 1 + 1 + (s.length : Int) + (cB kk : Int) + (cVs ks : Int) = k + ((cV (.mk kd n s kk ks) : Nat) : Int) by simp only [cV]; omega, hz]
  simp only [mVs, cVs, List.append_assoc, List.singleton_append]
  rw [show k + ((cV (.mk kd n s kk ks) : Nat) : Int) + (cVs l : Int) = k + ((cV (.mk kd n s kk ks) + cVs l : Nat) : Int) by omega]
theorem Uy : ∀ (N : Nat) (l : List GValue), yw l < N → ∀ (k : Int) (f : Nat), 0 <= k → k + 2 * yw l <= 2 ^ 41 → yw l + 2 <= f → yq f k l = some (k + cVs l, mVs k l) := by
 intro N
 induction N with
 | zero => intro l hl; omega
 | succ N ih =>
  intro l hl k f h0 h1 hf
  obtain ⟨f, rfl, _⟩ := zo (show 0 < f by omega)
  have hlen := yC l
  rw [yq]
  unfold kh
  obtain ⟨z, hz⟩ := KG (G := yq f) l [] k f (fun v hv i g0 g1 => by
   have := wy hv
   have := xR v
   exact ih v.L (by omega) i f g0 g1 (by omega)) h0 h1 (by simp; omega) (by omega)
  simp only [List.nil_append, List.length_nil, Int.natCast_zero] at hz
  rw [hz]; rfl
def w8 (a0 : Int) (e0 : (List GValue)) : Option (Int × (List GValue)) := if 0 <= a0 ∧ a0 + 2 * yw e0 <= 2 ^ 41 then some (a0 + cVs e0, mVs a0 e0) else none
theorem RV {a : Int} {s : List GValue} (h0 : 0 <= a) (h1 : a + 2 * yw s <= 2 ^ 41) : w8 a s = some (a + cVs s, mVs a s) := if_pos ⟨h0, h1⟩
theorem XB (a0 : Int) (e0 : (List GValue)) (r : (Int × (List GValue))) (h : w8 a0 e0 = some r) : ∃ n, yq n a0 e0 = some r := by
 unfold w8 at h
 obtain ⟨⟨h0, h1⟩, h⟩ := zM h
 exact ⟨yw e0 + 2, by rw [Uy _ e0 (Nat.lt_succ_self _) a0 _ h0 h1 (Nat.le_refl _), h]⟩
theorem Qe : w7 w8 := by
 intro a0 e0 r h
 obtain ⟨n, hn⟩ := XB a0 e0 r h
 exact (Wn n) a0 e0 r hn
def wN (a0_0 : Int) (a0_1 : Int) (a1 : Int) (e0 : (List UInt8)) (e1 : (List (List UInt8))) (e2 : (List GValue)) : Option (Int × (List UInt8) × (List (List UInt8)) × (List GValue)) :=
 (y3 a1 e0).bind fun ⟨r1_0, r1_1⟩ =>
 (xJ r1_0 e1).bind fun ⟨r2_0, r2_1⟩ =>
 (w8 r2_0 e2).bind fun ⟨r3_0, r3_1⟩ =>
 some (r3_0, r1_1, r2_1, r3_1)
theorem Z1 (a0_0 : Int) (a0_1 : Int) (a1 : Int) (e0 : (List UInt8)) (e1 : (List (List UInt8))) (e2 : (List GValue)) : Oc (wN a0_0 a0_1 a1 e0 e1 e2) 33 [.obj 1 (eL za e0), .obj 1 (eL (xN 1 za) e1), .obj 5 (eL zJ e2)] [.val true [ci a0_0, ci a0_1, .ref 0, .ref 1, .ref 2], vi a1] fun r => (vi r.1, [.obj 1 (eL za r.2.1), .obj 1 (eL (xN 1 za) r.2.2.1), .obj 5 (eL zJ r.2.2.2)]) := tc (
 .cl (w6 a1 e0) fun ⟨r1_0, r1_1⟩ =>
 .cl (Zd r1_0 e1) fun ⟨r2_0, r2_1⟩ =>
 .cl (Qe r2_0 e2) fun ⟨r3_0, r3_1⟩ =>
 .ret (r3_0, r1_1, r2_1, r3_1)) (zr Tryd.func33)
def qz (a0_1 : Bool) (a0_2 : Int) (a0_3 : Int) (a0_7 : Bool) (a0_8 : Int) (a0_9 : Int) (a1 : Int) (e0 : (List GStep)) (e1 : (List UInt8)) (e2 : (List (List UInt8))) (e3 : (List GValue)) (e4 : (List UInt8)) (e5 : (List (List UInt8))) (e6 : (List GValue)) : Option (Int × (List GStep) × (List UInt8) × (List (List UInt8)) × (List GValue) × (List UInt8) × (List (List UInt8)) × (List GValue)) :=
 (wM a1 e0).bind fun ⟨r1_0, r1_1⟩ =>
 (wN a0_2 a0_3 r1_0 e1 e2 e3).bind fun ⟨r2_0, r2_1, r2_2, r2_3⟩ =>
 (wN a0_8 a0_9 r2_0 e4 e5 e6).bind fun ⟨r3_0, r3_1, r3_2, r3_3⟩ =>
 some (r3_0, r1_1, r2_1, r2_2, r2_3, r3_1, r3_2, r3_3)
theorem Qf (a0_1 : Bool) (a0_2 : Int) (a0_3 : Int) (a0_7 : Bool) (a0_8 : Int) (a0_9 : Int) (a1 : Int) (e0 : (List GStep)) (e1 : (List UInt8)) (e2 : (List (List UInt8))) (e3 : (List GValue)) (e4 : (List UInt8)) (e5 : (List (List UInt8))) (e6 : (List GValue)) : Oc (qz a0_1 a0_2 a0_3 a0_7 a0_8 a0_9 a1 e0 e1 e2 e3 e4 e5 e6) 11 [.obj 3 (eL xu e0), .obj 1 (eL za e1), .obj 1 (eL (xN 1 za) e2), .obj 5 (eL zJ e3), .obj 1 (eL za e4), .obj 1 (eL (xN 1 za) e5), .obj 5 (eL zJ e6)] [.val true [.ref 0, .bool a0_1, ci a0_2, ci a0_3, .ref 1, .ref 2, .ref 3, .bool a0_7, ci a0_8, ci a0_9, .ref 4, .ref 5, .ref 6], vi a1] fun r => (vi r.1, [.obj 3 (eL xu r.2.1), .obj 1 (eL za r.2.2.1), .obj 1 (eL (xN 1 za) r.2.2.2.1), .obj 5 (eL zJ r.2.2.2.2.1), .obj 1 (eL za r.2.2.2.2.2.1), .obj 1 (eL (xN 1 za) r.2.2.2.2.2.2.1), .obj 5 (eL zJ r.2.2.2.2.2.2.2)]) := tc (
 .cl (QQ a1 e0) fun ⟨r1_0, r1_1⟩ =>
 .cl (Z1 a0_2 a0_3 r1_0 e1 e2 e3) fun ⟨r2_0, r2_1, r2_2, r2_3⟩ =>
 .cl (Z1 a0_8 a0_9 r2_0 e4 e5 e6) fun ⟨r3_0, r3_1, r3_2, r3_3⟩ =>
 .ret (r3_0, r1_1, r2_1, r2_2, r2_3, r3_1, r3_2, r3_3)) (zr Tryd.func11)
def Yb (F : (List UInt8) → Int → Option Int) : Prop := ∀ (a0 : (List UInt8)) (a1 : Int), Oc (F a0 a1) 13 [] [vq za a0, vi a1] fun r => (vi r, [])
def yW (a0 : (List UInt8)) : Nat → Int → Int → Option (Int ⊕ (Int × Int))
  | 0, _, _ => none
  | m + 1, a1, v2 =>
  if v2 < (a0.length : Int) then
   (z7 v2).bind fun i2 =>
   (a0[i2]?).bind fun x3 =>
   if ((x3.toNat : Nat) : Int) = (((b8 a1).toNat : Nat) : Int) then
    yW a0 m (w64 (a1 + 1)) (w64 (v2 + 1))
   else
   some (.inl (-1))
  else
  some (.inr (a1, v2))
theorem XC (a0 : (List UInt8)) (m : Nat) : ∀ (a1 : Int) (v2 : Int), Ol (yW a0 m a1 v2) 13 (ye Tryd.f13 0) ⟨[(0, vq za a0), (1, vi a1), (5, vi v2)], [], 0⟩ fun o => match o with | .inl o_0 => (.ret, ⟨[(4, vi o_0)], [], 0⟩) | .inr (⟨o_1_0, o_1_1⟩) => (.exit 0, ⟨[(0, vq za a0), (1, vi o_1_0), (5, vi o_1_1), (9, vb false)], [], 0⟩) := by
  induction m with
  | zero => intro a1 v2 o h; cases h
  | succ m ih => exact fun a1 v2 => tlp (
   .le za a0 <|
   .lI v2 (a0.length : Int) (fun c1 =>
    .na v2 fun i2 =>
    .ix0 za a0 i2 fun x3 =>
    .eI ((x3.toNat : Nat) : Int) (((b8 a1).toNat : Nat) : Int) (fun c4 =>
     .go (ih (w64 (a1 + 1)) (w64 (v2 + 1)))) fun c4 =>
    .ret (.inl (-1))) fun c1 =>
   .ret (.inr (a1, v2)))
def kI (n : Nat) (a0 : (List UInt8)) (a1 : Int) : Option Int :=
 (yW a0 n a1 0).bind fun o1 =>
 match o1 with
 | .inl o1_0 =>
  some o1_0
 | .inr (⟨o1_1_0, o1_1_1⟩) =>
  some o1_1_0
theorem JF (n : Nat) : Yb (kI n) := fun a0 a1 => tc (
 .l2 (XC a0 n a1 0) (fun o1_0 =>
  .ret o1_0) fun ⟨o1_1_0, o1_1_1⟩ =>
 .ret o1_1_0) (zr Tryd.func13)
theorem VI {a : List UInt8} : ∀ (l p : List UInt8) (k : Int) (m : Nat), a = p ++ l → mB k l = l → 0 <= k → k + 2 * l.length <= 2 ^ 41 → p.length + l.length <= 2 ^ 41 → l.length < m → ∃ z, yW a m k (p.length : Int) = some (.inr (k + l.length, z)) := by
 intro l
 induction l with
 | nil =>
  intro p k m ha _ _ _ _ hm
  subst ha
  obtain ⟨m, rfl, _⟩ := zo hm
  exact ⟨_, by rw [yW, if_neg (ZG p)]; simp; rfl⟩
 | cons x l ih =>
  intro p k m ha hm0 h0 h1 h2 hm
  obtain ⟨m, rfl, hm'⟩ := zo hm
  simp only [List.length_cons] at h1 h2 hm'
  rw [mB] at hm0
  obtain ⟨e1, e2⟩ := List.cons.inj hm0
  obtain ⟨z, hz⟩ := ih (p ++ [x]) (k + 1) m (by rw [ha]; simp) e2 (by omega) (by omega) (by simp; omega) (by omega)
  refine ⟨z, ?_⟩
  rw [yW, if_pos (by rw [ha]; exact Qg p x l), zg, Option.bind_some, show a[p.length]? = some x by rw [ha]; exact zZ p x l, Option.bind_some, if_pos (by rw [e1]), yj p x (by omega), yD (x := k + 1) (by omega) (by omega), hz]
  simp only [List.length_cons]
  rw [show k + 1 + (l.length : Int) = k + ((l.length + 1 : Nat) : Int) by omega]
def wO (a0 : (List UInt8)) (a1 : Int) : Option Int := if mB a1 a0 = a0 ∧ 0 <= a1 ∧ a1 + 2 * a0.length <= 2 ^ 41 then some (a1 + a0.length) else none
theorem Uz {a : Int} {s : List UInt8} (h : mB a s = s) (h0 : 0 <= a) (h1 : a + 2 * s.length <= 2 ^ 41) : wO s a = some (a + s.length) := if_pos ⟨h, h0, h1⟩
theorem Wo (a0 : (List UInt8)) (a1 : Int) (r : Int) (h : wO a0 a1 = some r) : ∃ n, kI n a0 a1 = some r := by
 unfold wO at h
 obtain ⟨⟨he, h0, h1⟩, h⟩ := zM h
 obtain ⟨z, hz⟩ := VI (a := a0) a0 [] a1 (a0.length + 1) rfl he h0 h1 (by simp; omega) (by omega)
 refine ⟨a0.length + 1, ?_⟩
 unfold kI
 simp only [List.length_nil, Int.natCast_zero] at hz
 rw [hz]
 exact h
theorem QT : Yb wO := fun a0 a1 r h => (Wo a0 a1 r h).elim fun n hn => JF n a0 a1 r hn
def wP (a0 : GChange) : Option Bool :=
 (jo a0 1048576).bind fun r1 =>
 if r1 < 0 then
  some true
 else
 (jr a0).bind fun r3 =>
 (qw r3).bind fun r4 =>
 (qy r3).bind fun r5 =>
 (yt r5 r4).bind fun r6 =>
 match r6 with
 | true =>
  (j0 r3 r3).bind fun r7 =>
  match r7 with
  | true =>
   (qz r3.Had r3.Old.Kind r3.Old.N r3.Has r3.New.Kind r3.New.N 1 r3.Path r3.Old.S r3.Old.K r3.Old.L r3.New.S r3.New.K r3.New.L).bind fun ⟨r8_0, r8_1, r8_2, r8_3, r8_4, r8_5, r8_6, r8_7⟩ =>
   if r8_0 < 0 then
    none
   else
   (y3 1 r5).bind fun ⟨r10_0, r10_1⟩ =>
   (wO r10_1 1).bind fun r11 =>
   if r11 < 0 then
    none
   else
   if r11 = r10_0 then
    some true
   else
   none
  | false =>
   none
 | false =>
  none
theorem ok_laws_FnExactChangeText (a0 : GChange) : Oc (wP a0) 3 [] [.val true (qJ a0)] fun r => (vb r, []) := tc (
 .cl (Jq a0 1048576) fun r1 =>
 .lI r1 0 (fun c2 =>
  .ret true) fun c2 =>
 .cl (Js a0) fun r3 =>
 .vo vS r3.Path <|
 .vw zf r3.Old.S <|
 .vo (vg 1 wJ) r3.Old.K <|
 .vo wx r3.Old.L <|
 .vw zf r3.New.S <|
 .vo (vg 1 wJ) r3.New.K <|
 .vo wx r3.New.L <|
 .cl (WO r3) fun r4 =>
 .cn wJ r4 <|
 .ag 1 <|
 .vo vS r3.Path <|
 .vw zf r3.Old.S <|
 .vo (vg 1 wJ) r3.Old.K <|
 .vo wx r3.Old.L <|
 .vw zf r3.New.S <|
 .vo (vg 1 wJ) r3.New.K <|
 .vo wx r3.New.L <|
 .cl (WZ r3) fun r5 =>
 .cn wJ r5 <|
 .vw zf r5 <|
 .vw zf r4 <|
 .cl (jx r5 r4) fun r6 =>
 .vN 0 r6 (
  .ag 4 <|
  .vo vS r3.Path <|
  .vw zf r3.Old.S <|
  .vo (vg 1 wJ) r3.Old.K <|
  .vo wx r3.Old.L <|
  .vw zf r3.New.S <|
  .vo (vg 1 wJ) r3.New.K <|
  .vo wx r3.New.L <|
  .vo vS r3.Path <|
  .vw zf r3.Old.S <|
  .vo (vg 1 wJ) r3.Old.K <|
  .vo wx r3.Old.L <|
  .vw zf r3.New.S <|
  .vo (vg 1 wJ) r3.New.K <|
  .vo wx r3.New.L <|
  .cl (JC r3 r3) fun r7 =>
  .vN 0 r7 (
   .cl (Qf r3.Had r3.Old.Kind r3.Old.N r3.Has r3.New.Kind r3.New.N 1 r3.Path r3.Old.S r3.Old.K r3.Old.L r3.New.S r3.New.K r3.New.L) fun ⟨r8_0, r8_1, r8_2, r8_3, r8_4, r8_5, r8_6, r8_7⟩ =>
   .lI r8_0 0 (fun c9 =>
    .no) fun c9 =>
   .vw zf r5 <|
   .vw zf r4 <|
   .ag 4 <|
   .an 2 3 <|
   .cl (w6 1 r5) fun ⟨r10_0, r10_1⟩ =>
   .vw zf r10_1 <|
   .cl (QT r10_1 1) fun r11 =>
   .lI r11 0 (fun c12 =>
    .no) fun c12 =>
   .eI r11 r10_0 (fun c13 =>
    .ag 9 <|
    .vo vS r3.Path <|
    .vw zf r3.Old.S <|
    .vo (vg 1 wJ) r3.Old.K <|
    .vo wx r3.Old.L <|
    .vw zf r3.New.S <|
    .vo (vg 1 wJ) r3.New.K <|
    .vo wx r3.New.L <|
    .ag 7 <|
    .cn wJ r5 <|
    .vw zf r5 <|
    .vw zf r4 <|
    .ag 6 <|
    .an 0 5 <|
    .vw zf r10_1 <|
    .ag 0 <|
    .q (.lF c12) <|
    .q (.eT c13) <|
    .ret true) fun c13 =>
   .no) <|
  .no) <|
 .no) (zr Tryd.func3)
end
end Go.Am.Try
