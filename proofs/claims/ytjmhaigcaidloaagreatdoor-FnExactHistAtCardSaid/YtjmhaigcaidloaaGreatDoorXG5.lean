
/- The functions of the program in plain Lean, and that the machine answers as they do; conditions at each theorem. -/
import Derived.Test.YtjmhaigcaidloaaGreatDoorXG4
set_option linter.unusedVariables false
set_option linter.unusedSimpArgs false
namespace Go.Am.Try
open Go.Am Go.Proofs
set_option linter.unusedVariables false
set_option maxRecDepth 20000
set_option maxHeartbeats 2000000
noncomputable section
def XY (F : (List GEntry) → Int → Option Int) : Prop := ∀ (a0 : (List GEntry)) (a1 : Int), Oc (F a0 a1) 85 [] [vq zj a0, vi a1] fun r => (vi r, [])
def yR (a0 : (List GEntry)) : Nat → Int → Int → Option (Int ⊕ (Int × Int))
  | 0, _, _ => none
  | m + 1, a1, v2 =>
  if v2 < (a0.length : Int) then
   (zv v2).bind fun i2 =>
   (a0[i2]?).bind fun x3 =>
   (yQ x3.Addr a1).bind fun r4 =>
   if r4 < 0 then
    some (.inl (-1))
   else
   if x3.Val.Kind = r4 then
    if x3.Val.N = (w64 (r4 + 1)) then
     (yQ x3.Val.S (w64 ((w64 (r4 + 1)) + 1))).bind fun r8 =>
     if r8 < 0 then
      some (.inl (-1))
     else
     (xC x3.Val.K r8).bind fun r10 =>
     if r10 < 0 then
      some (.inl (-1))
     else
     (qT x3.Val.L r10).bind fun r12 =>
     if r12 < 0 then
      some (.inl (-1))
     else
     (xC x3.Deps r12).bind fun r14 =>
     if r14 < 0 then
      some (.inl (-1))
     else
     if x3.Taint = true then
      if (r14.tmod 3) = 0 then
       if x3.Turned = (w64 (r14 + 1)) then
        yR a0 m (w64 ((w64 (r14 + 1)) + 1)) (w64 (v2 + 1))
       else
       some (.inl (-1))
      else
      some (.inl (-1))
     else
     if (r14.tmod 3) = 0 then
      some (.inl (-1))
     else
     if x3.Turned = (w64 (r14 + 1)) then
      yR a0 m (w64 ((w64 (r14 + 1)) + 1)) (w64 (v2 + 1))
     else
     some (.inl (-1))
    else
    some (.inl (-1))
   else
   some (.inl (-1))
  else
  some (.inr (a1, v2))
theorem Jb (a0 : (List GEntry)) (m : Nat) : ∀ (a1 : Int) (v2 : Int), Ol (yR a0 m a1 v2) 85 (zO Tryz.f85 0) ⟨[(0, vq zj a0), (1, vi a1), (5, vi v2)], [], 0⟩ fun o => match o with | .inl o_0 => (.ret, ⟨[(4, vi o_0)], [], 0⟩) | .inr (⟨o_1_0, o_1_1⟩) => (.exit 0, ⟨[(0, vq zj a0), (1, vi o_1_0), (5, vi o_1_1), (9, vb false)], [], 0⟩) := by
  induction m with
  | zero => intro a1 v2 o h; cases h
  | succ m ih => exact fun a1 v2 => tlp (
   .le zj a0 <|
   .lI v2 (a0.length : Int) (fun c1 =>
    .na v2 fun i2 =>
    .ix zT a0 i2 fun x3 =>
    .cl (qR x3.Addr a1) fun r4 =>
    .lI r4 0 (fun c5 =>
     .ret (.inl (-1))) fun c5 =>
    .ag 2 <|
    .ag 1 <|
    .eI x3.Val.Kind r4 (fun c6 =>
     .ag 2 <|
     .ag 1 <|
     .eI x3.Val.N (w64 (r4 + 1)) (fun c7 =>
      .ag 2 <|
      .ag 1 <|
      .cl (qR x3.Val.S (w64 ((w64 (r4 + 1)) + 1))) fun r8 =>
      .lI r8 0 (fun c9 =>
       .ret (.inl (-1))) fun c9 =>
      .ag 3 <|
      .ag 2 <|
      .cl (Zd x3.Val.K r8) fun r10 =>
      .lI r10 0 (fun c11 =>
       .ret (.inl (-1))) fun c11 =>
      .ag 4 <|
      .ag 3 <|
      .cl (V1 x3.Val.L r10) fun r12 =>
      .lI r12 0 (fun c13 =>
       .ret (.inl (-1))) fun c13 =>
      .ag 5 <|
      .ag 4 <|
      .cl (Zd x3.Deps r12) fun r14 =>
      .lI r14 0 (fun c15 =>
       .ret (.inl (-1))) fun c15 =>
      .ag 6 <|
      .ag 5 <|
      .q ⟨.nz 3, .b true, rfl⟩ <|
      .eD (r14.tmod 3) 0 <|
      .sp (x3.Taint = true) (fun c16 =>
       .sp ((r14.tmod 3) = 0) (fun c17 =>
        .eb c16 (dT c17) <|
        .ag 6 <|
        .ag 5 <|
        .eI x3.Turned (w64 (r14 + 1)) (fun c18 =>
         .go (ih (w64 ((w64 (r14 + 1)) + 1)) (w64 (v2 + 1)))) fun c18 =>
        .ret (.inl (-1))) fun c17 =>
       .eb c16 (dF c17) <|
       .ret (.inl (-1))) fun c16 =>
      .sp ((r14.tmod 3) = 0) (fun c17 =>
       .eb (bF c16) (dT c17) <|
       .ret (.inl (-1))) fun c17 =>
      .eb (bF c16) (dF c17) <|
      .ag 6 <|
      .ag 5 <|
      .eI x3.Turned (w64 (r14 + 1)) (fun c18 =>
       .go (ih (w64 ((w64 (r14 + 1)) + 1)) (w64 (v2 + 1)))) fun c18 =>
      .ret (.inl (-1))) fun c7 =>
     .ret (.inl (-1))) fun c6 =>
    .ret (.inl (-1))) fun c1 =>
   .ret (.inr (a1, v2)))
def ZK (n : Nat) (a0 : (List GEntry)) (a1 : Int) : Option Int :=
 (yR a0 n a1 0).bind fun o1 =>
 match o1 with
 | .inl o1_0 =>
  some o1_0
 | .inr (⟨o1_1_0, o1_1_1⟩) =>
  some o1_1_0
theorem Rt (n : Nat) : XY (ZK n) := fun a0 a1 => tc (
 .l2 (Jb a0 n a1 0) (fun o1_0 =>
  .ret o1_0) fun ⟨o1_1_0, o1_1_1⟩ =>
 .ret o1_1_0) (zf Tryz.func85)
theorem U7 {a : List GEntry} : ∀ (l p : List GEntry) (k : Int) (m : Nat), a = p ++ l → mEs k l = l → 0 <= k → k + 4 * zY l <= 2 ^ 40 → p.length + l.length <= 2 ^ 40 → l.length < m → ∃ z, yR a m k (p.length : Int) = some (.inr (k + cEs l, z)) := by
 intro l
 induction l with
 | nil =>
  intro p k m ha _ _ _ _ hm
  subst ha
  obtain ⟨m, rfl, _⟩ := zg hm
  exact ⟨_, by rw [yR, if_neg (w4 p)]; simp [cEs]; rfl⟩
 | cons x l ih =>
  intro p k m ha hm0 h0 h1 h2 hm
  obtain ⟨m, rfl, hm'⟩ := zg hm
  simp only [List.length_cons] at h2 hm'
  have hc := GW x
  rw [mEs] at hm0
  obtain ⟨e1, e2⟩ := List.cons.inj hm0
  simp only [zY] at h1
  obtain ⟨z, hz⟩ := ih (p ++ [x]) (k + cE x) m (by rw [ha]; simp) e2 (by omega) (by omega) (by simp; omega) (by omega)
  refine ⟨z, ?_⟩
  rw [yR, if_pos (by rw [ha]; exact Zi p x l), zd, Option.bind_some, show a[p.length]? = some x by rw [ha]; exact zM p x l, Option.bind_some, yJ p x (by omega)]
  have hcv := Qz x.Val
  have hcd := kw x.Deps
  have hve := xT x.Val
  have hcq := Ll x.Val
  have hb := kw x.Val.K
  have hd := WN x.Val.L
  have hcE : cE x = x.Addr.length + cV x.Val + cB x.Deps + 2 := rfl
  unfold esz at h1 hc
  have f0 : mB k x.Addr = x.Addr := congrArg GEntry.Addr e1
  have f1 : mV (k + x.Addr.length) x.Val = x.Val := congrArg GEntry.Val e1
  have f2 : mBB (k + x.Addr.length + cV x.Val) x.Deps = x.Deps := congrArg GEntry.Deps e1
  have f3 : decide ((k + x.Addr.length + cV x.Val + cB x.Deps).tmod 3 = 0) = x.Taint := congrArg GEntry.Taint e1
  have f4 : k + x.Addr.length + cV x.Val + cB x.Deps + 1 = x.Turned := congrArg GEntry.Turned e1
  rw [Lm] at f1
  have g1 : x.Val.Kind = k + x.Addr.length := (congrArg GValue.Kind f1).symm
  have g2 : x.Val.N = k + x.Addr.length + 1 := (congrArg GValue.N f1).symm
  have g3 : mB (k + x.Addr.length + 1 + 1) x.Val.S = x.Val.S := congrArg GValue.S f1
  have g4 : mBB (k + x.Addr.length + 1 + 1 + x.Val.S.length) x.Val.K = x.Val.K := congrArg GValue.K f1
  have g5 : mVs (k + x.Addr.length + 1 + 1 + x.Val.S.length + cB x.Val.K) x.Val.L = x.Val.L := congrArg GValue.L f1
  have e6 : k + (x.Addr.length : Int) + 1 + 1 + (x.Val.S.length : Int) + (cB x.Val.K : Int) + (cVs x.Val.L : Int) = k + (x.Addr.length : Int) + (cV x.Val : Int) := by omega
  rw [Zc f0 (by omega) (by omega), Option.bind_some, if_neg (by omega), if_pos g1, yj (x := k + (x.Addr.length : Int) + 1) (by omega) (by omega), if_pos g2, yj (x := k + (x.Addr.length : Int) + 1 + 1) (by omega) (by omega), Zc g3 (by omega) (by omega), Option.bind_some, if_neg (by omega), XK g4 (by omega) (by omega), Option.bind_some, if_neg (by omega), OV g5 (by omega) (by omega), Option.bind_some, if_neg (by omega), e6, XK f2 (by omega) (by omega), Option.bind_some, if_neg (by omega)]
  rw [yj (x := k + (x.Addr.length : Int) + (cV x.Val : Int) + (cB x.Deps : Int) + 1) (by omega) (by omega), yj (x := k + (x.Addr.length : Int) + (cV x.Val : Int) + (cB x.Deps : Int) + 1 + 1) (by omega) (by omega),
   show k + (x.Addr.length : Int) + (cV x.Val : Int) + (cB x.Deps : Int) + 1 + 1 = k + ((cE x : Nat) : Int) by omega, hz]
  simp only [cEs]
  rw [show k + ((cE x : Nat) : Int) + (cEs l : Int) = k + ((cE x + cEs l : Nat) : Int) by omega]
  by_cases ht : (k + (x.Addr.length : Int) + (cV x.Val : Int) + (cB x.Deps : Int)).tmod 3 = 0
  ·rw [decide_eq_true ht] at f3
   rw [if_pos f3.symm, if_pos ht, if_pos f4.symm]
  ·rw [decide_eq_false ht] at f3
   rw [if_neg (by rw [<- f3]; decide), if_neg ht, if_pos f4.symm]
open Classical in
noncomputable def qU (a0 : (List GEntry)) (a1 : Int) : Option Int := if mEs a1 a0 = a0 ∧ 0 <= a1 ∧ a1 + 4 * zY a0 <= 2 ^ 40 then some (a1 + cEs a0) else none
theorem OW {a : Int} {s : List GEntry} (h : mEs a s = s) (h0 : 0 <= a) (h1 : a + 4 * zY s <= 2 ^ 40) : qU s a = some (a + cEs s) := if_pos ⟨h, h0, h1⟩
theorem JE (a0 : (List GEntry)) (a1 : Int) (r : Int) (h : qU a0 a1 = some r) : ∃ n, ZK n a0 a1 = some r := by
 unfold qU at h
 obtain ⟨⟨he, h0, h1⟩, h⟩ := zE h
 have := ql a0
 obtain ⟨z, hz⟩ := U7 (a := a0) a0 [] a1 (a0.length + 1) rfl he h0 h1 (by simp; omega) (by omega)
 refine ⟨a0.length + 1, ?_⟩
 unfold ZK
 simp only [List.length_nil, Int.natCast_zero] at hz
 rw [hz]
 exact h
theorem V2 : XY qU := fun a0 a1 r h => (JE a0 a1 r h).elim fun n hn => Rt n a0 a1 r hn
def jm (a0 : GState) (a1 : Int) : Option Int :=
 (yQ a0.Pending a1).bind fun r1 =>
 if r1 < 0 then
  some (-1)
 else
 (qU a0.Entries r1).bind fun r3 =>
 if r3 < 0 then
  some (-1)
 else
 some r3
theorem XZ (a0 : GState) (a1 : Int) : Oc (jm a0 a1) 25 [] [.val true (zV a0), vi a1] fun r => (vi r, []) := tc (
 .cl (qR a0.Pending a1) fun r1 =>
 .lI r1 0 (fun c2 =>
  .ret (-1)) fun c2 =>
 .cl (V2 a0.Entries r1) fun r3 =>
 .lI r3 0 (fun c4 =>
  .ret (-1)) fun c4 =>
 .ret r3) (zf Tryz.func25)
def kP (a0 : GHistory) (a1 : Int) : Option Bool :=
 (kK a0 1048576).bind fun r1 =>
 if r1 < 0 then
  some true
 else
 (kL a0).bind fun r3 =>
 (ZV r3 a1).bind fun ⟨r4_0, r4_1⟩ =>
 (ZX r3 a1).bind fun ⟨r5_0, r5_1⟩ =>
 (kq r5_0 r4_0).bind fun r6 =>
 match r6 with
 | true =>
  if r5_1 = true then
   if r4_1 = true then
    (jl r3 r3).bind fun r9 =>
    match r9 with
    | true =>
     (q6 r3.Base.Serial r3.Base.Open r3.Base.Act r3.Safe 1 r3.Base.Pending r3.Base.Entries r3.Events).bind fun ⟨r10_0, r10_1, r10_2, r10_3⟩ =>
     if r10_0 < 0 then
      none
     else
     (xZ r5_0.Serial r5_0.Open r5_0.Act 1 r5_0.Pending r5_0.Entries).bind fun ⟨r12_0, r12_1, r12_2⟩ =>
     (jm (GState.mk r5_0.Serial r5_0.Open r12_1 r5_0.Act r12_2) 1).bind fun r13 =>
     if r13 < 0 then
      none
     else
     if r13 = r12_0 then
      some true
     else
     none
    | false =>
     none
   else
   none
  else
  if r4_1 = true then
   none
  else
  (jl r3 r3).bind fun r9 =>
  match r9 with
  | true =>
   (q6 r3.Base.Serial r3.Base.Open r3.Base.Act r3.Safe 1 r3.Base.Pending r3.Base.Entries r3.Events).bind fun ⟨r10_0, r10_1, r10_2, r10_3⟩ =>
   if r10_0 < 0 then
    none
   else
   (xZ r5_0.Serial r5_0.Open r5_0.Act 1 r5_0.Pending r5_0.Entries).bind fun ⟨r12_0, r12_1, r12_2⟩ =>
   (jm (GState.mk r5_0.Serial r5_0.Open r12_1 r5_0.Act r12_2) 1).bind fun r13 =>
   if r13 < 0 then
    none
   else
   if r13 = r12_0 then
    some true
   else
   none
  | false =>
   none
 | false =>
  none
theorem ok_laws_FnExactHistAt (a0 : GHistory) (a1 : Int) : Oc (kP a0 a1) 6 [] [.val true (yD a0), vi a1] fun r => (vb r, []) := tc (
 .cl (VQ a0 1048576) fun r1 =>
 .lI r1 0 (fun c2 =>
  .ret true) fun c2 =>
 .cl (VT a0) fun r3 =>
 .vw zF r3.Base.Pending <|
 .vo zL r3.Base.Entries <|
 .vo Zg r3.Events <|
 .cl (P3 r3 a1) fun ⟨r4_0, r4_1⟩ =>
 .cn jg r4_0.Pending <|
 .cn zL r4_0.Entries <|
 .ag 1 <|
 .vw zF r3.Base.Pending <|
 .vo zL r3.Base.Entries <|
 .vo Zg r3.Events <|
 .cl (PA r3 a1) fun ⟨r5_0, r5_1⟩ =>
 .cn jg r5_0.Pending <|
 .cn zL r5_0.Entries <|
 .vw zF r5_0.Pending <|
 .vo zL r5_0.Entries <|
 .vw zF r4_0.Pending <|
 .vo zL r4_0.Entries <|
 .cl (Qw r5_0 r4_0) fun r6 =>
 .vN 0 r6 (
  .an 0 0 <|
  .an 0 0 <|
  .sp (r5_1 = true) (fun c7 =>
   .sp (r4_1 = true) (fun c8 =>
    .eb c7 c8 <|
    .an 0 0 <|
    .ag 4 <|
    .vw zF r3.Base.Pending <|
    .vo zL r3.Base.Entries <|
    .vo Zg r3.Events <|
    .vw zF r3.Base.Pending <|
    .vo zL r3.Base.Entries <|
    .vo Zg r3.Events <|
    .cl (XT r3 r3) fun r9 =>
    .vN 0 r9 (
     .cl (YR r3.Base.Serial r3.Base.Open r3.Base.Act r3.Safe 1 r3.Base.Pending r3.Base.Entries r3.Events) fun ⟨r10_0, r10_1, r10_2, r10_3⟩ =>
     .lI r10_0 0 (fun c11 =>
      .no) fun c11 =>
     .vw zF r5_0.Pending <|
     .vo zL r5_0.Entries <|
     .vw zF r4_0.Pending <|
     .vo zL r4_0.Entries <|
     .ag 4 <|
     .an 2 3 <|
     .an 0 3 <|
     .an 0 3 <|
     .eb c7 c8 <|
     .an 0 3 <|
     .cl (ZG r5_0.Serial r5_0.Open r5_0.Act 1 r5_0.Pending r5_0.Entries) fun ⟨r12_0, r12_1, r12_2⟩ =>
     .vw zF r12_1 <|
     .vo zL r12_2 <|
     .cl (XZ (GState.mk r5_0.Serial r5_0.Open r12_1 r5_0.Act r12_2) 1) fun r13 =>
     .lI r13 0 (fun c14 =>
      .no) fun c14 =>
     .eI r13 r12_0 (fun c15 =>
      .ag 9 <|
      .vw zF r3.Base.Pending <|
      .vo zL r3.Base.Entries <|
      .vo Zg r3.Events <|
      .ag 7 <|
      .cn jg r5_0.Pending <|
      .cn zL r5_0.Entries <|
      .vw zF r5_0.Pending <|
      .vo zL r5_0.Entries <|
      .vw zF r4_0.Pending <|
      .vo zL r4_0.Entries <|
      .ag 6 <|
      .an 0 5 <|
      .an 0 5 <|
      .an 0 5 <|
      .eb c7 c8 <|
      .an 0 5 <|
      .vw zF r12_1 <|
      .vo zL r12_2 <|
      .ag 0 <|
      .q (.lF c14) <|
      .q (.eT c15) <|
      .ret true) fun c15 =>
     .no) <|
    .no) fun c8 =>
   .no) fun c7 =>
  .sp (r4_1 = true) (fun c8 =>
   .no) fun c8 =>
  .eb (bF c7) (bF c8) <|
  .an 0 0 <|
  .ag 4 <|
  .vw zF r3.Base.Pending <|
  .vo zL r3.Base.Entries <|
  .vo Zg r3.Events <|
  .vw zF r3.Base.Pending <|
  .vo zL r3.Base.Entries <|
  .vo Zg r3.Events <|
  .cl (XT r3 r3) fun r9 =>
  .vN 0 r9 (
   .cl (YR r3.Base.Serial r3.Base.Open r3.Base.Act r3.Safe 1 r3.Base.Pending r3.Base.Entries r3.Events) fun ⟨r10_0, r10_1, r10_2, r10_3⟩ =>
   .lI r10_0 0 (fun c11 =>
    .no) fun c11 =>
   .vw zF r5_0.Pending <|
   .vo zL r5_0.Entries <|
   .vw zF r4_0.Pending <|
   .vo zL r4_0.Entries <|
   .ag 4 <|
   .an 2 3 <|
   .an 0 3 <|
   .an 0 3 <|
   .eb (bF c7) (bF c8) <|
   .an 0 3 <|
   .cl (ZG r5_0.Serial r5_0.Open r5_0.Act 1 r5_0.Pending r5_0.Entries) fun ⟨r12_0, r12_1, r12_2⟩ =>
   .vw zF r12_1 <|
   .vo zL r12_2 <|
   .cl (XZ (GState.mk r5_0.Serial r5_0.Open r12_1 r5_0.Act r12_2) 1) fun r13 =>
   .lI r13 0 (fun c14 =>
    .no) fun c14 =>
   .eI r13 r12_0 (fun c15 =>
    .ag 9 <|
    .vw zF r3.Base.Pending <|
    .vo zL r3.Base.Entries <|
    .vo Zg r3.Events <|
    .ag 7 <|
    .cn jg r5_0.Pending <|
    .cn zL r5_0.Entries <|
    .vw zF r5_0.Pending <|
    .vo zL r5_0.Entries <|
    .vw zF r4_0.Pending <|
    .vo zL r4_0.Entries <|
    .ag 6 <|
    .an 0 5 <|
    .an 0 5 <|
    .an 0 5 <|
    .eb (bF c7) (bF c8) <|
    .an 0 5 <|
    .vw zF r12_1 <|
    .vo zL r12_2 <|
    .ag 0 <|
    .q (.lF c14) <|
    .q (.eT c15) <|
    .ret true) fun c15 =>
   .no) <|
  .no) <|
 .no) (zf Tryz.func6)
end
end Go.Am.Try
