/- The functions of the program in plain Lean, and that the machine answers as they do; conditions at each theorem. -/
import Derived.Test.YtoopljdbjefgoaaCG4
set_option linter.unusedVariables false
set_option linter.unusedSimpArgs false
namespace Go.Am.Try
open Go.Am Go.Proofs
set_option linter.unusedVariables false
set_option maxRecDepth 20000
set_option maxHeartbeats 2000000
noncomputable section
def L_laws_heldValueS_l0 (G_laws_heldValueS : (List GValue) → Int → Option Int) (a0 : (List GValue)) : Nat → Int → Int → Option (Int ⊕ (Int × Int))
  | 0, _, _ => none
  | m + 1, a1, v2 =>
    if v2 < ((a0.length : Nat) : Int) then
      (natO v2).bind fun i2 =>
      (a0[i2]?).bind fun x3 =>
      if x3.Kind = a1 then
        if x3.N = (w64 (a1 + 1)) then
          (S_laws_heldByteS x3.S (w64 ((w64 (a1 + 1)) + 1))).bind fun r6 =>
          if r6 < 0 then
            some (.inl (-1))
          else
            (S_laws_heldByteSS x3.K r6).bind fun r8 =>
            if r8 < 0 then
              some (.inl (-1))
            else
              (G_laws_heldValueS x3.L r8).bind fun r10 =>
              if r10 < 0 then
                some (.inl (-1))
              else
                L_laws_heldValueS_l0 G_laws_heldValueS a0 m r10 (w64 (v2 + 1))
        else
          some (.inl (-1))
      else
        some (.inl (-1))
    else
      some (.inr (a1, v2))

theorem gl_laws_heldValueS_l0 (G_laws_heldValueS : (List GValue) → Int → Option Int) (H_laws_heldValueS : ∀ (a0 : (List GValue)) (a1 : Int) (r : Int), G_laws_heldValueS a0 a1 = some r → (mach cfg).call 64 [] [.val false [.seq (eL e_GValue a0)], .val false [.int .i64 a1]] = some (.val false [.int .i64 r], [])) (a0 : (List GValue)) (m : Nat) : ∀ (a1 : Int) (v2 : Int) (o : (Int ⊕ (Int × Int))), L_laws_heldValueS_l0 G_laws_heldValueS a0 m a1 v2 = some o → (mach cfg).loop 64 (loopB Try.f64 0) ⟨[(0, .val false [.seq (eL e_GValue a0)]), (1, .val false [.int .i64 a1]), (5, .val false [.int .i64 v2])], [], 0⟩ = some (match o with | .inl o_0 => (.ret, (⟨[(4, .val false [.int .i64 o_0])], [], 0⟩ : S)) | .inr (⟨o_1_0, o_1_1⟩) => (.exit 0, (⟨[(0, .val false [.seq (eL e_GValue a0)]), (1, .val false [.int .i64 o_1_0]), (5, .val false [.int .i64 o_1_1]), (9, .val false [.bool false])], [], 0⟩ : S))) := by
  induction m with
  | zero => intro a1 v2 o h; cases h
  | succ m ih =>
    intro a1 v2 o h
    rw [L_laws_heldValueS_l0] at h
    rcases ite_some h with ⟨c1, h⟩ | ⟨c1, h⟩
    ·obtain ⟨i2, hi2, h⟩ := bs h
     obtain ⟨x3, hx3, h⟩ := bs h
     rcases ite_some h with ⟨c4, h⟩ | ⟨c4, h⟩
     ·rcases ite_some h with ⟨c5, h⟩ | ⟨c5, h⟩
      ·obtain ⟨r6, hr6, h⟩ := bs h
       rcases ite_some h with ⟨c7, h⟩ | ⟨c7, h⟩
       ·obtain rfl := Option.some.inj h
        exact loop_eQ [.le e_GValue a0, .lT c1, .na hi2, .ix hx3 (eq_GValue x3), .eT c4, .nt true, .ad a1 1, .na hi2, .ix hx3 (eq_GValue x3), .eT c5, .nt true, .ad (w64 (a1 + 1)) 1, .na hi2, .ix hx3 (eq_GValue x3), .cl (ok_laws_heldByteS x3.S (w64 ((w64 (a1 + 1)) + 1)) _ hr6), .lT c7] (by kernel_rfl) (by intro h; cases h)
       ·obtain ⟨r8, hr8, h⟩ := bs h
        rcases ite_some h with ⟨c9, h⟩ | ⟨c9, h⟩
        ·obtain rfl := Option.some.inj h
         exact loop_eQ [.le e_GValue a0, .lT c1, .na hi2, .ix hx3 (eq_GValue x3), .eT c4, .nt true, .ad a1 1, .na hi2, .ix hx3 (eq_GValue x3), .eT c5, .nt true, .ad (w64 (a1 + 1)) 1, .na hi2, .ix hx3 (eq_GValue x3), .cl (ok_laws_heldByteS x3.S (w64 ((w64 (a1 + 1)) + 1)) _ hr6), .lF c7, .na hi2, .ix hx3 (eq_GValue x3), .cl (ok_laws_heldByteSS x3.K r6 _ hr8), .lT c9] (by kernel_rfl) (by intro h; cases h)
        ·obtain ⟨r10, hr10, h⟩ := bs h
         rcases ite_some h with ⟨c11, h⟩ | ⟨c11, h⟩
         ·obtain rfl := Option.some.inj h
          exact loop_eQ [.le e_GValue a0, .lT c1, .na hi2, .ix hx3 (eq_GValue x3), .eT c4, .nt true, .ad a1 1, .na hi2, .ix hx3 (eq_GValue x3), .eT c5, .nt true, .ad (w64 (a1 + 1)) 1, .na hi2, .ix hx3 (eq_GValue x3), .cl (ok_laws_heldByteS x3.S (w64 ((w64 (a1 + 1)) + 1)) _ hr6), .lF c7, .na hi2, .ix hx3 (eq_GValue x3), .cl (ok_laws_heldByteSS x3.K r6 _ hr8), .lF c9, .na hi2, .ix hx3 (eq_GValue x3), .cl (H_laws_heldValueS x3.L r8 _ hr10), .lT c11] (by kernel_rfl) (by intro h; cases h)
         ·exact loop_nQ [.le e_GValue a0, .lT c1, .na hi2, .ix hx3 (eq_GValue x3), .eT c4, .nt true, .ad a1 1, .na hi2, .ix hx3 (eq_GValue x3), .eT c5, .nt true, .ad (w64 (a1 + 1)) 1, .na hi2, .ix hx3 (eq_GValue x3), .cl (ok_laws_heldByteS x3.S (w64 ((w64 (a1 + 1)) + 1)) _ hr6), .lF c7, .na hi2, .ix hx3 (eq_GValue x3), .cl (ok_laws_heldByteSS x3.K r6 _ hr8), .lF c9, .na hi2, .ix hx3 (eq_GValue x3), .cl (H_laws_heldValueS x3.L r8 _ hr10), .lF c11, .ad v2 1] (by kernel_rfl) (ih r10 (w64 (v2 + 1)) o h)
      ·obtain rfl := Option.some.inj h
       exact loop_eQ [.le e_GValue a0, .lT c1, .na hi2, .ix hx3 (eq_GValue x3), .eT c4, .nt true, .ad a1 1, .na hi2, .ix hx3 (eq_GValue x3), .eF c5, .nt false] (by kernel_rfl) (by intro h; cases h)
     ·obtain rfl := Option.some.inj h
      exact loop_eQ [.le e_GValue a0, .lT c1, .na hi2, .ix hx3 (eq_GValue x3), .eF c4, .nt false] (by kernel_rfl) (by intro h; cases h)
    ·obtain rfl := Option.some.inj h
     exact loop_eQ [.le e_GValue a0, .lF c1] (by kernel_rfl) (by intro h; cases h)

def T_laws_heldValueS (G_laws_heldValueS : (List GValue) → Int → Option Int) (n : Nat) (a0 : (List GValue)) (a1 : Int) : Option Int :=
  (L_laws_heldValueS_l0 G_laws_heldValueS a0 n a1 0).bind fun o1 =>
  match o1 with
  | .inl o1_0 =>
    some o1_0
  | .inr (⟨o1_1_0, o1_1_1⟩) =>
    some o1_1_0

set_option maxRecDepth 100000 in
theorem fd_64 : cfg.funcs 64 = some (bodyOf Try.f64, Try.f64.ntmps, Try.f64.results.toList) := fn_of Try.func64 (by kernel_rfl) (by kernel_rfl)
theorem g_laws_heldValueS (G_laws_heldValueS : (List GValue) → Int → Option Int) (H_laws_heldValueS : ∀ (a0 : (List GValue)) (a1 : Int) (r : Int), G_laws_heldValueS a0 a1 = some r → (mach cfg).call 64 [] [.val false [.seq (eL e_GValue a0)], .val false [.int .i64 a1]] = some (.val false [.int .i64 r], [])) (n : Nat) (a0 : (List GValue)) (a1 : Int) (r : Int) (h : T_laws_heldValueS G_laws_heldValueS n a0 a1 = some r) : (mach cfg).call 64 [] [.val false [.seq (eL e_GValue a0)], .val false [.int .i64 a1]] = some (.val false [.int .i64 r], []) := by
  unfold T_laws_heldValueS at h
  obtain ⟨o1, ho1, h⟩ := bs h
  rcases o1 with o1_0 | ⟨o1_1_0, o1_1_1⟩
  · try dsimp only at h
    obtain rfl := Option.some.inj h
    exact call_wQ [.lp (gl_laws_heldValueS_l0 G_laws_heldValueS H_laws_heldValueS a0 _ a1 0 _ ho1)] rfl fd_64 (by kernel_rfl)
  · try dsimp only at h
    obtain rfl := Option.some.inj h
    exact call_wQ [.lp (gl_laws_heldValueS_l0 G_laws_heldValueS H_laws_heldValueS a0 _ a1 0 _ ho1)] rfl fd_64 (by kernel_rfl)

def U_laws_heldValueS : Nat → (List GValue) → Int → Option Int
  | 0, _, _ => none
  | n + 1, a0, a1 => T_laws_heldValueS (U_laws_heldValueS n) n a0 a1
theorem rec_laws_heldValueS (n : Nat) : (∀ (a0 : (List GValue)) (a1 : Int) (r : Int), U_laws_heldValueS n a0 a1 = some r → (mach cfg).call 64 [] [.val false [.seq (eL e_GValue a0)], .val false [.int .i64 a1]] = some (.val false [.int .i64 r], [])) := by
  induction n with
  | zero => exact fun _ _ _ h => (by rw [U_laws_heldValueS] at h; cases h)
  | succ n ih =>
    have ih_laws_heldValueS := ih
    exact fun a0 a1 r h => g_laws_heldValueS (U_laws_heldValueS n) ih_laws_heldValueS n a0 a1 r (by rw [U_laws_heldValueS] at h; exact h)
theorem heldValueS_loop {G : List GValue → Int → Option Int} {a : List GValue} : ∀ (l p : List GValue) (k : Int) (m : Nat), a = p ++ l → mVs k l = l → (∀ v ∈ l, ∀ i : Int, mVs i v.L = v.L → 0 ≤ i → i + 2 * vszs v.L ≤ 2 ^ 41 → G v.L i = some (i + cVs v.L)) → 0 ≤ k → k + 2 * vszs l ≤ 2 ^ 41 → p.length + l.length ≤ 2 ^ 41 → l.length < m → ∃ z, L_laws_heldValueS_l0 G a m k ((p.length : Nat) : Int) = some (.inr (k + cVs l, z)) := by
  intro l
  induction l with
  | nil =>
    intro p k m ha _ _ _ _ _ hm
    subst ha
    obtain ⟨m, rfl, _⟩ := fuel hm
    exact ⟨_, by rw [L_laws_heldValueS_l0, if_neg (nlt_end p)]; simp [cVs]; rfl⟩
  | cons x l ih =>
    intro p k m ha hm0 hG h0 h1 h2 hm
    obtain ⟨m, rfl, hm'⟩ := fuel hm
    simp only [List.length_cons] at h2 hm'
    have hx := hG x List.mem_cons_self
    have hc := cV_le x
    rw [mVs] at hm0
    obtain ⟨e1, e2⟩ := List.cons.inj hm0
    simp only [vszs] at h1
    obtain ⟨z, hz⟩ := ih (p ++ [x]) (k + cV x) m (by rw [ha]; simp) e2 (fun v hv => hG v (List.mem_cons_of_mem _ hv)) (by omega) (by omega) (by simp; omega) (by omega)
    refine ⟨z, ?_⟩
    rw [L_laws_heldValueS_l0, if_pos (by rw [ha]; exact lt_mid p x l), natO_nat, Option.bind_some, show a[p.length]? = some x by rw [ha]; exact get_mid p x l, Option.bind_some, w64_len p x (by omega)]
    have hb := bsz_cB x.K
    have hd := cVs_le x.L
    have hq := vsz_eq x
    have hr := cV_eq x
    rw [mV_eq] at e1
    have f1 : x.Kind = k := (congrArg GValue.Kind e1).symm
    have f2 : x.N = k + 1 := (congrArg GValue.N e1).symm
    have f3 : mB (k + 1 + 1) x.S = x.S := congrArg GValue.S e1
    have f4 : mBB (k + 1 + 1 + x.S.length) x.K = x.K := congrArg GValue.K e1
    have f5 : mVs (k + 1 + 1 + x.S.length + cB x.K) x.L = x.L := congrArg GValue.L e1
    rw [w64_id (x := k + 1) (by omega) (by omega), w64_id (x := k + 1 + 1) (by omega) (by omega), if_pos f1, if_pos f2, heldByteS_eq f3 (by omega) (by omega), Option.bind_some, if_neg (by omega), heldByteSS_eq f4 (by omega) (by omega), Option.bind_some, if_neg (by omega), hx _ f5 (by omega) (by omega), Option.bind_some, if_neg (by omega),
      show k + 1 + 1 + (x.S.length : Int) + (cB x.K : Int) + (cVs x.L : Int) = k + ((cV x : Nat) : Int) by omega, hz]
    simp only [cVs]
    rw [show k + ((cV x : Nat) : Int) + (cVs l : Int) = k + ((cV x + cVs l : Nat) : Int) by omega]
theorem heldValueS_U : ∀ (N : Nat) (l : List GValue), vszs l < N → ∀ (k : Int) (f : Nat), mVs k l = l → 0 ≤ k → k + 2 * vszs l ≤ 2 ^ 41 → vszs l + 2 ≤ f → U_laws_heldValueS f l k = some (k + cVs l) := by
  intro N
  induction N with
  | zero => intro l hl; omega
  | succ N ih =>
    intro l hl k f he h0 h1 hf
    obtain ⟨f, rfl, _⟩ := fuel (show 0 < f by omega)
    have hlen := vszs_len l
    rw [U_laws_heldValueS]
    unfold T_laws_heldValueS
    obtain ⟨z, hz⟩ := heldValueS_loop (G := U_laws_heldValueS f) (a := l) l [] k f rfl he (fun v hv i ge g0 g1 => by
      have := vszs_mem hv
      have := vsz_eq v
      exact ih v.L (by omega) i f ge g0 g1 (by omega)) h0 h1 (by simp; omega) (by omega)
    simp only [List.length_nil, Int.natCast_zero] at hz
    rw [hz]; rfl
open Classical in
noncomputable def S_laws_heldValueS (a0 : (List GValue)) (a1 : Int) : Option Int := if mVs a1 a0 = a0 ∧ 0 ≤ a1 ∧ a1 + 2 * vszs a0 ≤ 2 ^ 41 then some (a1 + cVs a0) else none
theorem heldValueS_eq {a : Int} {s : List GValue} (h : mVs a s = s) (h0 : 0 ≤ a) (h1 : a + 2 * vszs s ≤ 2 ^ 41) : S_laws_heldValueS s a = some (a + cVs s) := if_pos ⟨h, h0, h1⟩
theorem spec_laws_heldValueS (a0 : (List GValue)) (a1 : Int) (r : Int) (h : S_laws_heldValueS a0 a1 = some r) : ∃ n, U_laws_heldValueS n a0 a1 = some r := by
  unfold S_laws_heldValueS at h
  obtain ⟨⟨he, h0, h1⟩, h⟩ := need_c h
  exact ⟨vszs a0 + 2, by rw [heldValueS_U _ a0 (Nat.lt_succ_self _) a1 _ he h0 h1 (Nat.le_refl _), h]⟩
theorem ok_laws_heldValueS (a0 : (List GValue)) (a1 : Int) (r : Int) (h : S_laws_heldValueS a0 a1 = some r) : (mach cfg).call 64 [] [.val false [.seq (eL e_GValue a0)], .val false [.int .i64 a1]] = some (.val false [.int .i64 r], []) := by
  obtain ⟨n, hn⟩ := spec_laws_heldValueS a0 a1 r h
  exact (rec_laws_heldValueS n) a0 a1 r hn
def S_laws_heldValue (a0 : GValue) (a1 : Int) : Option Int :=
  (S_laws_heldByteS a0.S a1).bind fun r1 =>
  if r1 < 0 then
    some (-1)
  else
    (S_laws_heldByteSS a0.K r1).bind fun r3 =>
    if r3 < 0 then
      some (-1)
    else
      (S_laws_heldValueS a0.L r3).bind fun r5 =>
      if r5 < 0 then
        some (-1)
      else
        some r5

set_option maxRecDepth 100000 in
theorem fd_29 : cfg.funcs 29 = some (bodyOf Try.f29, Try.f29.ntmps, Try.f29.results.toList) := fn_of Try.func29 (by kernel_rfl) (by kernel_rfl)
theorem ok_laws_heldValue (a0 : GValue) (a1 : Int) (r : Int) (h : S_laws_heldValue a0 a1 = some r) : (mach cfg).call 29 [] [.val true [.int .i64 a0.Kind, .int .i64 a0.N, .seq (eL e_u8 a0.S), .seq (eL (e_sl e_u8) a0.K), .seq (eL e_GValue a0.L)], .val false [.int .i64 a1]] = some (.val false [.int .i64 r], []) := by
  unfold S_laws_heldValue at h
  obtain ⟨r1, hr1, h⟩ := bs h
  rcases ite_some h with ⟨c2, h⟩ | ⟨c2, h⟩
  ·obtain rfl := Option.some.inj h
   exact call_wQ [.cl (ok_laws_heldByteS a0.S a1 _ hr1), .lT c2] rfl fd_29 (by kernel_rfl)
  ·obtain ⟨r3, hr3, h⟩ := bs h
   rcases ite_some h with ⟨c4, h⟩ | ⟨c4, h⟩
   ·obtain rfl := Option.some.inj h
    exact call_wQ [.cl (ok_laws_heldByteS a0.S a1 _ hr1), .lF c2, .cl (ok_laws_heldByteSS a0.K r1 _ hr3), .lT c4] rfl fd_29 (by kernel_rfl)
   ·obtain ⟨r5, hr5, h⟩ := bs h
    rcases ite_some h with ⟨c6, h⟩ | ⟨c6, h⟩
    ·obtain rfl := Option.some.inj h
     exact call_wQ [.cl (ok_laws_heldByteS a0.S a1 _ hr1), .lF c2, .cl (ok_laws_heldByteSS a0.K r1 _ hr3), .lF c4, .cl (ok_laws_heldValueS a0.L r3 _ hr5), .lT c6] rfl fd_29 (by kernel_rfl)
    ·obtain rfl := Option.some.inj h
     exact call_wQ [.cl (ok_laws_heldByteS a0.S a1 _ hr1), .lF c2, .cl (ok_laws_heldByteSS a0.K r1 _ hr3), .lF c4, .cl (ok_laws_heldValueS a0.L r3 _ hr5), .lF c6] rfl fd_29 (by kernel_rfl)

def S_laws_FnExactCall (a0 : (List UInt8)) (a1 : (List GValue)) : Option Bool :=
  if 1048576 < ((a0.length : Nat) : Int) then
    some true
  else
    (S_laws_szValueS a1 1048576).bind fun r2 =>
    if r2 < 0 then
      some true
    else
      (S_laws_toByteS a0).bind fun r4 =>
      (S_laws_toValueS a1).bind fun r5 =>
      (S_spec_Call r4 r5).bind fun ⟨r6_0, r6_1⟩ =>
      (S_impl_Call r4 r5).bind fun ⟨r7_0, r7_1⟩ =>
      (S_laws_eqValue r7_0 r6_0).bind fun r8 =>
      match r8 with
      | true =>
        if r7_1 = r6_1 then
          (S_laws_eqByteS r4 r4).bind fun r11 =>
          match r11 with
          | true =>
            (S_laws_eqValueS r5 r5).bind fun r13 =>
            match r13 with
            | true =>
              (S_laws_markByteS 1 r4).bind fun ⟨r15_0, r15_1⟩ =>
              (S_laws_markValueS r15_0 r5).bind fun ⟨r16_0, r16_1⟩ =>
              if r16_0 < 0 then
                some false
              else
                (S_laws_markValue r7_0.Kind r7_0.N 1 r7_0.S r7_0.K r7_0.L).bind fun ⟨r18_0, r18_1, r18_2, r18_3⟩ =>
                (S_laws_heldValue (GValue.mk r7_0.Kind r7_0.N r18_1 r18_2 r18_3) 1).bind fun r19 =>
                if r19 < 0 then
                  some false
                else
                  if r19 = r18_0 then
                    some true
                  else
                    some false
            | false =>
              some false
          | false =>
            some false
        else
          some false
      | false =>
        some false

set_option maxRecDepth 100000 in
theorem fd_5 : cfg.funcs 5 = some (bodyOf Try.f5, Try.f5.ntmps, Try.f5.results.toList) := fn_of Try.func5 (by kernel_rfl) (by kernel_rfl)
theorem ok_laws_FnExactCall (a0 : (List UInt8)) (a1 : (List GValue)) (r : Bool) (h : S_laws_FnExactCall a0 a1 = some r) : (mach cfg).call 5 [] [.val false [.seq (eL e_u8 a0)], .val false [.seq (eL e_GValue a1)]] = some (.val false [.bool r], []) := by
  unfold S_laws_FnExactCall at h
  rcases ite_some h with ⟨c1, h⟩ | ⟨c1, h⟩
  ·obtain rfl := Option.some.inj h
   exact call_wQ [.le e_u8 a0, .lT c1] rfl fd_5 (by kernel_rfl)
  ·obtain ⟨r2, hr2, h⟩ := bs h
   rcases ite_some h with ⟨c3, h⟩ | ⟨c3, h⟩
   ·obtain rfl := Option.some.inj h
    exact call_wQ [.le e_u8 a0, .lF c1, .cl (ok_laws_szValueS a1 1048576 _ hr2), .lT c3] rfl fd_5 (by kernel_rfl)
   ·obtain ⟨r4, hr4, h⟩ := bs h
    obtain ⟨r5, hr5, h⟩ := bs h
    obtain ⟨⟨r6_0, r6_1⟩, hr6, h⟩ := bs h
    try dsimp only at h
    obtain ⟨⟨r7_0, r7_1⟩, hr7, h⟩ := bs h
    try dsimp only at h
    obtain ⟨r8, hr8, h⟩ := bs h
    cases r8 with
    | true =>
     try dsimp only at h
     rcases ite_some h with ⟨c10, h⟩ | ⟨c10, h⟩
     ·obtain ⟨r11, hr11, h⟩ := bs h
      cases r11 with
      | true =>
       try dsimp only at h
       obtain ⟨r13, hr13, h⟩ := bs h
       cases r13 with
       | true =>
        try dsimp only at h
        obtain ⟨⟨r15_0, r15_1⟩, hr15, h⟩ := bs h
        try dsimp only at h
        obtain ⟨⟨r16_0, r16_1⟩, hr16, h⟩ := bs h
        try dsimp only at h
        rcases ite_some h with ⟨c17, h⟩ | ⟨c17, h⟩
        ·obtain rfl := Option.some.inj h
         exact call_wQ [.le e_u8 a0, .lF c1, .cl (ok_laws_szValueS a1 1048576 _ hr2), .lF c3, .cl (ok_laws_toByteS a0 _ hr4), .cl (ok_laws_toValueS a1 _ hr5), ⟨.view (eL e_u8 r4), .l (eL e_u8 r4), (A.view E_u8)⟩, ⟨.view (eL o_GValue r5), .l (eL e_GValue r5), (A.viewO O_GValue)⟩, .cl (ok_spec_Call r4 r5 _ hr6), .cl (ok_laws_toByteS a0 _ hr4), .cl (ok_laws_toValueS a1 _ hr5), ⟨.view (eL e_u8 r4), .l (eL e_u8 r4), (A.view E_u8)⟩, ⟨.view (eL o_GValue r5), .l (eL e_GValue r5), (A.viewO O_GValue)⟩, .cl (ok_impl_Call r4 r5 _ hr7), ⟨.cln (eL e_u8 r7_0.S), .b true, (A.cln O_u8)⟩, ⟨.cln (eL (o_sl 1 e_u8) r7_0.K), .b true, (A.cln (O_sl 1 O_u8))⟩, ⟨.cln (eL o_GValue r7_0.L), .b true, (A.cln O_GValue)⟩, ⟨.view (eL e_u8 r7_0.S), .l (eL e_u8 r7_0.S), (A.view E_u8)⟩, ⟨.view (eL (o_sl 1 e_u8) r7_0.K), .l (eL (e_sl e_u8) r7_0.K), (A.viewO (O_sl 1 O_u8))⟩, ⟨.view (eL o_GValue r7_0.L), .l (eL e_GValue r7_0.L), (A.viewO O_GValue)⟩, .cl (ok_laws_eqValue r7_0 r6_0 _ hr8), .nt true, .eT c10, .nt true, .cl (ok_laws_toByteS a0 _ hr4), ⟨.view (eL e_u8 r4), .l (eL e_u8 r4), (A.view E_u8)⟩, ⟨.view (eL e_u8 r4), .l (eL e_u8 r4), (A.view E_u8)⟩, .cl (ok_laws_eqByteS r4 r4 _ hr11), .nt true, .cl (ok_laws_toValueS a1 _ hr5), ⟨.view (eL o_GValue r5), .l (eL e_GValue r5), (A.viewO O_GValue)⟩, ⟨.view (eL o_GValue r5), .l (eL e_GValue r5), (A.viewO O_GValue)⟩, .cl (ok_laws_eqValueS r5 r5 _ hr13), .nt true, .cl (ok_laws_markByteS 1 r4 _ hr15), .cl (ok_laws_markValueS r15_0 r5 _ hr16), .lT c17] rfl fd_5 (by kernel_rfl)
        ·obtain ⟨⟨r18_0, r18_1, r18_2, r18_3⟩, hr18, h⟩ := bs h
         try dsimp only at h
         obtain ⟨r19, hr19, h⟩ := bs h
         rcases ite_some h with ⟨c20, h⟩ | ⟨c20, h⟩
         ·obtain rfl := Option.some.inj h
          exact call_wQ [.le e_u8 a0, .lF c1, .cl (ok_laws_szValueS a1 1048576 _ hr2), .lF c3, .cl (ok_laws_toByteS a0 _ hr4), .cl (ok_laws_toValueS a1 _ hr5), ⟨.view (eL e_u8 r4), .l (eL e_u8 r4), (A.view E_u8)⟩, ⟨.view (eL o_GValue r5), .l (eL e_GValue r5), (A.viewO O_GValue)⟩, .cl (ok_spec_Call r4 r5 _ hr6), .cl (ok_laws_toByteS a0 _ hr4), .cl (ok_laws_toValueS a1 _ hr5), ⟨.view (eL e_u8 r4), .l (eL e_u8 r4), (A.view E_u8)⟩, ⟨.view (eL o_GValue r5), .l (eL e_GValue r5), (A.viewO O_GValue)⟩, .cl (ok_impl_Call r4 r5 _ hr7), ⟨.cln (eL e_u8 r7_0.S), .b true, (A.cln O_u8)⟩, ⟨.cln (eL (o_sl 1 e_u8) r7_0.K), .b true, (A.cln (O_sl 1 O_u8))⟩, ⟨.cln (eL o_GValue r7_0.L), .b true, (A.cln O_GValue)⟩, ⟨.view (eL e_u8 r7_0.S), .l (eL e_u8 r7_0.S), (A.view E_u8)⟩, ⟨.view (eL (o_sl 1 e_u8) r7_0.K), .l (eL (e_sl e_u8) r7_0.K), (A.viewO (O_sl 1 O_u8))⟩, ⟨.view (eL o_GValue r7_0.L), .l (eL e_GValue r7_0.L), (A.viewO O_GValue)⟩, .cl (ok_laws_eqValue r7_0 r6_0 _ hr8), .nt true, .eT c10, .nt true, .cl (ok_laws_toByteS a0 _ hr4), ⟨.view (eL e_u8 r4), .l (eL e_u8 r4), (A.view E_u8)⟩, ⟨.view (eL e_u8 r4), .l (eL e_u8 r4), (A.view E_u8)⟩, .cl (ok_laws_eqByteS r4 r4 _ hr11), .nt true, .cl (ok_laws_toValueS a1 _ hr5), ⟨.view (eL o_GValue r5), .l (eL e_GValue r5), (A.viewO O_GValue)⟩, ⟨.view (eL o_GValue r5), .l (eL e_GValue r5), (A.viewO O_GValue)⟩, .cl (ok_laws_eqValueS r5 r5 _ hr13), .nt true, .cl (ok_laws_markByteS 1 r4 _ hr15), .cl (ok_laws_markValueS r15_0 r5 _ hr16), .lF c17, ⟨.view (eL e_u8 r7_0.S), .l (eL e_u8 r7_0.S), (A.view E_u8)⟩, ⟨.view (eL (o_sl 1 e_u8) r7_0.K), .l (eL (e_sl e_u8) r7_0.K), (A.viewO (O_sl 1 O_u8))⟩, ⟨.view (eL o_GValue r7_0.L), .l (eL e_GValue r7_0.L), (A.viewO O_GValue)⟩, .cl (ok_laws_eqValue r7_0 r6_0 _ hr8), .nt true, .eT c10, .nt true, .cl (ok_laws_markValue r7_0.Kind r7_0.N 1 r7_0.S r7_0.K r7_0.L _ hr18), ⟨.view (eL e_u8 r18_1), .l (eL e_u8 r18_1), (A.view E_u8)⟩, ⟨.view (eL (o_sl 1 e_u8) r18_2), .l (eL (e_sl e_u8) r18_2), (A.viewO (O_sl 1 O_u8))⟩, ⟨.view (eL o_GValue r18_3), .l (eL e_GValue r18_3), (A.viewO O_GValue)⟩, .cl (ok_laws_heldValue (GValue.mk r7_0.Kind r7_0.N r18_1 r18_2 r18_3) 1 _ hr19), .lT c20] rfl fd_5 (by kernel_rfl)
         ·rcases ite_some h with ⟨c21, h⟩ | ⟨c21, h⟩
          ·obtain rfl := Option.some.inj h
           exact call_wQ [.le e_u8 a0, .lF c1, .cl (ok_laws_szValueS a1 1048576 _ hr2), .lF c3, .cl (ok_laws_toByteS a0 _ hr4), .cl (ok_laws_toValueS a1 _ hr5), ⟨.view (eL e_u8 r4), .l (eL e_u8 r4), (A.view E_u8)⟩, ⟨.view (eL o_GValue r5), .l (eL e_GValue r5), (A.viewO O_GValue)⟩, .cl (ok_spec_Call r4 r5 _ hr6), .cl (ok_laws_toByteS a0 _ hr4), .cl (ok_laws_toValueS a1 _ hr5), ⟨.view (eL e_u8 r4), .l (eL e_u8 r4), (A.view E_u8)⟩, ⟨.view (eL o_GValue r5), .l (eL e_GValue r5), (A.viewO O_GValue)⟩, .cl (ok_impl_Call r4 r5 _ hr7), ⟨.cln (eL e_u8 r7_0.S), .b true, (A.cln O_u8)⟩, ⟨.cln (eL (o_sl 1 e_u8) r7_0.K), .b true, (A.cln (O_sl 1 O_u8))⟩, ⟨.cln (eL o_GValue r7_0.L), .b true, (A.cln O_GValue)⟩, ⟨.view (eL e_u8 r7_0.S), .l (eL e_u8 r7_0.S), (A.view E_u8)⟩, ⟨.view (eL (o_sl 1 e_u8) r7_0.K), .l (eL (e_sl e_u8) r7_0.K), (A.viewO (O_sl 1 O_u8))⟩, ⟨.view (eL o_GValue r7_0.L), .l (eL e_GValue r7_0.L), (A.viewO O_GValue)⟩, .cl (ok_laws_eqValue r7_0 r6_0 _ hr8), .nt true, .eT c10, .nt true, .cl (ok_laws_toByteS a0 _ hr4), ⟨.view (eL e_u8 r4), .l (eL e_u8 r4), (A.view E_u8)⟩, ⟨.view (eL e_u8 r4), .l (eL e_u8 r4), (A.view E_u8)⟩, .cl (ok_laws_eqByteS r4 r4 _ hr11), .nt true, .cl (ok_laws_toValueS a1 _ hr5), ⟨.view (eL o_GValue r5), .l (eL e_GValue r5), (A.viewO O_GValue)⟩, ⟨.view (eL o_GValue r5), .l (eL e_GValue r5), (A.viewO O_GValue)⟩, .cl (ok_laws_eqValueS r5 r5 _ hr13), .nt true, .cl (ok_laws_markByteS 1 r4 _ hr15), .cl (ok_laws_markValueS r15_0 r5 _ hr16), .lF c17, ⟨.view (eL e_u8 r7_0.S), .l (eL e_u8 r7_0.S), (A.view E_u8)⟩, ⟨.view (eL (o_sl 1 e_u8) r7_0.K), .l (eL (e_sl e_u8) r7_0.K), (A.viewO (O_sl 1 O_u8))⟩, ⟨.view (eL o_GValue r7_0.L), .l (eL e_GValue r7_0.L), (A.viewO O_GValue)⟩, .cl (ok_laws_eqValue r7_0 r6_0 _ hr8), .nt true, .eT c10, .nt true, .cl (ok_laws_markValue r7_0.Kind r7_0.N 1 r7_0.S r7_0.K r7_0.L _ hr18), ⟨.view (eL e_u8 r18_1), .l (eL e_u8 r18_1), (A.view E_u8)⟩, ⟨.view (eL (o_sl 1 e_u8) r18_2), .l (eL (e_sl e_u8) r18_2), (A.viewO (O_sl 1 O_u8))⟩, ⟨.view (eL o_GValue r18_3), .l (eL e_GValue r18_3), (A.viewO O_GValue)⟩, .cl (ok_laws_heldValue (GValue.mk r7_0.Kind r7_0.N r18_1 r18_2 r18_3) 1 _ hr19), .lF c20, .eT c21, .nt true, .cl (ok_laws_toByteS a0 _ hr4), .cl (ok_laws_toValueS a1 _ hr5), ⟨.view (eL e_u8 r4), .l (eL e_u8 r4), (A.view E_u8)⟩, ⟨.view (eL o_GValue r5), .l (eL e_GValue r5), (A.viewO O_GValue)⟩, .cl (ok_impl_Call r4 r5 _ hr7), ⟨.cln (eL e_u8 r7_0.S), .b true, (A.cln O_u8)⟩, ⟨.cln (eL (o_sl 1 e_u8) r7_0.K), .b true, (A.cln (O_sl 1 O_u8))⟩, ⟨.cln (eL o_GValue r7_0.L), .b true, (A.cln O_GValue)⟩, ⟨.view (eL e_u8 r7_0.S), .l (eL e_u8 r7_0.S), (A.view E_u8)⟩, ⟨.view (eL (o_sl 1 e_u8) r7_0.K), .l (eL (e_sl e_u8) r7_0.K), (A.viewO (O_sl 1 O_u8))⟩, ⟨.view (eL o_GValue r7_0.L), .l (eL e_GValue r7_0.L), (A.viewO O_GValue)⟩, .cl (ok_laws_eqValue r7_0 r6_0 _ hr8), .nt true, .eT c10, .nt true, ⟨.view (eL e_u8 r18_1), .l (eL e_u8 r18_1), (A.view E_u8)⟩, ⟨.view (eL (o_sl 1 e_u8) r18_2), .l (eL (e_sl e_u8) r18_2), (A.viewO (O_sl 1 O_u8))⟩, ⟨.view (eL o_GValue r18_3), .l (eL e_GValue r18_3), (A.viewO O_GValue)⟩, .cl (ok_laws_heldValue (GValue.mk r7_0.Kind r7_0.N r18_1 r18_2 r18_3) 1 _ hr19), .lF c20, .eT c21, .nt true] rfl fd_5 (by kernel_rfl)
          ·obtain rfl := Option.some.inj h
           exact call_wQ [.le e_u8 a0, .lF c1, .cl (ok_laws_szValueS a1 1048576 _ hr2), .lF c3, .cl (ok_laws_toByteS a0 _ hr4), .cl (ok_laws_toValueS a1 _ hr5), ⟨.view (eL e_u8 r4), .l (eL e_u8 r4), (A.view E_u8)⟩, ⟨.view (eL o_GValue r5), .l (eL e_GValue r5), (A.viewO O_GValue)⟩, .cl (ok_spec_Call r4 r5 _ hr6), .cl (ok_laws_toByteS a0 _ hr4), .cl (ok_laws_toValueS a1 _ hr5), ⟨.view (eL e_u8 r4), .l (eL e_u8 r4), (A.view E_u8)⟩, ⟨.view (eL o_GValue r5), .l (eL e_GValue r5), (A.viewO O_GValue)⟩, .cl (ok_impl_Call r4 r5 _ hr7), ⟨.cln (eL e_u8 r7_0.S), .b true, (A.cln O_u8)⟩, ⟨.cln (eL (o_sl 1 e_u8) r7_0.K), .b true, (A.cln (O_sl 1 O_u8))⟩, ⟨.cln (eL o_GValue r7_0.L), .b true, (A.cln O_GValue)⟩, ⟨.view (eL e_u8 r7_0.S), .l (eL e_u8 r7_0.S), (A.view E_u8)⟩, ⟨.view (eL (o_sl 1 e_u8) r7_0.K), .l (eL (e_sl e_u8) r7_0.K), (A.viewO (O_sl 1 O_u8))⟩, ⟨.view (eL o_GValue r7_0.L), .l (eL e_GValue r7_0.L), (A.viewO O_GValue)⟩, .cl (ok_laws_eqValue r7_0 r6_0 _ hr8), .nt true, .eT c10, .nt true, .cl (ok_laws_toByteS a0 _ hr4), ⟨.view (eL e_u8 r4), .l (eL e_u8 r4), (A.view E_u8)⟩, ⟨.view (eL e_u8 r4), .l (eL e_u8 r4), (A.view E_u8)⟩, .cl (ok_laws_eqByteS r4 r4 _ hr11), .nt true, .cl (ok_laws_toValueS a1 _ hr5), ⟨.view (eL o_GValue r5), .l (eL e_GValue r5), (A.viewO O_GValue)⟩, ⟨.view (eL o_GValue r5), .l (eL e_GValue r5), (A.viewO O_GValue)⟩, .cl (ok_laws_eqValueS r5 r5 _ hr13), .nt true, .cl (ok_laws_markByteS 1 r4 _ hr15), .cl (ok_laws_markValueS r15_0 r5 _ hr16), .lF c17, ⟨.view (eL e_u8 r7_0.S), .l (eL e_u8 r7_0.S), (A.view E_u8)⟩, ⟨.view (eL (o_sl 1 e_u8) r7_0.K), .l (eL (e_sl e_u8) r7_0.K), (A.viewO (O_sl 1 O_u8))⟩, ⟨.view (eL o_GValue r7_0.L), .l (eL e_GValue r7_0.L), (A.viewO O_GValue)⟩, .cl (ok_laws_eqValue r7_0 r6_0 _ hr8), .nt true, .eT c10, .nt true, .cl (ok_laws_markValue r7_0.Kind r7_0.N 1 r7_0.S r7_0.K r7_0.L _ hr18), ⟨.view (eL e_u8 r18_1), .l (eL e_u8 r18_1), (A.view E_u8)⟩, ⟨.view (eL (o_sl 1 e_u8) r18_2), .l (eL (e_sl e_u8) r18_2), (A.viewO (O_sl 1 O_u8))⟩, ⟨.view (eL o_GValue r18_3), .l (eL e_GValue r18_3), (A.viewO O_GValue)⟩, .cl (ok_laws_heldValue (GValue.mk r7_0.Kind r7_0.N r18_1 r18_2 r18_3) 1 _ hr19), .lF c20, .eF c21, .nt false] rfl fd_5 (by kernel_rfl)
       | false =>
        try dsimp only at h
        obtain rfl := Option.some.inj h
        exact call_wQ [.le e_u8 a0, .lF c1, .cl (ok_laws_szValueS a1 1048576 _ hr2), .lF c3, .cl (ok_laws_toByteS a0 _ hr4), .cl (ok_laws_toValueS a1 _ hr5), ⟨.view (eL e_u8 r4), .l (eL e_u8 r4), (A.view E_u8)⟩, ⟨.view (eL o_GValue r5), .l (eL e_GValue r5), (A.viewO O_GValue)⟩, .cl (ok_spec_Call r4 r5 _ hr6), .cl (ok_laws_toByteS a0 _ hr4), .cl (ok_laws_toValueS a1 _ hr5), ⟨.view (eL e_u8 r4), .l (eL e_u8 r4), (A.view E_u8)⟩, ⟨.view (eL o_GValue r5), .l (eL e_GValue r5), (A.viewO O_GValue)⟩, .cl (ok_impl_Call r4 r5 _ hr7), ⟨.cln (eL e_u8 r7_0.S), .b true, (A.cln O_u8)⟩, ⟨.cln (eL (o_sl 1 e_u8) r7_0.K), .b true, (A.cln (O_sl 1 O_u8))⟩, ⟨.cln (eL o_GValue r7_0.L), .b true, (A.cln O_GValue)⟩, ⟨.view (eL e_u8 r7_0.S), .l (eL e_u8 r7_0.S), (A.view E_u8)⟩, ⟨.view (eL (o_sl 1 e_u8) r7_0.K), .l (eL (e_sl e_u8) r7_0.K), (A.viewO (O_sl 1 O_u8))⟩, ⟨.view (eL o_GValue r7_0.L), .l (eL e_GValue r7_0.L), (A.viewO O_GValue)⟩, .cl (ok_laws_eqValue r7_0 r6_0 _ hr8), .nt true, .eT c10, .nt true, .cl (ok_laws_toByteS a0 _ hr4), ⟨.view (eL e_u8 r4), .l (eL e_u8 r4), (A.view E_u8)⟩, ⟨.view (eL e_u8 r4), .l (eL e_u8 r4), (A.view E_u8)⟩, .cl (ok_laws_eqByteS r4 r4 _ hr11), .nt true, .cl (ok_laws_toValueS a1 _ hr5), ⟨.view (eL o_GValue r5), .l (eL e_GValue r5), (A.viewO O_GValue)⟩, ⟨.view (eL o_GValue r5), .l (eL e_GValue r5), (A.viewO O_GValue)⟩, .cl (ok_laws_eqValueS r5 r5 _ hr13), .nt false] rfl fd_5 (by kernel_rfl)
      | false =>
       try dsimp only at h
       obtain rfl := Option.some.inj h
       exact call_wQ [.le e_u8 a0, .lF c1, .cl (ok_laws_szValueS a1 1048576 _ hr2), .lF c3, .cl (ok_laws_toByteS a0 _ hr4), .cl (ok_laws_toValueS a1 _ hr5), ⟨.view (eL e_u8 r4), .l (eL e_u8 r4), (A.view E_u8)⟩, ⟨.view (eL o_GValue r5), .l (eL e_GValue r5), (A.viewO O_GValue)⟩, .cl (ok_spec_Call r4 r5 _ hr6), .cl (ok_laws_toByteS a0 _ hr4), .cl (ok_laws_toValueS a1 _ hr5), ⟨.view (eL e_u8 r4), .l (eL e_u8 r4), (A.view E_u8)⟩, ⟨.view (eL o_GValue r5), .l (eL e_GValue r5), (A.viewO O_GValue)⟩, .cl (ok_impl_Call r4 r5 _ hr7), ⟨.cln (eL e_u8 r7_0.S), .b true, (A.cln O_u8)⟩, ⟨.cln (eL (o_sl 1 e_u8) r7_0.K), .b true, (A.cln (O_sl 1 O_u8))⟩, ⟨.cln (eL o_GValue r7_0.L), .b true, (A.cln O_GValue)⟩, ⟨.view (eL e_u8 r7_0.S), .l (eL e_u8 r7_0.S), (A.view E_u8)⟩, ⟨.view (eL (o_sl 1 e_u8) r7_0.K), .l (eL (e_sl e_u8) r7_0.K), (A.viewO (O_sl 1 O_u8))⟩, ⟨.view (eL o_GValue r7_0.L), .l (eL e_GValue r7_0.L), (A.viewO O_GValue)⟩, .cl (ok_laws_eqValue r7_0 r6_0 _ hr8), .nt true, .eT c10, .nt true, .cl (ok_laws_toByteS a0 _ hr4), ⟨.view (eL e_u8 r4), .l (eL e_u8 r4), (A.view E_u8)⟩, ⟨.view (eL e_u8 r4), .l (eL e_u8 r4), (A.view E_u8)⟩, .cl (ok_laws_eqByteS r4 r4 _ hr11), .nt false] rfl fd_5 (by kernel_rfl)
     ·obtain rfl := Option.some.inj h
      exact call_wQ [.le e_u8 a0, .lF c1, .cl (ok_laws_szValueS a1 1048576 _ hr2), .lF c3, .cl (ok_laws_toByteS a0 _ hr4), .cl (ok_laws_toValueS a1 _ hr5), ⟨.view (eL e_u8 r4), .l (eL e_u8 r4), (A.view E_u8)⟩, ⟨.view (eL o_GValue r5), .l (eL e_GValue r5), (A.viewO O_GValue)⟩, .cl (ok_spec_Call r4 r5 _ hr6), .cl (ok_laws_toByteS a0 _ hr4), .cl (ok_laws_toValueS a1 _ hr5), ⟨.view (eL e_u8 r4), .l (eL e_u8 r4), (A.view E_u8)⟩, ⟨.view (eL o_GValue r5), .l (eL e_GValue r5), (A.viewO O_GValue)⟩, .cl (ok_impl_Call r4 r5 _ hr7), ⟨.cln (eL e_u8 r7_0.S), .b true, (A.cln O_u8)⟩, ⟨.cln (eL (o_sl 1 e_u8) r7_0.K), .b true, (A.cln (O_sl 1 O_u8))⟩, ⟨.cln (eL o_GValue r7_0.L), .b true, (A.cln O_GValue)⟩, ⟨.view (eL e_u8 r7_0.S), .l (eL e_u8 r7_0.S), (A.view E_u8)⟩, ⟨.view (eL (o_sl 1 e_u8) r7_0.K), .l (eL (e_sl e_u8) r7_0.K), (A.viewO (O_sl 1 O_u8))⟩, ⟨.view (eL o_GValue r7_0.L), .l (eL e_GValue r7_0.L), (A.viewO O_GValue)⟩, .cl (ok_laws_eqValue r7_0 r6_0 _ hr8), .nt true, .eF c10, .nt false] rfl fd_5 (by kernel_rfl)
    | false =>
     try dsimp only at h
     obtain rfl := Option.some.inj h
     exact call_wQ [.le e_u8 a0, .lF c1, .cl (ok_laws_szValueS a1 1048576 _ hr2), .lF c3, .cl (ok_laws_toByteS a0 _ hr4), .cl (ok_laws_toValueS a1 _ hr5), ⟨.view (eL e_u8 r4), .l (eL e_u8 r4), (A.view E_u8)⟩, ⟨.view (eL o_GValue r5), .l (eL e_GValue r5), (A.viewO O_GValue)⟩, .cl (ok_spec_Call r4 r5 _ hr6), .cl (ok_laws_toByteS a0 _ hr4), .cl (ok_laws_toValueS a1 _ hr5), ⟨.view (eL e_u8 r4), .l (eL e_u8 r4), (A.view E_u8)⟩, ⟨.view (eL o_GValue r5), .l (eL e_GValue r5), (A.viewO O_GValue)⟩, .cl (ok_impl_Call r4 r5 _ hr7), ⟨.cln (eL e_u8 r7_0.S), .b true, (A.cln O_u8)⟩, ⟨.cln (eL (o_sl 1 e_u8) r7_0.K), .b true, (A.cln (O_sl 1 O_u8))⟩, ⟨.cln (eL o_GValue r7_0.L), .b true, (A.cln O_GValue)⟩, ⟨.view (eL e_u8 r7_0.S), .l (eL e_u8 r7_0.S), (A.view E_u8)⟩, ⟨.view (eL (o_sl 1 e_u8) r7_0.K), .l (eL (e_sl e_u8) r7_0.K), (A.viewO (O_sl 1 O_u8))⟩, ⟨.view (eL o_GValue r7_0.L), .l (eL e_GValue r7_0.L), (A.viewO O_GValue)⟩, .cl (ok_laws_eqValue r7_0 r6_0 _ hr8), .nt false] rfl fd_5 (by kernel_rfl)

end
end Go.Am.Try
