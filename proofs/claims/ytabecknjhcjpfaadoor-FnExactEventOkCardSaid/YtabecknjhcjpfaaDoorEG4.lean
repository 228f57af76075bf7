/- The functions of the program in plain Lean, and that the machine answers as they do; conditions at each theorem. -/
import Derived.Test.YtabecknjhcjpfaaDoorEG3
set_option linter.unusedVariables false
set_option linter.unusedSimpArgs false
namespace Go.Am.Try
open Go.Am Go.Proofs
set_option linter.unusedVariables false
set_option maxRecDepth 20000
set_option maxHeartbeats 2000000
noncomputable section
def L_laws_eqValueS_l0 (G_laws_eqValue : GValue → GValue → Option Bool) (a0 : (List GValue)) (a1 : (List GValue)) : Nat → Int → Option (Bool ⊕ Int)
  | 0, _ => none
  | m + 1, v2 =>
    if v2 < ((a0.length : Nat) : Int) then
      (natO v2).bind fun i2 =>
      (a0[i2]?).bind fun x3 =>
      (a1[i2]?).bind fun x4 =>
      (G_laws_eqValue x3 x4).bind fun r5 =>
      match r5 with
      | true =>
        L_laws_eqValueS_l0 G_laws_eqValue a0 a1 m (w64 (v2 + 1))
      | false =>
        some (.inl false)
    else
      some (.inr v2)
theorem gl_laws_eqValueS_l0 (G_laws_eqValue : GValue → GValue → Option Bool) (H_laws_eqValue : ∀ (a0 : GValue) (a1 : GValue) (r : Bool), G_laws_eqValue a0 a1 = some r → (mach cfg).call 22 [] [.val true [.int .i64 a0.Kind, .int .i64 a0.N, .seq (eL e_u8 a0.S), .seq (eL (e_sl e_u8) a0.K), .seq (eL e_GValue a0.L)], .val true [.int .i64 a1.Kind, .int .i64 a1.N, .seq (eL e_u8 a1.S), .seq (eL (e_sl e_u8) a1.K), .seq (eL e_GValue a1.L)]] = some (.val false [.bool r], [])) (a0 : (List GValue)) (a1 : (List GValue)) (m : Nat) : ∀ (v2 : Int) (o : (Bool ⊕ Int)), L_laws_eqValueS_l0 G_laws_eqValue a0 a1 m v2 = some o → (mach cfg).loop 35 (loopB Tryd.f35 0) ⟨[(0, .val false [.seq (eL e_GValue a0)]), (1, .val false [.seq (eL e_GValue a1)]), (5, .val false [.int .i64 v2])], [], 0⟩ = some (match o with | .inl o_0 => (.ret, (⟨[(4, .val false [.bool o_0])], [], 0⟩ : S)) | .inr (o_1) => (.exit 0, (⟨[(0, .val false [.seq (eL e_GValue a0)]), (1, .val false [.seq (eL e_GValue a1)]), (5, .val false [.int .i64 o_1]), (14, .val false [.bool false])], [], 0⟩ : S))) := by
  induction m with
  | zero => intro v2 o h; cases h
  | succ m ih =>
    intro v2 o h
    rw [L_laws_eqValueS_l0] at h
    rcases ite_some h with ⟨c1, h⟩ | ⟨c1, h⟩
    ·obtain ⟨i2, hi2, h⟩ := bs h
     obtain ⟨x3, hx3, h⟩ := bs h
     obtain ⟨x4, hx4, h⟩ := bs h
     obtain ⟨r5, hr5, h⟩ := bs h
     let p74 : List (Q cfg) := [.le e_GValue a0, .lT c1, .na hi2, .ix hx3 (eq_GValue x3), .na hi2, .ix hx4 (eq_GValue x4), .cl (H_laws_eqValue x3 x4 _ hr5)]
     cases r5 with
     | true =>
      try dsimp only at h
      exact loop_nQ (p74 ++ [.nt true, .ad v2 1]) (by kernel_rfl) (ih (w64 (v2 + 1)) o h)
     | false =>
      try dsimp only at h
      obtain rfl := Option.some.inj h
      exact loop_eQ (p74 ++ [.nt false]) (by kernel_rfl) (by intro h; cases h)
    ·obtain rfl := Option.some.inj h
     exact loop_eQ [.le e_GValue a0, .lF c1] (by kernel_rfl) (by intro h; cases h)
def T_laws_eqValueS (G_laws_eqValue : GValue → GValue → Option Bool) (n : Nat) (a0 : (List GValue)) (a1 : (List GValue)) : Option Bool :=
  if ((a0.length : Nat) : Int) = ((a1.length : Nat) : Int) then
    (L_laws_eqValueS_l0 G_laws_eqValue a0 a1 n 0).bind fun o2 =>
    match o2 with
    | .inl o2_0 =>
      some o2_0
    | .inr (o2_1) =>
      some true
  else
    some false
set_option maxRecDepth 100000 in
theorem fd_35 : cfg.funcs 35 = some (bodyOf Tryd.f35, Tryd.f35.ntmps, Tryd.f35.results.toList) := fn_of Tryd.func35 (by kernel_rfl) (by kernel_rfl)
theorem g_laws_eqValueS (G_laws_eqValue : GValue → GValue → Option Bool) (H_laws_eqValue : ∀ (a0 : GValue) (a1 : GValue) (r : Bool), G_laws_eqValue a0 a1 = some r → (mach cfg).call 22 [] [.val true [.int .i64 a0.Kind, .int .i64 a0.N, .seq (eL e_u8 a0.S), .seq (eL (e_sl e_u8) a0.K), .seq (eL e_GValue a0.L)], .val true [.int .i64 a1.Kind, .int .i64 a1.N, .seq (eL e_u8 a1.S), .seq (eL (e_sl e_u8) a1.K), .seq (eL e_GValue a1.L)]] = some (.val false [.bool r], [])) (n : Nat) (a0 : (List GValue)) (a1 : (List GValue)) (r : Bool) (h : T_laws_eqValueS G_laws_eqValue n a0 a1 = some r) : (mach cfg).call 35 [] [.val false [.seq (eL e_GValue a0)], .val false [.seq (eL e_GValue a1)]] = some (.val false [.bool r], []) := by
  unfold T_laws_eqValueS at h
  rcases ite_some h with ⟨c1, h⟩ | ⟨c1, h⟩
  ·obtain ⟨o2, ho2, h⟩ := bs h
   let p75 : List (Q cfg) := [.le e_GValue a0, .le e_GValue a1, .eT c1, .nt true, .lp (gl_laws_eqValueS_l0 G_laws_eqValue H_laws_eqValue a0 a1 _ 0 _ ho2)]
   rcases o2 with o2_0 | o2_1
   · try dsimp only at h
     obtain rfl := Option.some.inj h
     exact call_wQ p75 rfl fd_35 (by kernel_rfl)
   · try dsimp only at h
     obtain rfl := Option.some.inj h
     exact call_wQ p75 rfl fd_35 (by kernel_rfl)
  ·obtain rfl := Option.some.inj h
   exact call_wQ [.le e_GValue a0, .le e_GValue a1, .eF c1, .nt false] rfl fd_35 (by kernel_rfl)
def T_laws_eqValue (G_laws_eqValueS : (List GValue) → (List GValue) → Option Bool) (a0 : GValue) (a1 : GValue) : Option Bool :=
  if a0.Kind = a1.Kind then
    if a0.N = a1.N then
      (S_laws_eqByteS a0.S a1.S).bind fun r3 =>
      match r3 with
      | true =>
        (S_laws_eqByteSS a0.K a1.K).bind fun r5 =>
        match r5 with
        | true =>
          (G_laws_eqValueS a0.L a1.L).bind fun r7 =>
          match r7 with
          | true =>
            some true
          | false =>
            some false
        | false =>
          some false
      | false =>
        some false
    else
      some false
  else
    some false
set_option maxRecDepth 100000 in
theorem fd_22 : cfg.funcs 22 = some (bodyOf Tryd.f22, Tryd.f22.ntmps, Tryd.f22.results.toList) := fn_of Tryd.func22 (by kernel_rfl) (by kernel_rfl)
theorem g_laws_eqValue (G_laws_eqValueS : (List GValue) → (List GValue) → Option Bool) (H_laws_eqValueS : ∀ (a0 : (List GValue)) (a1 : (List GValue)) (r : Bool), G_laws_eqValueS a0 a1 = some r → (mach cfg).call 35 [] [.val false [.seq (eL e_GValue a0)], .val false [.seq (eL e_GValue a1)]] = some (.val false [.bool r], [])) (a0 : GValue) (a1 : GValue) (r : Bool) (h : T_laws_eqValue G_laws_eqValueS a0 a1 = some r) : (mach cfg).call 22 [] [.val true [.int .i64 a0.Kind, .int .i64 a0.N, .seq (eL e_u8 a0.S), .seq (eL (e_sl e_u8) a0.K), .seq (eL e_GValue a0.L)], .val true [.int .i64 a1.Kind, .int .i64 a1.N, .seq (eL e_u8 a1.S), .seq (eL (e_sl e_u8) a1.K), .seq (eL e_GValue a1.L)]] = some (.val false [.bool r], []) := by
  unfold T_laws_eqValue at h
  rcases ite_some h with ⟨c1, h⟩ | ⟨c1, h⟩
  ·rcases ite_some h with ⟨c2, h⟩ | ⟨c2, h⟩
   ·obtain ⟨r3, hr3, h⟩ := bs h
    let p76 : List (Q cfg) := [.eT c1, .nt true, .eT c2, .nt true, .cl (ok_laws_eqByteS a0.S a1.S _ hr3)]
    cases r3 with
    | true =>
     try dsimp only at h
     obtain ⟨r5, hr5, h⟩ := bs h
     let p77 : List (Q cfg) := p76 ++ [.nt true, .cl (ok_laws_eqByteSS a0.K a1.K _ hr5)]
     cases r5 with
     | true =>
      try dsimp only at h
      obtain ⟨r7, hr7, h⟩ := bs h
      cases r7 with
      | true =>
       try dsimp only at h
       obtain rfl := Option.some.inj h
       exact call_wQ (p77 ++ [.nt true, .cl (H_laws_eqValueS a0.L a1.L _ hr7), .nt true]) rfl fd_22 (by kernel_rfl)
      | false =>
       try dsimp only at h
       obtain rfl := Option.some.inj h
       exact call_wQ (p77 ++ [.nt true, .cl (H_laws_eqValueS a0.L a1.L _ hr7), .nt false]) rfl fd_22 (by kernel_rfl)
     | false =>
      try dsimp only at h
      obtain rfl := Option.some.inj h
      exact call_wQ (p77 ++ [.nt false]) rfl fd_22 (by kernel_rfl)
    | false =>
     try dsimp only at h
     obtain rfl := Option.some.inj h
     exact call_wQ (p76 ++ [.nt false]) rfl fd_22 (by kernel_rfl)
   ·obtain rfl := Option.some.inj h
    exact call_wQ [.eT c1, .nt true, .eF c2, .nt false] rfl fd_22 (by kernel_rfl)
  ·obtain rfl := Option.some.inj h
   exact call_wQ [.eF c1, .nt false] rfl fd_22 (by kernel_rfl)
mutual
def U_laws_eqValueS : Nat → (List GValue) → (List GValue) → Option Bool
  | 0, _, _ => none
  | n + 1, a0, a1 => T_laws_eqValueS (U_laws_eqValue n) n a0 a1
def U_laws_eqValue : Nat → GValue → GValue → Option Bool
  | 0, _, _ => none
  | n + 1, a0, a1 => T_laws_eqValue (U_laws_eqValueS n) a0 a1
end
theorem rec_laws_eqValueS (n : Nat) : (∀ (a0 : (List GValue)) (a1 : (List GValue)) (r : Bool), U_laws_eqValueS n a0 a1 = some r → (mach cfg).call 35 [] [.val false [.seq (eL e_GValue a0)], .val false [.seq (eL e_GValue a1)]] = some (.val false [.bool r], [])) ∧ (∀ (a0 : GValue) (a1 : GValue) (r : Bool), U_laws_eqValue n a0 a1 = some r → (mach cfg).call 22 [] [.val true [.int .i64 a0.Kind, .int .i64 a0.N, .seq (eL e_u8 a0.S), .seq (eL (e_sl e_u8) a0.K), .seq (eL e_GValue a0.L)], .val true [.int .i64 a1.Kind, .int .i64 a1.N, .seq (eL e_u8 a1.S), .seq (eL (e_sl e_u8) a1.K), .seq (eL e_GValue a1.L)]] = some (.val false [.bool r], [])) := by
  induction n with
  | zero => exact ⟨fun _ _ _ h => (by rw [U_laws_eqValueS] at h; cases h), fun _ _ _ h => (by rw [U_laws_eqValue] at h; cases h)⟩
  | succ n ih =>
    obtain ⟨ih_laws_eqValueS, ih_laws_eqValue⟩ := ih
    exact ⟨fun a0 a1 r h => g_laws_eqValueS (U_laws_eqValue n) ih_laws_eqValue n a0 a1 r (by rw [U_laws_eqValueS] at h; exact h),
      fun a0 a1 r h => g_laws_eqValue (U_laws_eqValueS n) ih_laws_eqValueS a0 a1 r (by rw [U_laws_eqValue] at h; exact h)⟩
theorem eqValueS_T {G : GValue → GValue → Option Bool} {a : List GValue} {f : Nat} (ha : a.length <= 2 ^ 40) (hf : a.length < f) (hG : ∀ v ∈ a, G v v = some true) : T_laws_eqValueS G f a a = some true := by
  have loop : ∀ (d i m : Nat), i + d = a.length → d < m → ∃ z, L_laws_eqValueS_l0 G a a m (i : Int) = some (.inr z) := by
    intro d
    induction d with
    | zero =>
      intro i m hi hm
      obtain ⟨m, rfl, _⟩ := fuel hm
      exact ⟨_, by rw [L_laws_eqValueS_l0, if_neg (by omega)]⟩
    | succ d ih =>
      intro i m hi hm
      obtain ⟨m, rfl, hm'⟩ := fuel hm
      have hil : i < a.length := by omega
      rw [L_laws_eqValueS_l0, if_pos (by omega), natO_nat, Option.bind_some, get_some hil, Option.bind_some, Option.bind_some, hG _ (List.getElem_mem hil), Option.bind_some, w64_succ (by omega)]
      exact ih (i + 1) m (by omega) (by omega)
  obtain ⟨z, hz⟩ := loop a.length 0 f (by omega) (by omega)
  rw [show ((0 : Nat) : Int) = 0 from rfl] at hz
  unfold T_laws_eqValueS
  rw [if_pos rfl, hz]; rfl
theorem eqValue_U : ∀ (N : Nat) (v : GValue), vsz v < N → vsz v <= 2 ^ 40 → ∀ f : Nat, 2 * vsz v + 3 <= f → U_laws_eqValue f v v = some true := by
  intro N
  induction N with
  | zero => intro v hv; omega
  | succ N ih =>
    intro v hv hs f hf
    obtain ⟨f, rfl, _⟩ := fuel (show 0 < f by omega)
    obtain ⟨f, rfl, _⟩ := fuel (show 0 < f by omega)
    have he := vsz_eq v
    have hl := vszs_len v.L
    rw [U_laws_eqValue]
    unfold T_laws_eqValue S_laws_eqByteS S_laws_eqByteSS
    rw [if_pos rfl, if_pos rfl, if_pos (show v.S = v.S ∧ v.S.length <= 2 ^ 40 from ⟨rfl, by omega⟩), Option.bind_some]
    dsimp only
    rw [if_pos (show v.K = v.K ∧ bsz v.K <= 2 ^ 40 from ⟨rfl, by omega⟩), Option.bind_some]
    dsimp only
    rw [U_laws_eqValueS, eqValueS_T (by omega) (by omega) fun x hx => ?_]
    · rfl
    · have := vszs_mem hx
      exact ih x (by omega) (by omega) f (by omega)
open Classical in
noncomputable def S_laws_eqValueS (a0 : (List GValue)) (a1 : (List GValue)) : Option Bool := if a0 = a1 ∧ vszs a0 <= 2 ^ 40 then some true else none
theorem spec_laws_eqValueS (a0 : (List GValue)) (a1 : (List GValue)) (r : Bool) (h : S_laws_eqValueS a0 a1 = some r) : ∃ n, U_laws_eqValueS n a0 a1 = some r := by
  unfold S_laws_eqValueS at h
  obtain ⟨⟨he, ha⟩, h2⟩ := need_c h
  clear h
  subst he
  have hl := vszs_len a0
  refine ⟨2 * vszs a0 + 5, ?_⟩
  rw [U_laws_eqValueS, eqValueS_T (by omega) (by omega) fun x hx => ?_, h2]
  have := vszs_mem hx
  exact eqValue_U _ x (Nat.lt_succ_self _) (by omega) _ (by omega)
open Classical in
noncomputable def S_laws_eqValue (a0 : GValue) (a1 : GValue) : Option Bool := if a0 = a1 ∧ vsz a0 <= 2 ^ 40 then some true else none
theorem spec_laws_eqValue (a0 : GValue) (a1 : GValue) (r : Bool) (h : S_laws_eqValue a0 a1 = some r) : ∃ n, U_laws_eqValue n a0 a1 = some r := by
  unfold S_laws_eqValue at h
  obtain ⟨⟨he, ha⟩, h2⟩ := need_c h
  clear h
  subst he
  exact ⟨2 * vsz a0 + 3, by rw [<- h2]; exact eqValue_U _ a0 (Nat.lt_succ_self _) ha _ (Nat.le_refl _)⟩
theorem ok_laws_eqValueS (a0 : (List GValue)) (a1 : (List GValue)) (r : Bool) (h : S_laws_eqValueS a0 a1 = some r) : (mach cfg).call 35 [] [.val false [.seq (eL e_GValue a0)], .val false [.seq (eL e_GValue a1)]] = some (.val false [.bool r], []) := by
  obtain ⟨n, hn⟩ := spec_laws_eqValueS a0 a1 r h
  exact (rec_laws_eqValueS n).1 a0 a1 r hn
theorem ok_laws_eqValue (a0 : GValue) (a1 : GValue) (r : Bool) (h : S_laws_eqValue a0 a1 = some r) : (mach cfg).call 22 [] [.val true [.int .i64 a0.Kind, .int .i64 a0.N, .seq (eL e_u8 a0.S), .seq (eL (e_sl e_u8) a0.K), .seq (eL e_GValue a0.L)], .val true [.int .i64 a1.Kind, .int .i64 a1.N, .seq (eL e_u8 a1.S), .seq (eL (e_sl e_u8) a1.K), .seq (eL e_GValue a1.L)]] = some (.val false [.bool r], []) := by
  obtain ⟨n, hn⟩ := spec_laws_eqValue a0 a1 r h
  exact (rec_laws_eqValueS n).2 a0 a1 r hn
def S_laws_eqEvent (a0 : GEvent) (a1 : GEvent) : Option Bool :=
  if a0.Kind = a1.Kind then
    (S_laws_eqByteS a0.Addr a1.Addr).bind fun r2 =>
    match r2 with
    | true =>
      if a0.Act = a1.Act then
        (S_laws_eqValue a0.Val a1.Val).bind fun r5 =>
        match r5 with
        | true =>
          (S_laws_eqByteSS a0.Deps a1.Deps).bind fun r7 =>
          match r7 with
          | true =>
            some true
          | false =>
            some false
        | false =>
          some false
      else
        some false
    | false =>
      some false
  else
    some false
set_option maxRecDepth 100000 in
theorem fd_8 : cfg.funcs 8 = some (bodyOf Tryd.f8, Tryd.f8.ntmps, Tryd.f8.results.toList) := fn_of Tryd.func8 (by kernel_rfl) (by kernel_rfl)
theorem ok_laws_eqEvent (a0 : GEvent) (a1 : GEvent) (r : Bool) (h : S_laws_eqEvent a0 a1 = some r) : (mach cfg).call 8 [] [.val true [.int .i64 a0.Kind, .seq (eL e_u8 a0.Addr), .int .i64 a0.Act, .int .i64 a0.Val.Kind, .int .i64 a0.Val.N, .seq (eL e_u8 a0.Val.S), .seq (eL (e_sl e_u8) a0.Val.K), .seq (eL e_GValue a0.Val.L), .seq (eL (e_sl e_u8) a0.Deps)], .val true [.int .i64 a1.Kind, .seq (eL e_u8 a1.Addr), .int .i64 a1.Act, .int .i64 a1.Val.Kind, .int .i64 a1.Val.N, .seq (eL e_u8 a1.Val.S), .seq (eL (e_sl e_u8) a1.Val.K), .seq (eL e_GValue a1.Val.L), .seq (eL (e_sl e_u8) a1.Deps)]] = some (.val false [.bool r], []) := by
  unfold S_laws_eqEvent at h
  rcases ite_some h with ⟨c1, h⟩ | ⟨c1, h⟩
  ·obtain ⟨r2, hr2, h⟩ := bs h
   cases r2 with
   | true =>
    try dsimp only at h
    rcases ite_some h with ⟨c4, h⟩ | ⟨c4, h⟩
    ·obtain ⟨r5, hr5, h⟩ := bs h
     let p78 : List (Q cfg) := [.eT c1, .nt true, .cl (ok_laws_eqByteS a0.Addr a1.Addr _ hr2), .nt true, .eT c4, .nt true, .cl (ok_laws_eqValue a0.Val a1.Val _ hr5)]
     cases r5 with
     | true =>
      try dsimp only at h
      obtain ⟨r7, hr7, h⟩ := bs h
      cases r7 with
      | true =>
       try dsimp only at h
       obtain rfl := Option.some.inj h
       exact call_wQ (p78 ++ [.nt true, .cl (ok_laws_eqByteSS a0.Deps a1.Deps _ hr7), .nt true]) rfl fd_8 (by kernel_rfl)
      | false =>
       try dsimp only at h
       obtain rfl := Option.some.inj h
       exact call_wQ (p78 ++ [.nt true, .cl (ok_laws_eqByteSS a0.Deps a1.Deps _ hr7), .nt false]) rfl fd_8 (by kernel_rfl)
     | false =>
      try dsimp only at h
      obtain rfl := Option.some.inj h
      exact call_wQ (p78 ++ [.nt false]) rfl fd_8 (by kernel_rfl)
    ·obtain rfl := Option.some.inj h
     exact call_wQ [.eT c1, .nt true, .cl (ok_laws_eqByteS a0.Addr a1.Addr _ hr2), .nt true, .eF c4, .nt false] rfl fd_8 (by kernel_rfl)
   | false =>
    try dsimp only at h
    obtain rfl := Option.some.inj h
    exact call_wQ [.eT c1, .nt true, .cl (ok_laws_eqByteS a0.Addr a1.Addr _ hr2), .nt false] rfl fd_8 (by kernel_rfl)
  ·obtain rfl := Option.some.inj h
   exact call_wQ [.eF c1, .nt false] rfl fd_8 (by kernel_rfl)
def S_laws_FnExactEventOk (a0 : GEvent) : Option Bool :=
  (S_laws_szEvent a0 1048576).bind fun r1 =>
  if r1 < 0 then
    some true
  else
    (S_laws_toEvent a0).bind fun r3 =>
    (S_spec_EventOk r3).bind fun r4 =>
    (S_impl_EventOk r3).bind fun r5 =>
    match r5 with
    | true =>
      match r4 with
      | true =>
        (S_laws_eqEvent r3 r3).bind fun r8 =>
        match r8 with
        | true =>
          some true
        | false =>
          none
      | false =>
        none
    | false =>
      match r4 with
      | true =>
        none
      | false =>
        (S_laws_eqEvent r3 r3).bind fun r8 =>
        match r8 with
        | true =>
          some true
        | false =>
          none
set_option maxRecDepth 100000 in
theorem fd_3 : cfg.funcs 3 = some (bodyOf Tryd.f3, Tryd.f3.ntmps, Tryd.f3.results.toList) := fn_of Tryd.func3 (by kernel_rfl) (by kernel_rfl)
theorem ok_laws_FnExactEventOk (a0 : GEvent) (r : Bool) (h : S_laws_FnExactEventOk a0 = some r) : (mach cfg).call 3 [] [.val true [.int .i64 a0.Kind, .seq (eL e_u8 a0.Addr), .int .i64 a0.Act, .int .i64 a0.Val.Kind, .int .i64 a0.Val.N, .seq (eL e_u8 a0.Val.S), .seq (eL (e_sl e_u8) a0.Val.K), .seq (eL e_GValue a0.Val.L), .seq (eL (e_sl e_u8) a0.Deps)]] = some (.val false [.bool r], []) := by
  unfold S_laws_FnExactEventOk at h
  obtain ⟨r1, hr1, h⟩ := bs h
  let p79 : List (Q cfg) := [.cl (ok_laws_szEvent a0 1048576 _ hr1)]
  rcases ite_some h with ⟨c2, h⟩ | ⟨c2, h⟩
  ·obtain rfl := Option.some.inj h
   exact call_wQ (p79 ++ [.lT c2]) rfl fd_3 (by kernel_rfl)
  ·obtain ⟨r3, hr3, h⟩ := bs h
   obtain ⟨r4, hr4, h⟩ := bs h
   obtain ⟨r5, hr5, h⟩ := bs h
   let p80 : List (Q cfg) := p79 ++ [.lF c2, .cl (ok_laws_toEvent a0 _ hr3), ⟨.view (eL e_u8 r3.Addr), .l (eL e_u8 r3.Addr), (A.view E_u8)⟩, ⟨.view (eL e_u8 r3.Val.S), .l (eL e_u8 r3.Val.S), (A.view E_u8)⟩, ⟨.view (eL (o_sl 1 e_u8) r3.Val.K), .l (eL (e_sl e_u8) r3.Val.K), (A.viewO (O_sl 1 O_u8))⟩, ⟨.view (eL o_GValue r3.Val.L), .l (eL e_GValue r3.Val.L), (A.viewO O_GValue)⟩, ⟨.view (eL (o_sl 1 e_u8) r3.Deps), .l (eL (e_sl e_u8) r3.Deps), (A.viewO (O_sl 1 O_u8))⟩, .cl (ok_spec_EventOk r3 _ hr4), .cl (ok_laws_toEvent a0 _ hr3), ⟨.view (eL e_u8 r3.Addr), .l (eL e_u8 r3.Addr), (A.view E_u8)⟩, ⟨.view (eL e_u8 r3.Val.S), .l (eL e_u8 r3.Val.S), (A.view E_u8)⟩, ⟨.view (eL (o_sl 1 e_u8) r3.Val.K), .l (eL (e_sl e_u8) r3.Val.K), (A.viewO (O_sl 1 O_u8))⟩, ⟨.view (eL o_GValue r3.Val.L), .l (eL e_GValue r3.Val.L), (A.viewO O_GValue)⟩, ⟨.view (eL (o_sl 1 e_u8) r3.Deps), .l (eL (e_sl e_u8) r3.Deps), (A.viewO (O_sl 1 O_u8))⟩, .cl (ok_impl_EventOk r3 _ hr5)]
   cases r5 with
   | true =>
    try dsimp only at h
    cases r4 with
    | true =>
     try dsimp only at h
     obtain ⟨r8, hr8, h⟩ := bs h
     cases r8 with
     | true =>
      try dsimp only at h
      obtain rfl := Option.some.inj h
      exact call_wQ (p80 ++ [⟨.eqB true true, .b true, rfl⟩, .nt true, .cl (ok_laws_toEvent a0 _ hr3), ⟨.view (eL e_u8 r3.Addr), .l (eL e_u8 r3.Addr), (A.view E_u8)⟩, ⟨.view (eL e_u8 r3.Val.S), .l (eL e_u8 r3.Val.S), (A.view E_u8)⟩, ⟨.view (eL (o_sl 1 e_u8) r3.Val.K), .l (eL (e_sl e_u8) r3.Val.K), (A.viewO (O_sl 1 O_u8))⟩, ⟨.view (eL o_GValue r3.Val.L), .l (eL e_GValue r3.Val.L), (A.viewO O_GValue)⟩, ⟨.view (eL (o_sl 1 e_u8) r3.Deps), .l (eL (e_sl e_u8) r3.Deps), (A.viewO (O_sl 1 O_u8))⟩, ⟨.view (eL e_u8 r3.Addr), .l (eL e_u8 r3.Addr), (A.view E_u8)⟩, ⟨.view (eL e_u8 r3.Val.S), .l (eL e_u8 r3.Val.S), (A.view E_u8)⟩, ⟨.view (eL (o_sl 1 e_u8) r3.Val.K), .l (eL (e_sl e_u8) r3.Val.K), (A.viewO (O_sl 1 O_u8))⟩, ⟨.view (eL o_GValue r3.Val.L), .l (eL e_GValue r3.Val.L), (A.viewO O_GValue)⟩, ⟨.view (eL (o_sl 1 e_u8) r3.Deps), .l (eL (e_sl e_u8) r3.Deps), (A.viewO (O_sl 1 O_u8))⟩, .cl (ok_laws_eqEvent r3 r3 _ hr8), .nt true]) rfl fd_3 (by kernel_rfl)
     | false =>
      try dsimp only at h
      cases h
    | false =>
     try dsimp only at h
     cases h
   | false =>
    try dsimp only at h
    cases r4 with
    | true =>
     try dsimp only at h
     cases h
    | false =>
     try dsimp only at h
     obtain ⟨r8, hr8, h⟩ := bs h
     cases r8 with
     | true =>
      try dsimp only at h
      obtain rfl := Option.some.inj h
      exact call_wQ (p80 ++ [⟨.eqB false false, .b true, rfl⟩, .nt true, .cl (ok_laws_toEvent a0 _ hr3), ⟨.view (eL e_u8 r3.Addr), .l (eL e_u8 r3.Addr), (A.view E_u8)⟩, ⟨.view (eL e_u8 r3.Val.S), .l (eL e_u8 r3.Val.S), (A.view E_u8)⟩, ⟨.view (eL (o_sl 1 e_u8) r3.Val.K), .l (eL (e_sl e_u8) r3.Val.K), (A.viewO (O_sl 1 O_u8))⟩, ⟨.view (eL o_GValue r3.Val.L), .l (eL e_GValue r3.Val.L), (A.viewO O_GValue)⟩, ⟨.view (eL (o_sl 1 e_u8) r3.Deps), .l (eL (e_sl e_u8) r3.Deps), (A.viewO (O_sl 1 O_u8))⟩, ⟨.view (eL e_u8 r3.Addr), .l (eL e_u8 r3.Addr), (A.view E_u8)⟩, ⟨.view (eL e_u8 r3.Val.S), .l (eL e_u8 r3.Val.S), (A.view E_u8)⟩, ⟨.view (eL (o_sl 1 e_u8) r3.Val.K), .l (eL (e_sl e_u8) r3.Val.K), (A.viewO (O_sl 1 O_u8))⟩, ⟨.view (eL o_GValue r3.Val.L), .l (eL e_GValue r3.Val.L), (A.viewO O_GValue)⟩, ⟨.view (eL (o_sl 1 e_u8) r3.Deps), .l (eL (e_sl e_u8) r3.Deps), (A.viewO (O_sl 1 O_u8))⟩, .cl (ok_laws_eqEvent r3 r3 _ hr8), .nt true]) rfl fd_3 (by kernel_rfl)
     | false =>
      try dsimp only at h
      cases h
end
end Go.Am.Try
