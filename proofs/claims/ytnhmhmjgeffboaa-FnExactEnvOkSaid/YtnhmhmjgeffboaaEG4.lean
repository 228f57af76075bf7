/- The functions of the program in plain Lean, and that the machine answers as they do; conditions at each theorem. -/
import Derived.Test.YtnhmhmjgeffboaaEG3
set_option linter.unusedVariables false
set_option linter.unusedSimpArgs false
namespace Go.Am.Try
open Go.Am Go.Proofs
set_option linter.unusedVariables false
set_option maxRecDepth 20000
set_option maxHeartbeats 2000000
noncomputable section
def L_laws_eqByteSS_l0 (a0 : (List (List UInt8))) (a1 : (List (List UInt8))) : Nat → Int → Option (Bool ⊕ Int)
  | 0, _ => none
  | m + 1, v2 =>
    if v2 < ((a0.length : Nat) : Int) then
      (natO v2).bind fun i2 =>
      (a0[i2]?).bind fun x3 =>
      (a1[i2]?).bind fun x4 =>
      (S_laws_eqByteS x3 x4).bind fun r5 =>
      match r5 with
      | true =>
        L_laws_eqByteSS_l0 a0 a1 m (w64 (v2 + 1))
      | false =>
        some (.inl false)
    else
      some (.inr v2)

theorem gl_laws_eqByteSS_l0 (a0 : (List (List UInt8))) (a1 : (List (List UInt8))) (m : Nat) : ∀ (v2 : Int) (o : (Bool ⊕ Int)), L_laws_eqByteSS_l0 a0 a1 m v2 = some o → (mach cfg).loop 55 (loopB Try.f55 0) ⟨[(0, .val false [.seq (eL (e_sl e_u8) a0)]), (1, .val false [.seq (eL (e_sl e_u8) a1)]), (5, .val false [.int .i64 v2])], [], 0⟩ = some (match o with | .inl o_0 => (.ret, (⟨[(4, .val false [.bool o_0])], [], 0⟩ : S)) | .inr (o_1) => (.exit 0, (⟨[(0, .val false [.seq (eL (e_sl e_u8) a0)]), (1, .val false [.seq (eL (e_sl e_u8) a1)]), (5, .val false [.int .i64 o_1]), (14, .val false [.bool false])], [], 0⟩ : S))) := by
  induction m with
  | zero => intro v2 o h; cases h
  | succ m ih =>
    intro v2 o h
    rw [L_laws_eqByteSS_l0] at h
    by_cases c1 : v2 < ((a0.length : Nat) : Int)
    · rw [if_pos c1] at h
      obtain ⟨i2, hi2, h⟩ := Option.bind_eq_some_iff.1 h
      obtain ⟨x3, hx3, h⟩ := Option.bind_eq_some_iff.1 h
      obtain ⟨x4, hx4, h⟩ := Option.bind_eq_some_iff.1 h
      obtain ⟨r5, hr5, h⟩ := Option.bind_eq_some_iff.1 h
      cases r5 with
      | true =>
        try dsimp only at h
        exact loop_on cfg [(.len (eL (e_sl e_u8) a0), .i ((a0.length : Nat) : Int)), (.ltI v2 ((a0.length : Nat) : Int), .b true), (.nat v2, .n i2), (.idx (eL (e_sl e_u8) a0) i2, .e [.seq (eL e_u8 x3)]), (.nat v2, .n i2), (.idx (eL (e_sl e_u8) a1) i2, .e [.seq (eL e_u8 x4)]), (.call 54 [] [.val false [.seq (eL e_u8 x3)], .val false [.seq (eL e_u8 x4)]], .r (.val false [.bool true]) []), (.notB true, .b false), (.add .i64 v2 1, .i (w64 (v2 + 1)))] (by kernel_rfl) ⟨A.len, (A.ltI_t c1), (A.nat hi2), (A.idx hx3 rfl), (A.nat hi2), (A.idx hx4 rfl), (A.call (ok_laws_eqByteS x3 x4 _ hr5)), rfl, rfl, trivial⟩ (ih (w64 (v2 + 1)) o h)
      | false =>
        try dsimp only at h
        obtain rfl := Option.some.inj h
        exact loop_end cfg [(.len (eL (e_sl e_u8) a0), .i ((a0.length : Nat) : Int)), (.ltI v2 ((a0.length : Nat) : Int), .b true), (.nat v2, .n i2), (.idx (eL (e_sl e_u8) a0) i2, .e [.seq (eL e_u8 x3)]), (.nat v2, .n i2), (.idx (eL (e_sl e_u8) a1) i2, .e [.seq (eL e_u8 x4)]), (.call 54 [] [.val false [.seq (eL e_u8 x3)], .val false [.seq (eL e_u8 x4)]], .r (.val false [.bool false]) []), (.notB false, .b true)] (by kernel_rfl) ⟨A.len, (A.ltI_t c1), (A.nat hi2), (A.idx hx3 rfl), (A.nat hi2), (A.idx hx4 rfl), (A.call (ok_laws_eqByteS x3 x4 _ hr5)), rfl, trivial⟩ (by intro h; cases h)
    · rw [if_neg c1] at h
      obtain rfl := Option.some.inj h
      exact loop_end cfg [(.len (eL (e_sl e_u8) a0), .i ((a0.length : Nat) : Int)), (.ltI v2 ((a0.length : Nat) : Int), .b false)] (by kernel_rfl) ⟨A.len, (A.ltI_f c1), trivial⟩ (by intro h; cases h)

def T_laws_eqByteSS (n : Nat) (a0 : (List (List UInt8))) (a1 : (List (List UInt8))) : Option Bool :=
  if ((a0.length : Nat) : Int) = ((a1.length : Nat) : Int) then
    (L_laws_eqByteSS_l0 a0 a1 n 0).bind fun o2 =>
    match o2 with
    | .inl o2_0 =>
      some o2_0
    | .inr (o2_1) =>
      some true
  else
    some false

set_option maxRecDepth 100000 in
theorem fd_55 : cfg.funcs 55 = some (bodyOf Try.f55, Try.f55.ntmps, Try.f55.results.toList) := fn_of Try.func55 (by kernel_rfl) (by kernel_rfl)
theorem g_laws_eqByteSS (n : Nat) (a0 : (List (List UInt8))) (a1 : (List (List UInt8))) (r : Bool) (h : T_laws_eqByteSS n a0 a1 = some r) : (mach cfg).call 55 [] [.val false [.seq (eL (e_sl e_u8) a0)], .val false [.seq (eL (e_sl e_u8) a1)]] = some (.val false [.bool r], []) := by
  unfold T_laws_eqByteSS at h
  by_cases c1 : ((a0.length : Nat) : Int) = ((a1.length : Nat) : Int)
  · rw [if_pos c1] at h
    obtain ⟨o2, ho2, h⟩ := Option.bind_eq_some_iff.1 h
    rcases o2 with o2_0 | o2_1
    · try dsimp only at h
      obtain rfl := Option.some.inj h
      exact call_way cfg [(.len (eL (e_sl e_u8) a0), .i ((a0.length : Nat) : Int)), (.len (eL (e_sl e_u8) a1), .i ((a1.length : Nat) : Int)), (.eqI ((a0.length : Nat) : Int) ((a1.length : Nat) : Int), .b true), (.notB true, .b false), (.loop 55 (loopB Try.f55 0) ⟨[(0, .val false [.seq (eL (e_sl e_u8) a0)]), (1, .val false [.seq (eL (e_sl e_u8) a1)]), (5, .val false [.int .i64 0])], [], 0⟩, .x (.ret) ⟨[(4, .val false [.bool o2_0])], [], 0⟩)] rfl fd_55 (by kernel_rfl) ⟨A.len, A.len, (A.eqI_t c1), rfl, (A.loop (gl_laws_eqByteSS_l0 a0 a1 _ 0 _ ho2)), trivial⟩
    · try dsimp only at h
      obtain rfl := Option.some.inj h
      exact call_way cfg [(.len (eL (e_sl e_u8) a0), .i ((a0.length : Nat) : Int)), (.len (eL (e_sl e_u8) a1), .i ((a1.length : Nat) : Int)), (.eqI ((a0.length : Nat) : Int) ((a1.length : Nat) : Int), .b true), (.notB true, .b false), (.loop 55 (loopB Try.f55 0) ⟨[(0, .val false [.seq (eL (e_sl e_u8) a0)]), (1, .val false [.seq (eL (e_sl e_u8) a1)]), (5, .val false [.int .i64 0])], [], 0⟩, .x (.exit 0) ⟨[(0, .val false [.seq (eL (e_sl e_u8) a0)]), (1, .val false [.seq (eL (e_sl e_u8) a1)]), (5, .val false [.int .i64 o2_1]), (14, .val false [.bool false])], [], 0⟩)] rfl fd_55 (by kernel_rfl) ⟨A.len, A.len, (A.eqI_t c1), rfl, (A.loop (gl_laws_eqByteSS_l0 a0 a1 _ 0 _ ho2)), trivial⟩
  · rw [if_neg c1] at h
    obtain rfl := Option.some.inj h
    exact call_way cfg [(.len (eL (e_sl e_u8) a0), .i ((a0.length : Nat) : Int)), (.len (eL (e_sl e_u8) a1), .i ((a1.length : Nat) : Int)), (.eqI ((a0.length : Nat) : Int) ((a1.length : Nat) : Int), .b false), (.notB false, .b true)] rfl fd_55 (by kernel_rfl) ⟨A.len, A.len, (A.eqI_f c1), rfl, trivial⟩

theorem eqByteSS_loop {a : List (List UInt8)} (ha : bsz a ≤ 2 ^ 20) : ∀ (d i m : Nat), i + d = a.length → d < m → ∃ z, L_laws_eqByteSS_l0 a a m (i : Int) = some (.inr z) := by
  have hl := bsz_len a
  intro d
  induction d with
  | zero =>
    intro i m hi hm
    obtain ⟨m, rfl, _⟩ := fuel hm
    exact ⟨_, by rw [L_laws_eqByteSS_l0, if_neg (by omega)]⟩
  | succ d ih =>
    intro i m hi hm
    obtain ⟨m, rfl, hm'⟩ := fuel hm
    have hil : i < a.length := by omega
    have hx := bsz_mem (List.getElem_mem hil)
    rw [L_laws_eqByteSS_l0, if_pos (by omega), natO_nat, Option.bind_some, get_some hil, Option.bind_some, Option.bind_some]
    unfold S_laws_eqByteS
    rw [if_pos ⟨rfl, by omega⟩, Option.bind_some, w64_succ (by omega)]
    exact ih (i + 1) m (by omega) (by omega)
def S_laws_eqByteSS (a0 : (List (List UInt8))) (a1 : (List (List UInt8))) : Option Bool := if a0 = a1 ∧ bsz a0 ≤ 2 ^ 20 then some true else none
theorem spec_laws_eqByteSS (a0 : (List (List UInt8))) (a1 : (List (List UInt8))) (r : Bool) (h : S_laws_eqByteSS a0 a1 = some r) : ∃ n, T_laws_eqByteSS n a0 a1 = some r := by
  unfold S_laws_eqByteSS at h
  obtain ⟨⟨he, ha⟩, h2⟩ := need_c h
  clear h
  subst he
  have hl := bsz_len a0
  refine ⟨a0.length + 1, ?_⟩
  obtain ⟨z, hz⟩ := eqByteSS_loop ha a0.length 0 (a0.length + 1) (by omega) (by omega)
  rw [show ((0 : Nat) : Int) = 0 from rfl] at hz
  unfold T_laws_eqByteSS
  rw [if_pos rfl, hz]; exact h2
theorem ok_laws_eqByteSS (a0 : (List (List UInt8))) (a1 : (List (List UInt8))) (r : Bool) (h : S_laws_eqByteSS a0 a1 = some r) : (mach cfg).call 55 [] [.val false [.seq (eL (e_sl e_u8) a0)], .val false [.seq (eL (e_sl e_u8) a1)]] = some (.val false [.bool r], []) := by
  obtain ⟨n, hn⟩ := spec_laws_eqByteSS a0 a1 r h
  exact g_laws_eqByteSS n a0 a1 r hn
def L_laws_eqValueS_l0 (G_laws_eqValue : GValue → GValue → Option Bool) (a0 : (List GValue)) (a1 : (List GValue)) : Nat → Int → Option (Bool ⊕ Int)
  | 0, _ => none
  | m + 1, v2 =>
    if v2 < ((a0.length : Nat) : Int) then
      (natO v2).bind fun i2 =>
      (a0[i2]?).bind fun x3 =>
      (a1[i2]?).bind fun x4 =>
      (G_laws_eqValue x3 x4).bind fun r5 =>
      match r5 with
      | true =>
        L_laws_eqValueS_l0 G_laws_eqValue a0 a1 m (w64 (v2 + 1))
      | false =>
        some (.inl false)
    else
      some (.inr v2)

theorem gl_laws_eqValueS_l0 (G_laws_eqValue : GValue → GValue → Option Bool) (H_laws_eqValue : ∀ (a0 : GValue) (a1 : GValue) (r : Bool), G_laws_eqValue a0 a1 = some r → (mach cfg).call 43 [] [.val true [.int .i64 a0.Kind, .int .i64 a0.N, .seq (eL e_u8 a0.S), .seq (eL (e_sl e_u8) a0.K), .seq (eL e_GValue a0.L)], .val true [.int .i64 a1.Kind, .int .i64 a1.N, .seq (eL e_u8 a1.S), .seq (eL (e_sl e_u8) a1.K), .seq (eL e_GValue a1.L)]] = some (.val false [.bool r], [])) (a0 : (List GValue)) (a1 : (List GValue)) (m : Nat) : ∀ (v2 : Int) (o : (Bool ⊕ Int)), L_laws_eqValueS_l0 G_laws_eqValue a0 a1 m v2 = some o → (mach cfg).loop 77 (loopB Try.f77 0) ⟨[(0, .val false [.seq (eL e_GValue a0)]), (1, .val false [.seq (eL e_GValue a1)]), (5, .val false [.int .i64 v2])], [], 0⟩ = some (match o with | .inl o_0 => (.ret, (⟨[(4, .val false [.bool o_0])], [], 0⟩ : S)) | .inr (o_1) => (.exit 0, (⟨[(0, .val false [.seq (eL e_GValue a0)]), (1, .val false [.seq (eL e_GValue a1)]), (5, .val false [.int .i64 o_1]), (14, .val false [.bool false])], [], 0⟩ : S))) := by
  induction m with
  | zero => intro v2 o h; cases h
  | succ m ih =>
    intro v2 o h
    rw [L_laws_eqValueS_l0] at h
    by_cases c1 : v2 < ((a0.length : Nat) : Int)
    · rw [if_pos c1] at h
      obtain ⟨i2, hi2, h⟩ := Option.bind_eq_some_iff.1 h
      obtain ⟨x3, hx3, h⟩ := Option.bind_eq_some_iff.1 h
      obtain ⟨x4, hx4, h⟩ := Option.bind_eq_some_iff.1 h
      obtain ⟨r5, hr5, h⟩ := Option.bind_eq_some_iff.1 h
      cases r5 with
      | true =>
        try dsimp only at h
        exact loop_on cfg [(.len (eL e_GValue a0), .i ((a0.length : Nat) : Int)), (.ltI v2 ((a0.length : Nat) : Int), .b true), (.nat v2, .n i2), (.idx (eL e_GValue a0) i2, .e [.int .i64 x3.Kind, .int .i64 x3.N, .seq (eL e_u8 x3.S), .seq (eL (e_sl e_u8) x3.K), .seq (eL e_GValue x3.L)]), (.nat v2, .n i2), (.idx (eL e_GValue a1) i2, .e [.int .i64 x4.Kind, .int .i64 x4.N, .seq (eL e_u8 x4.S), .seq (eL (e_sl e_u8) x4.K), .seq (eL e_GValue x4.L)]), (.call 43 [] [.val true [.int .i64 x3.Kind, .int .i64 x3.N, .seq (eL e_u8 x3.S), .seq (eL (e_sl e_u8) x3.K), .seq (eL e_GValue x3.L)], .val true [.int .i64 x4.Kind, .int .i64 x4.N, .seq (eL e_u8 x4.S), .seq (eL (e_sl e_u8) x4.K), .seq (eL e_GValue x4.L)]], .r (.val false [.bool true]) []), (.notB true, .b false), (.add .i64 v2 1, .i (w64 (v2 + 1)))] (by kernel_rfl) ⟨A.len, (A.ltI_t c1), (A.nat hi2), (A.idx hx3 (eq_GValue x3)), (A.nat hi2), (A.idx hx4 (eq_GValue x4)), (A.call (H_laws_eqValue x3 x4 _ hr5)), rfl, rfl, trivial⟩ (ih (w64 (v2 + 1)) o h)
      | false =>
        try dsimp only at h
        obtain rfl := Option.some.inj h
        exact loop_end cfg [(.len (eL e_GValue a0), .i ((a0.length : Nat) : Int)), (.ltI v2 ((a0.length : Nat) : Int), .b true), (.nat v2, .n i2), (.idx (eL e_GValue a0) i2, .e [.int .i64 x3.Kind, .int .i64 x3.N, .seq (eL e_u8 x3.S), .seq (eL (e_sl e_u8) x3.K), .seq (eL e_GValue x3.L)]), (.nat v2, .n i2), (.idx (eL e_GValue a1) i2, .e [.int .i64 x4.Kind, .int .i64 x4.N, .seq (eL e_u8 x4.S), .seq (eL (e_sl e_u8) x4.K), .seq (eL e_GValue x4.L)]), (.call 43 [] [.val true [.int .i64 x3.Kind, .int .i64 x3.N, .seq (eL e_u8 x3.S), .seq (eL (e_sl e_u8) x3.K), .seq (eL e_GValue x3.L)], .val true [.int .i64 x4.Kind, .int .i64 x4.N, .seq (eL e_u8 x4.S), .seq (eL (e_sl e_u8) x4.K), .seq (eL e_GValue x4.L)]], .r (.val false [.bool false]) []), (.notB false, .b true)] (by kernel_rfl) ⟨A.len, (A.ltI_t c1), (A.nat hi2), (A.idx hx3 (eq_GValue x3)), (A.nat hi2), (A.idx hx4 (eq_GValue x4)), (A.call (H_laws_eqValue x3 x4 _ hr5)), rfl, trivial⟩ (by intro h; cases h)
    · rw [if_neg c1] at h
      obtain rfl := Option.some.inj h
      exact loop_end cfg [(.len (eL e_GValue a0), .i ((a0.length : Nat) : Int)), (.ltI v2 ((a0.length : Nat) : Int), .b false)] (by kernel_rfl) ⟨A.len, (A.ltI_f c1), trivial⟩ (by intro h; cases h)

def T_laws_eqValueS (G_laws_eqValue : GValue → GValue → Option Bool) (n : Nat) (a0 : (List GValue)) (a1 : (List GValue)) : Option Bool :=
  if ((a0.length : Nat) : Int) = ((a1.length : Nat) : Int) then
    (L_laws_eqValueS_l0 G_laws_eqValue a0 a1 n 0).bind fun o2 =>
    match o2 with
    | .inl o2_0 =>
      some o2_0
    | .inr (o2_1) =>
      some true
  else
    some false

set_option maxRecDepth 100000 in
theorem fd_77 : cfg.funcs 77 = some (bodyOf Try.f77, Try.f77.ntmps, Try.f77.results.toList) := fn_of Try.func77 (by kernel_rfl) (by kernel_rfl)
theorem g_laws_eqValueS (G_laws_eqValue : GValue → GValue → Option Bool) (H_laws_eqValue : ∀ (a0 : GValue) (a1 : GValue) (r : Bool), G_laws_eqValue a0 a1 = some r → (mach cfg).call 43 [] [.val true [.int .i64 a0.Kind, .int .i64 a0.N, .seq (eL e_u8 a0.S), .seq (eL (e_sl e_u8) a0.K), .seq (eL e_GValue a0.L)], .val true [.int .i64 a1.Kind, .int .i64 a1.N, .seq (eL e_u8 a1.S), .seq (eL (e_sl e_u8) a1.K), .seq (eL e_GValue a1.L)]] = some (.val false [.bool r], [])) (n : Nat) (a0 : (List GValue)) (a1 : (List GValue)) (r : Bool) (h : T_laws_eqValueS G_laws_eqValue n a0 a1 = some r) : (mach cfg).call 77 [] [.val false [.seq (eL e_GValue a0)], .val false [.seq (eL e_GValue a1)]] = some (.val false [.bool r], []) := by
  unfold T_laws_eqValueS at h
  by_cases c1 : ((a0.length : Nat) : Int) = ((a1.length : Nat) : Int)
  · rw [if_pos c1] at h
    obtain ⟨o2, ho2, h⟩ := Option.bind_eq_some_iff.1 h
    rcases o2 with o2_0 | o2_1
    · try dsimp only at h
      obtain rfl := Option.some.inj h
      exact call_way cfg [(.len (eL e_GValue a0), .i ((a0.length : Nat) : Int)), (.len (eL e_GValue a1), .i ((a1.length : Nat) : Int)), (.eqI ((a0.length : Nat) : Int) ((a1.length : Nat) : Int), .b true), (.notB true, .b false), (.loop 77 (loopB Try.f77 0) ⟨[(0, .val false [.seq (eL e_GValue a0)]), (1, .val false [.seq (eL e_GValue a1)]), (5, .val false [.int .i64 0])], [], 0⟩, .x (.ret) ⟨[(4, .val false [.bool o2_0])], [], 0⟩)] rfl fd_77 (by kernel_rfl) ⟨A.len, A.len, (A.eqI_t c1), rfl, (A.loop (gl_laws_eqValueS_l0 G_laws_eqValue H_laws_eqValue a0 a1 _ 0 _ ho2)), trivial⟩
    · try dsimp only at h
      obtain rfl := Option.some.inj h
      exact call_way cfg [(.len (eL e_GValue a0), .i ((a0.length : Nat) : Int)), (.len (eL e_GValue a1), .i ((a1.length : Nat) : Int)), (.eqI ((a0.length : Nat) : Int) ((a1.length : Nat) : Int), .b true), (.notB true, .b false), (.loop 77 (loopB Try.f77 0) ⟨[(0, .val false [.seq (eL e_GValue a0)]), (1, .val false [.seq (eL e_GValue a1)]), (5, .val false [.int .i64 0])], [], 0⟩, .x (.exit 0) ⟨[(0, .val false [.seq (eL e_GValue a0)]), (1, .val false [.seq (eL e_GValue a1)]), (5, .val false [.int .i64 o2_1]), (14, .val false [.bool false])], [], 0⟩)] rfl fd_77 (by kernel_rfl) ⟨A.len, A.len, (A.eqI_t c1), rfl, (A.loop (gl_laws_eqValueS_l0 G_laws_eqValue H_laws_eqValue a0 a1 _ 0 _ ho2)), trivial⟩
  · rw [if_neg c1] at h
    obtain rfl := Option.some.inj h
    exact call_way cfg [(.len (eL e_GValue a0), .i ((a0.length : Nat) : Int)), (.len (eL e_GValue a1), .i ((a1.length : Nat) : Int)), (.eqI ((a0.length : Nat) : Int) ((a1.length : Nat) : Int), .b false), (.notB false, .b true)] rfl fd_77 (by kernel_rfl) ⟨A.len, A.len, (A.eqI_f c1), rfl, trivial⟩

def T_laws_eqValue (G_laws_eqValueS : (List GValue) → (List GValue) → Option Bool) (a0 : GValue) (a1 : GValue) : Option Bool :=
  if a0.Kind = a1.Kind then
    if a0.N = a1.N then
      (S_laws_eqByteS a0.S a1.S).bind fun r3 =>
      match r3 with
      | true =>
        (S_laws_eqByteSS a0.K a1.K).bind fun r5 =>
        match r5 with
        | true =>
          (G_laws_eqValueS a0.L a1.L).bind fun r7 =>
          match r7 with
          | true =>
            some true
          | false =>
            some false
        | false =>
          some false
      | false =>
        some false
    else
      some false
  else
    some false

set_option maxRecDepth 100000 in
theorem fd_43 : cfg.funcs 43 = some (bodyOf Try.f43, Try.f43.ntmps, Try.f43.results.toList) := fn_of Try.func43 (by kernel_rfl) (by kernel_rfl)
theorem g_laws_eqValue (G_laws_eqValueS : (List GValue) → (List GValue) → Option Bool) (H_laws_eqValueS : ∀ (a0 : (List GValue)) (a1 : (List GValue)) (r : Bool), G_laws_eqValueS a0 a1 = some r → (mach cfg).call 77 [] [.val false [.seq (eL e_GValue a0)], .val false [.seq (eL e_GValue a1)]] = some (.val false [.bool r], [])) (a0 : GValue) (a1 : GValue) (r : Bool) (h : T_laws_eqValue G_laws_eqValueS a0 a1 = some r) : (mach cfg).call 43 [] [.val true [.int .i64 a0.Kind, .int .i64 a0.N, .seq (eL e_u8 a0.S), .seq (eL (e_sl e_u8) a0.K), .seq (eL e_GValue a0.L)], .val true [.int .i64 a1.Kind, .int .i64 a1.N, .seq (eL e_u8 a1.S), .seq (eL (e_sl e_u8) a1.K), .seq (eL e_GValue a1.L)]] = some (.val false [.bool r], []) := by
  unfold T_laws_eqValue at h
  by_cases c1 : a0.Kind = a1.Kind
  · rw [if_pos c1] at h
    by_cases c2 : a0.N = a1.N
    · rw [if_pos c2] at h
      obtain ⟨r3, hr3, h⟩ := Option.bind_eq_some_iff.1 h
      cases r3 with
      | true =>
        try dsimp only at h
        obtain ⟨r5, hr5, h⟩ := Option.bind_eq_some_iff.1 h
        cases r5 with
        | true =>
          try dsimp only at h
          obtain ⟨r7, hr7, h⟩ := Option.bind_eq_some_iff.1 h
          cases r7 with
          | true =>
            try dsimp only at h
            obtain rfl := Option.some.inj h
            exact call_way cfg [(.eqI a0.Kind a1.Kind, .b true), (.notB true, .b false), (.eqI a0.N a1.N, .b true), (.notB true, .b false), (.call 54 [] [.val false [.seq (eL e_u8 a0.S)], .val false [.seq (eL e_u8 a1.S)]], .r (.val false [.bool true]) []), (.notB true, .b false), (.call 55 [] [.val false [.seq (eL (e_sl e_u8) a0.K)], .val false [.seq (eL (e_sl e_u8) a1.K)]], .r (.val false [.bool true]) []), (.notB true, .b false), (.call 77 [] [.val false [.seq (eL e_GValue a0.L)], .val false [.seq (eL e_GValue a1.L)]], .r (.val false [.bool true]) []), (.notB true, .b false)] rfl fd_43 (by kernel_rfl) ⟨(A.eqI_t c1), rfl, (A.eqI_t c2), rfl, (A.call (ok_laws_eqByteS a0.S a1.S _ hr3)), rfl, (A.call (ok_laws_eqByteSS a0.K a1.K _ hr5)), rfl, (A.call (H_laws_eqValueS a0.L a1.L _ hr7)), rfl, trivial⟩
          | false =>
            try dsimp only at h
            obtain rfl := Option.some.inj h
            exact call_way cfg [(.eqI a0.Kind a1.Kind, .b true), (.notB true, .b false), (.eqI a0.N a1.N, .b true), (.notB true, .b false), (.call 54 [] [.val false [.seq (eL e_u8 a0.S)], .val false [.seq (eL e_u8 a1.S)]], .r (.val false [.bool true]) []), (.notB true, .b false), (.call 55 [] [.val false [.seq (eL (e_sl e_u8) a0.K)], .val false [.seq (eL (e_sl e_u8) a1.K)]], .r (.val false [.bool true]) []), (.notB true, .b false), (.call 77 [] [.val false [.seq (eL e_GValue a0.L)], .val false [.seq (eL e_GValue a1.L)]], .r (.val false [.bool false]) []), (.notB false, .b true)] rfl fd_43 (by kernel_rfl) ⟨(A.eqI_t c1), rfl, (A.eqI_t c2), rfl, (A.call (ok_laws_eqByteS a0.S a1.S _ hr3)), rfl, (A.call (ok_laws_eqByteSS a0.K a1.K _ hr5)), rfl, (A.call (H_laws_eqValueS a0.L a1.L _ hr7)), rfl, trivial⟩
        | false =>
          try dsimp only at h
          obtain rfl := Option.some.inj h
          exact call_way cfg [(.eqI a0.Kind a1.Kind, .b true), (.notB true, .b false), (.eqI a0.N a1.N, .b true), (.notB true, .b false), (.call 54 [] [.val false [.seq (eL e_u8 a0.S)], .val false [.seq (eL e_u8 a1.S)]], .r (.val false [.bool true]) []), (.notB true, .b false), (.call 55 [] [.val false [.seq (eL (e_sl e_u8) a0.K)], .val false [.seq (eL (e_sl e_u8) a1.K)]], .r (.val false [.bool false]) []), (.notB false, .b true)] rfl fd_43 (by kernel_rfl) ⟨(A.eqI_t c1), rfl, (A.eqI_t c2), rfl, (A.call (ok_laws_eqByteS a0.S a1.S _ hr3)), rfl, (A.call (ok_laws_eqByteSS a0.K a1.K _ hr5)), rfl, trivial⟩
      | false =>
        try dsimp only at h
        obtain rfl := Option.some.inj h
        exact call_way cfg [(.eqI a0.Kind a1.Kind, .b true), (.notB true, .b false), (.eqI a0.N a1.N, .b true), (.notB true, .b false), (.call 54 [] [.val false [.seq (eL e_u8 a0.S)], .val false [.seq (eL e_u8 a1.S)]], .r (.val false [.bool false]) []), (.notB false, .b true)] rfl fd_43 (by kernel_rfl) ⟨(A.eqI_t c1), rfl, (A.eqI_t c2), rfl, (A.call (ok_laws_eqByteS a0.S a1.S _ hr3)), rfl, trivial⟩
    · rw [if_neg c2] at h
      obtain rfl := Option.some.inj h
      exact call_way cfg [(.eqI a0.Kind a1.Kind, .b true), (.notB true, .b false), (.eqI a0.N a1.N, .b false), (.notB false, .b true)] rfl fd_43 (by kernel_rfl) ⟨(A.eqI_t c1), rfl, (A.eqI_f c2), rfl, trivial⟩
  · rw [if_neg c1] at h
    obtain rfl := Option.some.inj h
    exact call_way cfg [(.eqI a0.Kind a1.Kind, .b false), (.notB false, .b true)] rfl fd_43 (by kernel_rfl) ⟨(A.eqI_f c1), rfl, trivial⟩

mutual
def U_laws_eqValueS : Nat → (List GValue) → (List GValue) → Option Bool
  | 0, _, _ => none
  | n + 1, a0, a1 => T_laws_eqValueS (U_laws_eqValue n) n a0 a1
def U_laws_eqValue : Nat → GValue → GValue → Option Bool
  | 0, _, _ => none
  | n + 1, a0, a1 => T_laws_eqValue (U_laws_eqValueS n) a0 a1
end
theorem rec_laws_eqValueS (n : Nat) : (∀ (a0 : (List GValue)) (a1 : (List GValue)) (r : Bool), U_laws_eqValueS n a0 a1 = some r → (mach cfg).call 77 [] [.val false [.seq (eL e_GValue a0)], .val false [.seq (eL e_GValue a1)]] = some (.val false [.bool r], [])) ∧ (∀ (a0 : GValue) (a1 : GValue) (r : Bool), U_laws_eqValue n a0 a1 = some r → (mach cfg).call 43 [] [.val true [.int .i64 a0.Kind, .int .i64 a0.N, .seq (eL e_u8 a0.S), .seq (eL (e_sl e_u8) a0.K), .seq (eL e_GValue a0.L)], .val true [.int .i64 a1.Kind, .int .i64 a1.N, .seq (eL e_u8 a1.S), .seq (eL (e_sl e_u8) a1.K), .seq (eL e_GValue a1.L)]] = some (.val false [.bool r], [])) := by
  induction n with
  | zero => exact ⟨fun _ _ _ h => (by rw [U_laws_eqValueS] at h; cases h), fun _ _ _ h => (by rw [U_laws_eqValue] at h; cases h)⟩
  | succ n ih =>
    obtain ⟨ih_laws_eqValueS, ih_laws_eqValue⟩ := ih
    exact ⟨fun a0 a1 r h => g_laws_eqValueS (U_laws_eqValue n) ih_laws_eqValue n a0 a1 r (by rw [U_laws_eqValueS] at h; exact h),
      fun a0 a1 r h => g_laws_eqValue (U_laws_eqValueS n) ih_laws_eqValueS a0 a1 r (by rw [U_laws_eqValue] at h; exact h)⟩
theorem eqValueS_T {G : GValue → GValue → Option Bool} {a : List GValue} {f : Nat} (ha : a.length ≤ 2 ^ 20) (hf : a.length < f) (hG : ∀ v ∈ a, G v v = some true) : T_laws_eqValueS G f a a = some true := by
  have loop : ∀ (d i m : Nat), i + d = a.length → d < m → ∃ z, L_laws_eqValueS_l0 G a a m (i : Int) = some (.inr z) := by
    intro d
    induction d with
    | zero =>
      intro i m hi hm
      obtain ⟨m, rfl, _⟩ := fuel hm
      exact ⟨_, by rw [L_laws_eqValueS_l0, if_neg (by omega)]⟩
    | succ d ih =>
      intro i m hi hm
      obtain ⟨m, rfl, hm'⟩ := fuel hm
      have hil : i < a.length := by omega
      rw [L_laws_eqValueS_l0, if_pos (by omega), natO_nat, Option.bind_some, get_some hil, Option.bind_some, Option.bind_some, hG _ (List.getElem_mem hil), Option.bind_some, w64_succ (by omega)]
      exact ih (i + 1) m (by omega) (by omega)
  obtain ⟨z, hz⟩ := loop a.length 0 f (by omega) (by omega)
  rw [show ((0 : Nat) : Int) = 0 from rfl] at hz
  unfold T_laws_eqValueS
  rw [if_pos rfl, hz]; rfl
theorem eqValue_U : ∀ (N : Nat) (v : GValue), vsz v < N → vsz v ≤ 2 ^ 20 → ∀ f : Nat, 2 * vsz v + 3 ≤ f → U_laws_eqValue f v v = some true := by
  intro N
  induction N with
  | zero => intro v hv; omega
  | succ N ih =>
    intro v hv hs f hf
    obtain ⟨f, rfl, _⟩ := fuel (show 0 < f by omega)
    obtain ⟨f, rfl, _⟩ := fuel (show 0 < f by omega)
    have he := vsz_eq v
    have hl := vszs_len v.L
    rw [U_laws_eqValue]
    unfold T_laws_eqValue S_laws_eqByteS S_laws_eqByteSS
    rw [if_pos rfl, if_pos rfl, if_pos (show v.S = v.S ∧ v.S.length ≤ 2 ^ 20 from ⟨rfl, by omega⟩), Option.bind_some]
    dsimp only
    rw [if_pos (show v.K = v.K ∧ bsz v.K ≤ 2 ^ 20 from ⟨rfl, by omega⟩), Option.bind_some]
    dsimp only
    rw [U_laws_eqValueS, eqValueS_T (by omega) (by omega) fun x hx => ?_]
    · rfl
    · have := vszs_mem hx
      exact ih x (by omega) (by omega) f (by omega)
open Classical in
noncomputable def S_laws_eqValueS (a0 : (List GValue)) (a1 : (List GValue)) : Option Bool := if a0 = a1 ∧ vszs a0 ≤ 2 ^ 20 then some true else none
theorem spec_laws_eqValueS (a0 : (List GValue)) (a1 : (List GValue)) (r : Bool) (h : S_laws_eqValueS a0 a1 = some r) : ∃ n, U_laws_eqValueS n a0 a1 = some r := by
  unfold S_laws_eqValueS at h
  obtain ⟨⟨he, ha⟩, h2⟩ := need_c h
  clear h
  subst he
  have hl := vszs_len a0
  refine ⟨2 * vszs a0 + 5, ?_⟩
  rw [U_laws_eqValueS, eqValueS_T (by omega) (by omega) fun x hx => ?_, h2]
  have := vszs_mem hx
  exact eqValue_U _ x (Nat.lt_succ_self _) (by omega) _ (by omega)
open Classical in
noncomputable def S_laws_eqValue (a0 : GValue) (a1 : GValue) : Option Bool := if a0 = a1 ∧ vsz a0 ≤ 2 ^ 20 then some true else none
theorem spec_laws_eqValue (a0 : GValue) (a1 : GValue) (r : Bool) (h : S_laws_eqValue a0 a1 = some r) : ∃ n, U_laws_eqValue n a0 a1 = some r := by
  unfold S_laws_eqValue at h
  obtain ⟨⟨he, ha⟩, h2⟩ := need_c h
  clear h
  subst he
  exact ⟨2 * vsz a0 + 3, by rw [← h2]; exact eqValue_U _ a0 (Nat.lt_succ_self _) ha _ (Nat.le_refl _)⟩
theorem ok_laws_eqValueS (a0 : (List GValue)) (a1 : (List GValue)) (r : Bool) (h : S_laws_eqValueS a0 a1 = some r) : (mach cfg).call 77 [] [.val false [.seq (eL e_GValue a0)], .val false [.seq (eL e_GValue a1)]] = some (.val false [.bool r], []) := by
  obtain ⟨n, hn⟩ := spec_laws_eqValueS a0 a1 r h
  exact (rec_laws_eqValueS n).1 a0 a1 r hn
theorem ok_laws_eqValue (a0 : GValue) (a1 : GValue) (r : Bool) (h : S_laws_eqValue a0 a1 = some r) : (mach cfg).call 43 [] [.val true [.int .i64 a0.Kind, .int .i64 a0.N, .seq (eL e_u8 a0.S), .seq (eL (e_sl e_u8) a0.K), .seq (eL e_GValue a0.L)], .val true [.int .i64 a1.Kind, .int .i64 a1.N, .seq (eL e_u8 a1.S), .seq (eL (e_sl e_u8) a1.K), .seq (eL e_GValue a1.L)]] = some (.val false [.bool r], []) := by
  obtain ⟨n, hn⟩ := spec_laws_eqValue a0 a1 r h
  exact (rec_laws_eqValueS n).2 a0 a1 r hn
def S_laws_eqEnv (a0 : GEnv) (a1 : GEnv) : Option Bool :=
  (S_laws_eqValue a0.Locals a1.Locals).bind fun r1 =>
  match r1 with
  | true =>
    (S_laws_eqValue a0.Res a1.Res).bind fun r3 =>
    match r3 with
    | true =>
      (S_laws_eqValue a0.Index a1.Index).bind fun r5 =>
      match r5 with
      | true =>
        (S_laws_eqValue a0.Key a1.Key).bind fun r7 =>
        match r7 with
        | true =>
          (S_laws_eqValue a0.Val a1.Val).bind fun r9 =>
          match r9 with
          | true =>
            some true
          | false =>
            some false
        | false =>
          some false
      | false =>
        some false
    | false =>
      some false
  | false =>
    some false

set_option maxRecDepth 100000 in
theorem fd_19 : cfg.funcs 19 = some (bodyOf Try.f19, Try.f19.ntmps, Try.f19.results.toList) := fn_of Try.func19 (by kernel_rfl) (by kernel_rfl)
theorem ok_laws_eqEnv (a0 : GEnv) (a1 : GEnv) (r : Bool) (h : S_laws_eqEnv a0 a1 = some r) : (mach cfg).call 19 [] [.val true [.int .i64 a0.Locals.Kind, .int .i64 a0.Locals.N, .seq (eL e_u8 a0.Locals.S), .seq (eL (e_sl e_u8) a0.Locals.K), .seq (eL e_GValue a0.Locals.L), .int .i64 a0.Res.Kind, .int .i64 a0.Res.N, .seq (eL e_u8 a0.Res.S), .seq (eL (e_sl e_u8) a0.Res.K), .seq (eL e_GValue a0.Res.L), .int .i64 a0.Index.Kind, .int .i64 a0.Index.N, .seq (eL e_u8 a0.Index.S), .seq (eL (e_sl e_u8) a0.Index.K), .seq (eL e_GValue a0.Index.L), .int .i64 a0.Key.Kind, .int .i64 a0.Key.N, .seq (eL e_u8 a0.Key.S), .seq (eL (e_sl e_u8) a0.Key.K), .seq (eL e_GValue a0.Key.L), .int .i64 a0.Val.Kind, .int .i64 a0.Val.N, .seq (eL e_u8 a0.Val.S), .seq (eL (e_sl e_u8) a0.Val.K), .seq (eL e_GValue a0.Val.L)], .val true [.int .i64 a1.Locals.Kind, .int .i64 a1.Locals.N, .seq (eL e_u8 a1.Locals.S), .seq (eL (e_sl e_u8) a1.Locals.K), .seq (eL e_GValue a1.Locals.L), .int .i64 a1.Res.Kind, .int .i64 a1.Res.N, .seq (eL e_u8 a1.Res.S), .seq (eL (e_sl e_u8) a1.Res.K), .seq (eL e_GValue a1.Res.L), .int .i64 a1.Index.Kind, .int .i64 a1.Index.N, .seq (eL e_u8 a1.Index.S), .seq (eL (e_sl e_u8) a1.Index.K), .seq (eL e_GValue a1.Index.L), .int .i64 a1.Key.Kind, .int .i64 a1.Key.N, .seq (eL e_u8 a1.Key.S), .seq (eL (e_sl e_u8) a1.Key.K), .seq (eL e_GValue a1.Key.L), .int .i64 a1.Val.Kind, .int .i64 a1.Val.N, .seq (eL e_u8 a1.Val.S), .seq (eL (e_sl e_u8) a1.Val.K), .seq (eL e_GValue a1.Val.L)]] = some (.val false [.bool r], []) := by
  unfold S_laws_eqEnv at h
  obtain ⟨r1, hr1, h⟩ := Option.bind_eq_some_iff.1 h
  cases r1 with
  | true =>
    try dsimp only at h
    obtain ⟨r3, hr3, h⟩ := Option.bind_eq_some_iff.1 h
    cases r3 with
    | true =>
      try dsimp only at h
      obtain ⟨r5, hr5, h⟩ := Option.bind_eq_some_iff.1 h
      cases r5 with
      | true =>
        try dsimp only at h
        obtain ⟨r7, hr7, h⟩ := Option.bind_eq_some_iff.1 h
        cases r7 with
        | true =>
          try dsimp only at h
          obtain ⟨r9, hr9, h⟩ := Option.bind_eq_some_iff.1 h
          cases r9 with
          | true =>
            try dsimp only at h
            obtain rfl := Option.some.inj h
            exact call_way cfg [(.call 43 [] [.val true [.int .i64 a0.Locals.Kind, .int .i64 a0.Locals.N, .seq (eL e_u8 a0.Locals.S), .seq (eL (e_sl e_u8) a0.Locals.K), .seq (eL e_GValue a0.Locals.L)], .val true [.int .i64 a1.Locals.Kind, .int .i64 a1.Locals.N, .seq (eL e_u8 a1.Locals.S), .seq (eL (e_sl e_u8) a1.Locals.K), .seq (eL e_GValue a1.Locals.L)]], .r (.val false [.bool true]) []), (.notB true, .b false), (.call 43 [] [.val true [.int .i64 a0.Res.Kind, .int .i64 a0.Res.N, .seq (eL e_u8 a0.Res.S), .seq (eL (e_sl e_u8) a0.Res.K), .seq (eL e_GValue a0.Res.L)], .val true [.int .i64 a1.Res.Kind, .int .i64 a1.Res.N, .seq (eL e_u8 a1.Res.S), .seq (eL (e_sl e_u8) a1.Res.K), .seq (eL e_GValue a1.Res.L)]], .r (.val false [.bool true]) []), (.notB true, .b false), (.call 43 [] [.val true [.int .i64 a0.Index.Kind, .int .i64 a0.Index.N, .seq (eL e_u8 a0.Index.S), .seq (eL (e_sl e_u8) a0.Index.K), .seq (eL e_GValue a0.Index.L)], .val true [.int .i64 a1.Index.Kind, .int .i64 a1.Index.N, .seq (eL e_u8 a1.Index.S), .seq (eL (e_sl e_u8) a1.Index.K), .seq (eL e_GValue a1.Index.L)]], .r (.val false [.bool true]) []), (.notB true, .b false), (.call 43 [] [.val true [.int .i64 a0.Key.Kind, .int .i64 a0.Key.N, .seq (eL e_u8 a0.Key.S), .seq (eL (e_sl e_u8) a0.Key.K), .seq (eL e_GValue a0.Key.L)], .val true [.int .i64 a1.Key.Kind, .int .i64 a1.Key.N, .seq (eL e_u8 a1.Key.S), .seq (eL (e_sl e_u8) a1.Key.K), .seq (eL e_GValue a1.Key.L)]], .r (.val false [.bool true]) []), (.notB true, .b false), (.call 43 [] [.val true [.int .i64 a0.Val.Kind, .int .i64 a0.Val.N, .seq (eL e_u8 a0.Val.S), .seq (eL (e_sl e_u8) a0.Val.K), .seq (eL e_GValue a0.Val.L)], .val true [.int .i64 a1.Val.Kind, .int .i64 a1.Val.N, .seq (eL e_u8 a1.Val.S), .seq (eL (e_sl e_u8) a1.Val.K), .seq (eL e_GValue a1.Val.L)]], .r (.val false [.bool true]) []), (.notB true, .b false)] rfl fd_19 (by kernel_rfl) ⟨(A.call (ok_laws_eqValue a0.Locals a1.Locals _ hr1)), rfl, (A.call (ok_laws_eqValue a0.Res a1.Res _ hr3)), rfl, (A.call (ok_laws_eqValue a0.Index a1.Index _ hr5)), rfl, (A.call (ok_laws_eqValue a0.Key a1.Key _ hr7)), rfl, (A.call (ok_laws_eqValue a0.Val a1.Val _ hr9)), rfl, trivial⟩
          | false =>
            try dsimp only at h
            obtain rfl := Option.some.inj h
            exact call_way cfg [(.call 43 [] [.val true [.int .i64 a0.Locals.Kind, .int .i64 a0.Locals.N, .seq (eL e_u8 a0.Locals.S), .seq (eL (e_sl e_u8) a0.Locals.K), .seq (eL e_GValue a0.Locals.L)], .val true [.int .i64 a1.Locals.Kind, .int .i64 a1.Locals.N, .seq (eL e_u8 a1.Locals.S), .seq (eL (e_sl e_u8) a1.Locals.K), .seq (eL e_GValue a1.Locals.L)]], .r (.val false [.bool true]) []), (.notB true, .b false), (.call 43 [] [.val true [.int .i64 a0.Res.Kind, .int .i64 a0.Res.N, .seq (eL e_u8 a0.Res.S), .seq (eL (e_sl e_u8) a0.Res.K), .seq (eL e_GValue a0.Res.L)], .val true [.int .i64 a1.Res.Kind, .int .i64 a1.Res.N, .seq (eL e_u8 a1.Res.S), .seq (eL (e_sl e_u8) a1.Res.K), .seq (eL e_GValue a1.Res.L)]], .r (.val false [.bool true]) []), (.notB true, .b false), (.call 43 [] [.val true [.int .i64 a0.Index.Kind, .int .i64 a0.Index.N, .seq (eL e_u8 a0.Index.S), .seq (eL (e_sl e_u8) a0.Index.K), .seq (eL e_GValue a0.Index.L)], .val true [.int .i64 a1.Index.Kind, .int .i64 a1.Index.N, .seq (eL e_u8 a1.Index.S), .seq (eL (e_sl e_u8) a1.Index.K), .seq (eL e_GValue a1.Index.L)]], .r (.val false [.bool true]) []), (.notB true, .b false), (.call 43 [] [.val true [.int .i64 a0.Key.Kind, .int .i64 a0.Key.N, .seq (eL e_u8 a0.Key.S), .seq (eL (e_sl e_u8) a0.Key.K), .seq (eL e_GValue a0.Key.L)], .val true [.int .i64 a1.Key.Kind, .int .i64 a1.Key.N, .seq (eL e_u8 a1.Key.S), .seq (eL (e_sl e_u8) a1.Key.K), .seq (eL e_GValue a1.Key.L)]], .r (.val false [.bool true]) []), (.notB true, .b false), (.call 43 [] [.val true [.int .i64 a0.Val.Kind, .int .i64 a0.Val.N, .seq (eL e_u8 a0.Val.S), .seq (eL (e_sl e_u8) a0.Val.K), .seq (eL e_GValue a0.Val.L)], .val true [.int .i64 a1.Val.Kind, .int .i64 a1.Val.N, .seq (eL e_u8 a1.Val.S), .seq (eL (e_sl e_u8) a1.Val.K), .seq (eL e_GValue a1.Val.L)]], .r (.val false [.bool false]) []), (.notB false, .b true)] rfl fd_19 (by kernel_rfl) ⟨(A.call (ok_laws_eqValue a0.Locals a1.Locals _ hr1)), rfl, (A.call (ok_laws_eqValue a0.Res a1.Res _ hr3)), rfl, (A.call (ok_laws_eqValue a0.Index a1.Index _ hr5)), rfl, (A.call (ok_laws_eqValue a0.Key a1.Key _ hr7)), rfl, (A.call (ok_laws_eqValue a0.Val a1.Val _ hr9)), rfl, trivial⟩
        | false =>
          try dsimp only at h
          obtain rfl := Option.some.inj h
          exact call_way cfg [(.call 43 [] [.val true [.int .i64 a0.Locals.Kind, .int .i64 a0.Locals.N, .seq (eL e_u8 a0.Locals.S), .seq (eL (e_sl e_u8) a0.Locals.K), .seq (eL e_GValue a0.Locals.L)], .val true [.int .i64 a1.Locals.Kind, .int .i64 a1.Locals.N, .seq (eL e_u8 a1.Locals.S), .seq (eL (e_sl e_u8) a1.Locals.K), .seq (eL e_GValue a1.Locals.L)]], .r (.val false [.bool true]) []), (.notB true, .b false), (.call 43 [] [.val true [.int .i64 a0.Res.Kind, .int .i64 a0.Res.N, .seq (eL e_u8 a0.Res.S), .seq (eL (e_sl e_u8) a0.Res.K), .seq (eL e_GValue a0.Res.L)], .val true [.int .i64 a1.Res.Kind, .int .i64 a1.Res.N, .seq (eL e_u8 a1.Res.S), .seq (eL (e_sl e_u8) a1.Res.K), .seq (eL e_GValue a1.Res.L)]], .r (.val false [.bool true]) []), (.notB true, .b false), (.call 43 [] [.val true [.int .i64 a0.Index.Kind, .int .i64 a0.Index.N, .seq (eL e_u8 a0.Index.S), .seq (eL (e_sl e_u8) a0.Index.K), .seq (eL e_GValue a0.Index.L)], .val true [.int .i64 a1.Index.Kind, .int .i64 a1.Index.N, .seq (eL e_u8 a1.Index.S), .seq (eL (e_sl e_u8) a1.Index.K), .seq (eL e_GValue a1.Index.L)]], .r (.val false [.bool true]) []), (.notB true, .b false), (.call 43 [] [.val true [.int .i64 a0.Key.Kind, .int .i64 a0.Key.N, .seq (eL e_u8 a0.Key.S), .seq (eL (e_sl e_u8) a0.Key.K), .seq (eL e_GValue a0.Key.L)], .val true [.int .i64 a1.Key.Kind, .int .i64 a1.Key.N, .seq (eL e_u8 a1.Key.S), .seq (eL (e_sl e_u8) a1.Key.K), .seq (eL e_GValue a1.Key.L)]], .r (.val false [.bool false]) []), (.notB false, .b true)] rfl fd_19 (by kernel_rfl) ⟨(A.call (ok_laws_eqValue a0.Locals a1.Locals _ hr1)), rfl, (A.call (ok_laws_eqValue a0.Res a1.Res _ hr3)), rfl, (A.call (ok_laws_eqValue a0.Index a1.Index _ hr5)), rfl, (A.call (ok_laws_eqValue a0.Key a1.Key _ hr7)), rfl, trivial⟩
      | false =>
        try dsimp only at h
        obtain rfl := Option.some.inj h
        exact call_way cfg [(.call 43 [] [.val true [.int .i64 a0.Locals.Kind, .int .i64 a0.Locals.N, .seq (eL e_u8 a0.Locals.S), .seq (eL (e_sl e_u8) a0.Locals.K), .seq (eL e_GValue a0.Locals.L)], .val true [.int .i64 a1.Locals.Kind, .int .i64 a1.Locals.N, .seq (eL e_u8 a1.Locals.S), .seq (eL (e_sl e_u8) a1.Locals.K), .seq (eL e_GValue a1.Locals.L)]], .r (.val false [.bool true]) []), (.notB true, .b false), (.call 43 [] [.val true [.int .i64 a0.Res.Kind, .int .i64 a0.Res.N, .seq (eL e_u8 a0.Res.S), .seq (eL (e_sl e_u8) a0.Res.K), .seq (eL e_GValue a0.Res.L)], .val true [.int .i64 a1.Res.Kind, .int .i64 a1.Res.N, .seq (eL e_u8 a1.Res.S), .seq (eL (e_sl e_u8) a1.Res.K), .seq (eL e_GValue a1.Res.L)]], .r (.val false [.bool true]) []), (.notB true, .b false), (.call 43 [] [.val true [.int .i64 a0.Index.Kind, .int .i64 a0.Index.N, .seq (eL e_u8 a0.Index.S), .seq (eL (e_sl e_u8) a0.Index.K), .seq (eL e_GValue a0.Index.L)], .val true [.int .i64 a1.Index.Kind, .int .i64 a1.Index.N, .seq (eL e_u8 a1.Index.S), .seq (eL (e_sl e_u8) a1.Index.K), .seq (eL e_GValue a1.Index.L)]], .r (.val false [.bool false]) []), (.notB false, .b true)] rfl fd_19 (by kernel_rfl) ⟨(A.call (ok_laws_eqValue a0.Locals a1.Locals _ hr1)), rfl, (A.call (ok_laws_eqValue a0.Res a1.Res _ hr3)), rfl, (A.call (ok_laws_eqValue a0.Index a1.Index _ hr5)), rfl, trivial⟩
    | false =>
      try dsimp only at h
      obtain rfl := Option.some.inj h
      exact call_way cfg [(.call 43 [] [.val true [.int .i64 a0.Locals.Kind, .int .i64 a0.Locals.N, .seq (eL e_u8 a0.Locals.S), .seq (eL (e_sl e_u8) a0.Locals.K), .seq (eL e_GValue a0.Locals.L)], .val true [.int .i64 a1.Locals.Kind, .int .i64 a1.Locals.N, .seq (eL e_u8 a1.Locals.S), .seq (eL (e_sl e_u8) a1.Locals.K), .seq (eL e_GValue a1.Locals.L)]], .r (.val false [.bool true]) []), (.notB true, .b false), (.call 43 [] [.val true [.int .i64 a0.Res.Kind, .int .i64 a0.Res.N, .seq (eL e_u8 a0.Res.S), .seq (eL (e_sl e_u8) a0.Res.K), .seq (eL e_GValue a0.Res.L)], .val true [.int .i64 a1.Res.Kind, .int .i64 a1.Res.N, .seq (eL e_u8 a1.Res.S), .seq (eL (e_sl e_u8) a1.Res.K), .seq (eL e_GValue a1.Res.L)]], .r (.val false [.bool false]) []), (.notB false, .b true)] rfl fd_19 (by kernel_rfl) ⟨(A.call (ok_laws_eqValue a0.Locals a1.Locals _ hr1)), rfl, (A.call (ok_laws_eqValue a0.Res a1.Res _ hr3)), rfl, trivial⟩
  | false =>
    try dsimp only at h
    obtain rfl := Option.some.inj h
    exact call_way cfg [(.call 43 [] [.val true [.int .i64 a0.Locals.Kind, .int .i64 a0.Locals.N, .seq (eL e_u8 a0.Locals.S), .seq (eL (e_sl e_u8) a0.Locals.K), .seq (eL e_GValue a0.Locals.L)], .val true [.int .i64 a1.Locals.Kind, .int .i64 a1.Locals.N, .seq (eL e_u8 a1.Locals.S), .seq (eL (e_sl e_u8) a1.Locals.K), .seq (eL e_GValue a1.Locals.L)]], .r (.val false [.bool false]) []), (.notB false, .b true)] rfl fd_19 (by kernel_rfl) ⟨(A.call (ok_laws_eqValue a0.Locals a1.Locals _ hr1)), rfl, trivial⟩

def S_laws_FnExactEnvOk (a0 : GEnv) : Option Bool :=
  (S_laws_szEnv a0 1048576).bind fun r1 =>
  if r1 < 0 then
    some true
  else
    (S_laws_toEnv a0).bind fun r3 =>
    (S_spec_EnvOk r3).bind fun r4 =>
    (S_impl_EnvOk r3).bind fun r5 =>
    match r5 with
    | true =>
      match r4 with
      | true =>
        (S_laws_eqEnv r3 r3).bind fun r8 =>
        match r8 with
        | true =>
          some true
        | false =>
          some false
      | false =>
        some false
    | false =>
      match r4 with
      | true =>
        some false
      | false =>
        (S_laws_eqEnv r3 r3).bind fun r8 =>
        match r8 with
        | true =>
          some true
        | false =>
          some false

set_option maxRecDepth 100000 in
theorem fd_5 : cfg.funcs 5 = some (bodyOf Try.f5, Try.f5.ntmps, Try.f5.results.toList) := fn_of Try.func5 (by kernel_rfl) (by kernel_rfl)
theorem ok_laws_FnExactEnvOk (a0 : GEnv) (r : Bool) (h : S_laws_FnExactEnvOk a0 = some r) : (mach cfg).call 5 [] [.val true [.int .i64 a0.Locals.Kind, .int .i64 a0.Locals.N, .seq (eL e_u8 a0.Locals.S), .seq (eL (e_sl e_u8) a0.Locals.K), .seq (eL e_GValue a0.Locals.L), .int .i64 a0.Res.Kind, .int .i64 a0.Res.N, .seq (eL e_u8 a0.Res.S), .seq (eL (e_sl e_u8) a0.Res.K), .seq (eL e_GValue a0.Res.L), .int .i64 a0.Index.Kind, .int .i64 a0.Index.N, .seq (eL e_u8 a0.Index.S), .seq (eL (e_sl e_u8) a0.Index.K), .seq (eL e_GValue a0.Index.L), .int .i64 a0.Key.Kind, .int .i64 a0.Key.N, .seq (eL e_u8 a0.Key.S), .seq (eL (e_sl e_u8) a0.Key.K), .seq (eL e_GValue a0.Key.L), .int .i64 a0.Val.Kind, .int .i64 a0.Val.N, .seq (eL e_u8 a0.Val.S), .seq (eL (e_sl e_u8) a0.Val.K), .seq (eL e_GValue a0.Val.L)]] = some (.val false [.bool r], []) := by
  unfold S_laws_FnExactEnvOk at h
  obtain ⟨r1, hr1, h⟩ := Option.bind_eq_some_iff.1 h
  by_cases c2 : r1 < 0
  · rw [if_pos c2] at h
    obtain rfl := Option.some.inj h
    exact call_way cfg [(.call 15 [] [.val true [.int .i64 a0.Locals.Kind, .int .i64 a0.Locals.N, .seq (eL e_u8 a0.Locals.S), .seq (eL (e_sl e_u8) a0.Locals.K), .seq (eL e_GValue a0.Locals.L), .int .i64 a0.Res.Kind, .int .i64 a0.Res.N, .seq (eL e_u8 a0.Res.S), .seq (eL (e_sl e_u8) a0.Res.K), .seq (eL e_GValue a0.Res.L), .int .i64 a0.Index.Kind, .int .i64 a0.Index.N, .seq (eL e_u8 a0.Index.S), .seq (eL (e_sl e_u8) a0.Index.K), .seq (eL e_GValue a0.Index.L), .int .i64 a0.Key.Kind, .int .i64 a0.Key.N, .seq (eL e_u8 a0.Key.S), .seq (eL (e_sl e_u8) a0.Key.K), .seq (eL e_GValue a0.Key.L), .int .i64 a0.Val.Kind, .int .i64 a0.Val.N, .seq (eL e_u8 a0.Val.S), .seq (eL (e_sl e_u8) a0.Val.K), .seq (eL e_GValue a0.Val.L)], .val false [.int .i64 1048576]], .r (.val false [.int .i64 r1]) []), (.ltI r1 0, .b true)] rfl fd_5 (by kernel_rfl) ⟨(A.call (ok_laws_szEnv a0 1048576 _ hr1)), (A.ltI_t c2), trivial⟩
  · rw [if_neg c2] at h
    obtain ⟨r3, hr3, h⟩ := Option.bind_eq_some_iff.1 h
    obtain ⟨r4, hr4, h⟩ := Option.bind_eq_some_iff.1 h
    obtain ⟨r5, hr5, h⟩ := Option.bind_eq_some_iff.1 h
    cases r5 with
    | true =>
      try dsimp only at h
      cases r4 with
      | true =>
        try dsimp only at h
        obtain ⟨r8, hr8, h⟩ := Option.bind_eq_some_iff.1 h
        cases r8 with
        | true =>
          try dsimp only at h
          obtain rfl := Option.some.inj h
          exact call_way cfg [(.call 15 [] [.val true [.int .i64 a0.Locals.Kind, .int .i64 a0.Locals.N, .seq (eL e_u8 a0.Locals.S), .seq (eL (e_sl e_u8) a0.Locals.K), .seq (eL e_GValue a0.Locals.L), .int .i64 a0.Res.Kind, .int .i64 a0.Res.N, .seq (eL e_u8 a0.Res.S), .seq (eL (e_sl e_u8) a0.Res.K), .seq (eL e_GValue a0.Res.L), .int .i64 a0.Index.Kind, .int .i64 a0.Index.N, .seq (eL e_u8 a0.Index.S), .seq (eL (e_sl e_u8) a0.Index.K), .seq (eL e_GValue a0.Index.L), .int .i64 a0.Key.Kind, .int .i64 a0.Key.N, .seq (eL e_u8 a0.Key.S), .seq (eL (e_sl e_u8) a0.Key.K), .seq (eL e_GValue a0.Key.L), .int .i64 a0.Val.Kind, .int .i64 a0.Val.N, .seq (eL e_u8 a0.Val.S), .seq (eL (e_sl e_u8) a0.Val.K), .seq (eL e_GValue a0.Val.L)], .val false [.int .i64 1048576]], .r (.val false [.int .i64 r1]) []), (.ltI r1 0, .b false), (.call 17 [] [.val true [.int .i64 a0.Locals.Kind, .int .i64 a0.Locals.N, .seq (eL e_u8 a0.Locals.S), .seq (eL (e_sl e_u8) a0.Locals.K), .seq (eL e_GValue a0.Locals.L), .int .i64 a0.Res.Kind, .int .i64 a0.Res.N, .seq (eL e_u8 a0.Res.S), .seq (eL (e_sl e_u8) a0.Res.K), .seq (eL e_GValue a0.Res.L), .int .i64 a0.Index.Kind, .int .i64 a0.Index.N, .seq (eL e_u8 a0.Index.S), .seq (eL (e_sl e_u8) a0.Index.K), .seq (eL e_GValue a0.Index.L), .int .i64 a0.Key.Kind, .int .i64 a0.Key.N, .seq (eL e_u8 a0.Key.S), .seq (eL (e_sl e_u8) a0.Key.K), .seq (eL e_GValue a0.Key.L), .int .i64 a0.Val.Kind, .int .i64 a0.Val.N, .seq (eL e_u8 a0.Val.S), .seq (eL (e_sl e_u8) a0.Val.K), .seq (eL e_GValue a0.Val.L)]], .r (.val true [.int .i64 r3.Locals.Kind, .int .i64 r3.Locals.N, .seq (eL e_u8 r3.Locals.S), .seq (eL (e_sl e_u8) r3.Locals.K), .seq (eL e_GValue r3.Locals.L), .int .i64 r3.Res.Kind, .int .i64 r3.Res.N, .seq (eL e_u8 r3.Res.S), .seq (eL (e_sl e_u8) r3.Res.K), .seq (eL e_GValue r3.Res.L), .int .i64 r3.Index.Kind, .int .i64 r3.Index.N, .seq (eL e_u8 r3.Index.S), .seq (eL (e_sl e_u8) r3.Index.K), .seq (eL e_GValue r3.Index.L), .int .i64 r3.Key.Kind, .int .i64 r3.Key.N, .seq (eL e_u8 r3.Key.S), .seq (eL (e_sl e_u8) r3.Key.K), .seq (eL e_GValue r3.Key.L), .int .i64 r3.Val.Kind, .int .i64 r3.Val.N, .seq (eL e_u8 r3.Val.S), .seq (eL (e_sl e_u8) r3.Val.K), .seq (eL e_GValue r3.Val.L)]) []), (.call 16 [] [.val true [.int .i64 r3.Locals.Kind, .int .i64 r3.Locals.N, .seq (eL e_u8 r3.Locals.S), .seq (eL (e_sl e_u8) r3.Locals.K), .seq (eL e_GValue r3.Locals.L), .int .i64 r3.Res.Kind, .int .i64 r3.Res.N, .seq (eL e_u8 r3.Res.S), .seq (eL (e_sl e_u8) r3.Res.K), .seq (eL e_GValue r3.Res.L), .int .i64 r3.Index.Kind, .int .i64 r3.Index.N, .seq (eL e_u8 r3.Index.S), .seq (eL (e_sl e_u8) r3.Index.K), .seq (eL e_GValue r3.Index.L), .int .i64 r3.Key.Kind, .int .i64 r3.Key.N, .seq (eL e_u8 r3.Key.S), .seq (eL (e_sl e_u8) r3.Key.K), .seq (eL e_GValue r3.Key.L), .int .i64 r3.Val.Kind, .int .i64 r3.Val.N, .seq (eL e_u8 r3.Val.S), .seq (eL (e_sl e_u8) r3.Val.K), .seq (eL e_GValue r3.Val.L)]], .r (.val false [.bool true]) []), (.call 17 [] [.val true [.int .i64 a0.Locals.Kind, .int .i64 a0.Locals.N, .seq (eL e_u8 a0.Locals.S), .seq (eL (e_sl e_u8) a0.Locals.K), .seq (eL e_GValue a0.Locals.L), .int .i64 a0.Res.Kind, .int .i64 a0.Res.N, .seq (eL e_u8 a0.Res.S), .seq (eL (e_sl e_u8) a0.Res.K), .seq (eL e_GValue a0.Res.L), .int .i64 a0.Index.Kind, .int .i64 a0.Index.N, .seq (eL e_u8 a0.Index.S), .seq (eL (e_sl e_u8) a0.Index.K), .seq (eL e_GValue a0.Index.L), .int .i64 a0.Key.Kind, .int .i64 a0.Key.N, .seq (eL e_u8 a0.Key.S), .seq (eL (e_sl e_u8) a0.Key.K), .seq (eL e_GValue a0.Key.L), .int .i64 a0.Val.Kind, .int .i64 a0.Val.N, .seq (eL e_u8 a0.Val.S), .seq (eL (e_sl e_u8) a0.Val.K), .seq (eL e_GValue a0.Val.L)]], .r (.val true [.int .i64 r3.Locals.Kind, .int .i64 r3.Locals.N, .seq (eL e_u8 r3.Locals.S), .seq (eL (e_sl e_u8) r3.Locals.K), .seq (eL e_GValue r3.Locals.L), .int .i64 r3.Res.Kind, .int .i64 r3.Res.N, .seq (eL e_u8 r3.Res.S), .seq (eL (e_sl e_u8) r3.Res.K), .seq (eL e_GValue r3.Res.L), .int .i64 r3.Index.Kind, .int .i64 r3.Index.N, .seq (eL e_u8 r3.Index.S), .seq (eL (e_sl e_u8) r3.Index.K), .seq (eL e_GValue r3.Index.L), .int .i64 r3.Key.Kind, .int .i64 r3.Key.N, .seq (eL e_u8 r3.Key.S), .seq (eL (e_sl e_u8) r3.Key.K), .seq (eL e_GValue r3.Key.L), .int .i64 r3.Val.Kind, .int .i64 r3.Val.N, .seq (eL e_u8 r3.Val.S), .seq (eL (e_sl e_u8) r3.Val.K), .seq (eL e_GValue r3.Val.L)]) []), (.call 18 [] [.val true [.int .i64 r3.Locals.Kind, .int .i64 r3.Locals.N, .seq (eL e_u8 r3.Locals.S), .seq (eL (e_sl e_u8) r3.Locals.K), .seq (eL e_GValue r3.Locals.L), .int .i64 r3.Res.Kind, .int .i64 r3.Res.N, .seq (eL e_u8 r3.Res.S), .seq (eL (e_sl e_u8) r3.Res.K), .seq (eL e_GValue r3.Res.L), .int .i64 r3.Index.Kind, .int .i64 r3.Index.N, .seq (eL e_u8 r3.Index.S), .seq (eL (e_sl e_u8) r3.Index.K), .seq (eL e_GValue r3.Index.L), .int .i64 r3.Key.Kind, .int .i64 r3.Key.N, .seq (eL e_u8 r3.Key.S), .seq (eL (e_sl e_u8) r3.Key.K), .seq (eL e_GValue r3.Key.L), .int .i64 r3.Val.Kind, .int .i64 r3.Val.N, .seq (eL e_u8 r3.Val.S), .seq (eL (e_sl e_u8) r3.Val.K), .seq (eL e_GValue r3.Val.L)]], .r (.val false [.bool true]) []), (.eqB true true, .b true), (.notB true, .b false), (.call 17 [] [.val true [.int .i64 a0.Locals.Kind, .int .i64 a0.Locals.N, .seq (eL e_u8 a0.Locals.S), .seq (eL (e_sl e_u8) a0.Locals.K), .seq (eL e_GValue a0.Locals.L), .int .i64 a0.Res.Kind, .int .i64 a0.Res.N, .seq (eL e_u8 a0.Res.S), .seq (eL (e_sl e_u8) a0.Res.K), .seq (eL e_GValue a0.Res.L), .int .i64 a0.Index.Kind, .int .i64 a0.Index.N, .seq (eL e_u8 a0.Index.S), .seq (eL (e_sl e_u8) a0.Index.K), .seq (eL e_GValue a0.Index.L), .int .i64 a0.Key.Kind, .int .i64 a0.Key.N, .seq (eL e_u8 a0.Key.S), .seq (eL (e_sl e_u8) a0.Key.K), .seq (eL e_GValue a0.Key.L), .int .i64 a0.Val.Kind, .int .i64 a0.Val.N, .seq (eL e_u8 a0.Val.S), .seq (eL (e_sl e_u8) a0.Val.K), .seq (eL e_GValue a0.Val.L)]], .r (.val true [.int .i64 r3.Locals.Kind, .int .i64 r3.Locals.N, .seq (eL e_u8 r3.Locals.S), .seq (eL (e_sl e_u8) r3.Locals.K), .seq (eL e_GValue r3.Locals.L), .int .i64 r3.Res.Kind, .int .i64 r3.Res.N, .seq (eL e_u8 r3.Res.S), .seq (eL (e_sl e_u8) r3.Res.K), .seq (eL e_GValue r3.Res.L), .int .i64 r3.Index.Kind, .int .i64 r3.Index.N, .seq (eL e_u8 r3.Index.S), .seq (eL (e_sl e_u8) r3.Index.K), .seq (eL e_GValue r3.Index.L), .int .i64 r3.Key.Kind, .int .i64 r3.Key.N, .seq (eL e_u8 r3.Key.S), .seq (eL (e_sl e_u8) r3.Key.K), .seq (eL e_GValue r3.Key.L), .int .i64 r3.Val.Kind, .int .i64 r3.Val.N, .seq (eL e_u8 r3.Val.S), .seq (eL (e_sl e_u8) r3.Val.K), .seq (eL e_GValue r3.Val.L)]) []), (.call 19 [] [.val true [.int .i64 r3.Locals.Kind, .int .i64 r3.Locals.N, .seq (eL e_u8 r3.Locals.S), .seq (eL (e_sl e_u8) r3.Locals.K), .seq (eL e_GValue r3.Locals.L), .int .i64 r3.Res.Kind, .int .i64 r3.Res.N, .seq (eL e_u8 r3.Res.S), .seq (eL (e_sl e_u8) r3.Res.K), .seq (eL e_GValue r3.Res.L), .int .i64 r3.Index.Kind, .int .i64 r3.Index.N, .seq (eL e_u8 r3.Index.S), .seq (eL (e_sl e_u8) r3.Index.K), .seq (eL e_GValue r3.Index.L), .int .i64 r3.Key.Kind, .int .i64 r3.Key.N, .seq (eL e_u8 r3.Key.S), .seq (eL (e_sl e_u8) r3.Key.K), .seq (eL e_GValue r3.Key.L), .int .i64 r3.Val.Kind, .int .i64 r3.Val.N, .seq (eL e_u8 r3.Val.S), .seq (eL (e_sl e_u8) r3.Val.K), .seq (eL e_GValue r3.Val.L)], .val true [.int .i64 r3.Locals.Kind, .int .i64 r3.Locals.N, .seq (eL e_u8 r3.Locals.S), .seq (eL (e_sl e_u8) r3.Locals.K), .seq (eL e_GValue r3.Locals.L), .int .i64 r3.Res.Kind, .int .i64 r3.Res.N, .seq (eL e_u8 r3.Res.S), .seq (eL (e_sl e_u8) r3.Res.K), .seq (eL e_GValue r3.Res.L), .int .i64 r3.Index.Kind, .int .i64 r3.Index.N, .seq (eL e_u8 r3.Index.S), .seq (eL (e_sl e_u8) r3.Index.K), .seq (eL e_GValue r3.Index.L), .int .i64 r3.Key.Kind, .int .i64 r3.Key.N, .seq (eL e_u8 r3.Key.S), .seq (eL (e_sl e_u8) r3.Key.K), .seq (eL e_GValue r3.Key.L), .int .i64 r3.Val.Kind, .int .i64 r3.Val.N, .seq (eL e_u8 r3.Val.S), .seq (eL (e_sl e_u8) r3.Val.K), .seq (eL e_GValue r3.Val.L)]], .r (.val false [.bool true]) []), (.notB true, .b false)] rfl fd_5 (by kernel_rfl) ⟨(A.call (ok_laws_szEnv a0 1048576 _ hr1)), (A.ltI_f c2), (A.call (ok_laws_toEnv a0 _ hr3)), (A.call (ok_spec_EnvOk r3 _ hr4)), (A.call (ok_laws_toEnv a0 _ hr3)), (A.call (ok_impl_EnvOk r3 _ hr5)), rfl, rfl, (A.call (ok_laws_toEnv a0 _ hr3)), (A.call (ok_laws_eqEnv r3 r3 _ hr8)), rfl, trivial⟩
        | false =>
          try dsimp only at h
          obtain rfl := Option.some.inj h
          exact call_way cfg [(.call 15 [] [.val true [.int .i64 a0.Locals.Kind, .int .i64 a0.Locals.N, .seq (eL e_u8 a0.Locals.S), .seq (eL (e_sl e_u8) a0.Locals.K), .seq (eL e_GValue a0.Locals.L), .int .i64 a0.Res.Kind, .int .i64 a0.Res.N, .seq (eL e_u8 a0.Res.S), .seq (eL (e_sl e_u8) a0.Res.K), .seq (eL e_GValue a0.Res.L), .int .i64 a0.Index.Kind, .int .i64 a0.Index.N, .seq (eL e_u8 a0.Index.S), .seq (eL (e_sl e_u8) a0.Index.K), .seq (eL e_GValue a0.Index.L), .int .i64 a0.Key.Kind, .int .i64 a0.Key.N, .seq (eL e_u8 a0.Key.S), .seq (eL (e_sl e_u8) a0.Key.K), .seq (eL e_GValue a0.Key.L), .int .i64 a0.Val.Kind, .int .i64 a0.Val.N, .seq (eL e_u8 a0.Val.S), .seq (eL (e_sl e_u8) a0.Val.K), .seq (eL e_GValue a0.Val.L)], .val false [.int .i64 1048576]], .r (.val false [.int .i64 r1]) []), (.ltI r1 0, .b false), (.call 17 [] [.val true [.int .i64 a0.Locals.Kind, .int .i64 a0.Locals.N, .seq (eL e_u8 a0.Locals.S), .seq (eL (e_sl e_u8) a0.Locals.K), .seq (eL e_GValue a0.Locals.L), .int .i64 a0.Res.Kind, .int .i64 a0.Res.N, .seq (eL e_u8 a0.Res.S), .seq (eL (e_sl e_u8) a0.Res.K), .seq (eL e_GValue a0.Res.L), .int .i64 a0.Index.Kind, .int .i64 a0.Index.N, .seq (eL e_u8 a0.Index.S), .seq (eL (e_sl e_u8) a0.Index.K), .seq (eL e_GValue a0.Index.L), .int .i64 a0.Key.Kind, .int .i64 a0.Key.N, .seq (eL e_u8 a0.Key.S), .seq (eL (e_sl e_u8) a0.Key.K), .seq (eL e_GValue a0.Key.L), .int .i64 a0.Val.Kind, .int .i64 a0.Val.N, .seq (eL e_u8 a0.Val.S), .seq (eL (e_sl e_u8) a0.Val.K), .seq (eL e_GValue a0.Val.L)]], .r (.val true [.int .i64 r3.Locals.Kind, .int .i64 r3.Locals.N, .seq (eL e_u8 r3.Locals.S), .seq (eL (e_sl e_u8) r3.Locals.K), .seq (eL e_GValue r3.Locals.L), .int .i64 r3.Res.Kind, .int .i64 r3.Res.N, .seq (eL e_u8 r3.Res.S), .seq (eL (e_sl e_u8) r3.Res.K), .seq (eL e_GValue r3.Res.L), .int .i64 r3.Index.Kind, .int .i64 r3.Index.N, .seq (eL e_u8 r3.Index.S), .seq (eL (e_sl e_u8) r3.Index.K), .seq (eL e_GValue r3.Index.L), .int .i64 r3.Key.Kind, .int .i64 r3.Key.N, .seq (eL e_u8 r3.Key.S), .seq (eL (e_sl e_u8) r3.Key.K), .seq (eL e_GValue r3.Key.L), .int .i64 r3.Val.Kind, .int .i64 r3.Val.N, .seq (eL e_u8 r3.Val.S), .seq (eL (e_sl e_u8) r3.Val.K), .seq (eL e_GValue r3.Val.L)]) []), (.call 16 [] [.val true [.int .i64 r3.Locals.Kind, .int .i64 r3.Locals.N, .seq (eL e_u8 r3.Locals.S), .seq (eL (e_sl e_u8) r3.Locals.K), .seq (eL e_GValue r3.Locals.L), .int .i64 r3.Res.Kind, .int .i64 r3.Res.N, .seq (eL e_u8 r3.Res.S), .seq (eL (e_sl e_u8) r3.Res.K), .seq (eL e_GValue r3.Res.L), .int .i64 r3.Index.Kind, .int .i64 r3.Index.N, .seq (eL e_u8 r3.Index.S), .seq (eL (e_sl e_u8) r3.Index.K), .seq (eL e_GValue r3.Index.L), .int .i64 r3.Key.Kind, .int .i64 r3.Key.N, .seq (eL e_u8 r3.Key.S), .seq (eL (e_sl e_u8) r3.Key.K), .seq (eL e_GValue r3.Key.L), .int .i64 r3.Val.Kind, .int .i64 r3.Val.N, .seq (eL e_u8 r3.Val.S), .seq (eL (e_sl e_u8) r3.Val.K), .seq (eL e_GValue r3.Val.L)]], .r (.val false [.bool true]) []), (.call 17 [] [.val true [.int .i64 a0.Locals.Kind, .int .i64 a0.Locals.N, .seq (eL e_u8 a0.Locals.S), .seq (eL (e_sl e_u8) a0.Locals.K), .seq (eL e_GValue a0.Locals.L), .int .i64 a0.Res.Kind, .int .i64 a0.Res.N, .seq (eL e_u8 a0.Res.S), .seq (eL (e_sl e_u8) a0.Res.K), .seq (eL e_GValue a0.Res.L), .int .i64 a0.Index.Kind, .int .i64 a0.Index.N, .seq (eL e_u8 a0.Index.S), .seq (eL (e_sl e_u8) a0.Index.K), .seq (eL e_GValue a0.Index.L), .int .i64 a0.Key.Kind, .int .i64 a0.Key.N, .seq (eL e_u8 a0.Key.S), .seq (eL (e_sl e_u8) a0.Key.K), .seq (eL e_GValue a0.Key.L), .int .i64 a0.Val.Kind, .int .i64 a0.Val.N, .seq (eL e_u8 a0.Val.S), .seq (eL (e_sl e_u8) a0.Val.K), .seq (eL e_GValue a0.Val.L)]], .r (.val true [.int .i64 r3.Locals.Kind, .int .i64 r3.Locals.N, .seq (eL e_u8 r3.Locals.S), .seq (eL (e_sl e_u8) r3.Locals.K), .seq (eL e_GValue r3.Locals.L), .int .i64 r3.Res.Kind, .int .i64 r3.Res.N, .seq (eL e_u8 r3.Res.S), .seq (eL (e_sl e_u8) r3.Res.K), .seq (eL e_GValue r3.Res.L), .int .i64 r3.Index.Kind, .int .i64 r3.Index.N, .seq (eL e_u8 r3.Index.S), .seq (eL (e_sl e_u8) r3.Index.K), .seq (eL e_GValue r3.Index.L), .int .i64 r3.Key.Kind, .int .i64 r3.Key.N, .seq (eL e_u8 r3.Key.S), .seq (eL (e_sl e_u8) r3.Key.K), .seq (eL e_GValue r3.Key.L), .int .i64 r3.Val.Kind, .int .i64 r3.Val.N, .seq (eL e_u8 r3.Val.S), .seq (eL (e_sl e_u8) r3.Val.K), .seq (eL e_GValue r3.Val.L)]) []), (.call 18 [] [.val true [.int .i64 r3.Locals.Kind, .int .i64 r3.Locals.N, .seq (eL e_u8 r3.Locals.S), .seq (eL (e_sl e_u8) r3.Locals.K), .seq (eL e_GValue r3.Locals.L), .int .i64 r3.Res.Kind, .int .i64 r3.Res.N, .seq (eL e_u8 r3.Res.S), .seq (eL (e_sl e_u8) r3.Res.K), .seq (eL e_GValue r3.Res.L), .int .i64 r3.Index.Kind, .int .i64 r3.Index.N, .seq (eL e_u8 r3.Index.S), .seq (eL (e_sl e_u8) r3.Index.K), .seq (eL e_GValue r3.Index.L), .int .i64 r3.Key.Kind, .int .i64 r3.Key.N, .seq (eL e_u8 r3.Key.S), .seq (eL (e_sl e_u8) r3.Key.K), .seq (eL e_GValue r3.Key.L), .int .i64 r3.Val.Kind, .int .i64 r3.Val.N, .seq (eL e_u8 r3.Val.S), .seq (eL (e_sl e_u8) r3.Val.K), .seq (eL e_GValue r3.Val.L)]], .r (.val false [.bool true]) []), (.eqB true true, .b true), (.notB true, .b false), (.call 17 [] [.val true [.int .i64 a0.Locals.Kind, .int .i64 a0.Locals.N, .seq (eL e_u8 a0.Locals.S), .seq (eL (e_sl e_u8) a0.Locals.K), .seq (eL e_GValue a0.Locals.L), .int .i64 a0.Res.Kind, .int .i64 a0.Res.N, .seq (eL e_u8 a0.Res.S), .seq (eL (e_sl e_u8) a0.Res.K), .seq (eL e_GValue a0.Res.L), .int .i64 a0.Index.Kind, .int .i64 a0.Index.N, .seq (eL e_u8 a0.Index.S), .seq (eL (e_sl e_u8) a0.Index.K), .seq (eL e_GValue a0.Index.L), .int .i64 a0.Key.Kind, .int .i64 a0.Key.N, .seq (eL e_u8 a0.Key.S), .seq (eL (e_sl e_u8) a0.Key.K), .seq (eL e_GValue a0.Key.L), .int .i64 a0.Val.Kind, .int .i64 a0.Val.N, .seq (eL e_u8 a0.Val.S), .seq (eL (e_sl e_u8) a0.Val.K), .seq (eL e_GValue a0.Val.L)]], .r (.val true [.int .i64 r3.Locals.Kind, .int .i64 r3.Locals.N, .seq (eL e_u8 r3.Locals.S), .seq (eL (e_sl e_u8) r3.Locals.K), .seq (eL e_GValue r3.Locals.L), .int .i64 r3.Res.Kind, .int .i64 r3.Res.N, .seq (eL e_u8 r3.Res.S), .seq (eL (e_sl e_u8) r3.Res.K), .seq (eL e_GValue r3.Res.L), .int .i64 r3.Index.Kind, .int .i64 r3.Index.N, .seq (eL e_u8 r3.Index.S), .seq (eL (e_sl e_u8) r3.Index.K), .seq (eL e_GValue r3.Index.L), .int .i64 r3.Key.Kind, .int .i64 r3.Key.N, .seq (eL e_u8 r3.Key.S), .seq (eL (e_sl e_u8) r3.Key.K), .seq (eL e_GValue r3.Key.L), .int .i64 r3.Val.Kind, .int .i64 r3.Val.N, .seq (eL e_u8 r3.Val.S), .seq (eL (e_sl e_u8) r3.Val.K), .seq (eL e_GValue r3.Val.L)]) []), (.call 19 [] [.val true [.int .i64 r3.Locals.Kind, .int .i64 r3.Locals.N, .seq (eL e_u8 r3.Locals.S), .seq (eL (e_sl e_u8) r3.Locals.K), .seq (eL e_GValue r3.Locals.L), .int .i64 r3.Res.Kind, .int .i64 r3.Res.N, .seq (eL e_u8 r3.Res.S), .seq (eL (e_sl e_u8) r3.Res.K), .seq (eL e_GValue r3.Res.L), .int .i64 r3.Index.Kind, .int .i64 r3.Index.N, .seq (eL e_u8 r3.Index.S), .seq (eL (e_sl e_u8) r3.Index.K), .seq (eL e_GValue r3.Index.L), .int .i64 r3.Key.Kind, .int .i64 r3.Key.N, .seq (eL e_u8 r3.Key.S), .seq (eL (e_sl e_u8) r3.Key.K), .seq (eL e_GValue r3.Key.L), .int .i64 r3.Val.Kind, .int .i64 r3.Val.N, .seq (eL e_u8 r3.Val.S), .seq (eL (e_sl e_u8) r3.Val.K), .seq (eL e_GValue r3.Val.L)], .val true [.int .i64 r3.Locals.Kind, .int .i64 r3.Locals.N, .seq (eL e_u8 r3.Locals.S), .seq (eL (e_sl e_u8) r3.Locals.K), .seq (eL e_GValue r3.Locals.L), .int .i64 r3.Res.Kind, .int .i64 r3.Res.N, .seq (eL e_u8 r3.Res.S), .seq (eL (e_sl e_u8) r3.Res.K), .seq (eL e_GValue r3.Res.L), .int .i64 r3.Index.Kind, .int .i64 r3.Index.N, .seq (eL e_u8 r3.Index.S), .seq (eL (e_sl e_u8) r3.Index.K), .seq (eL e_GValue r3.Index.L), .int .i64 r3.Key.Kind, .int .i64 r3.Key.N, .seq (eL e_u8 r3.Key.S), .seq (eL (e_sl e_u8) r3.Key.K), .seq (eL e_GValue r3.Key.L), .int .i64 r3.Val.Kind, .int .i64 r3.Val.N, .seq (eL e_u8 r3.Val.S), .seq (eL (e_sl e_u8) r3.Val.K), .seq (eL e_GValue r3.Val.L)]], .r (.val false [.bool false]) []), (.notB false, .b true)] rfl fd_5 (by kernel_rfl) ⟨(A.call (ok_laws_szEnv a0 1048576 _ hr1)), (A.ltI_f c2), (A.call (ok_laws_toEnv a0 _ hr3)), (A.call (ok_spec_EnvOk r3 _ hr4)), (A.call (ok_laws_toEnv a0 _ hr3)), (A.call (ok_impl_EnvOk r3 _ hr5)), rfl, rfl, (A.call (ok_laws_toEnv a0 _ hr3)), (A.call (ok_laws_eqEnv r3 r3 _ hr8)), rfl, trivial⟩
      | false =>
        try dsimp only at h
        obtain rfl := Option.some.inj h
        exact call_way cfg [(.call 15 [] [.val true [.int .i64 a0.Locals.Kind, .int .i64 a0.Locals.N, .seq (eL e_u8 a0.Locals.S), .seq (eL (e_sl e_u8) a0.Locals.K), .seq (eL e_GValue a0.Locals.L), .int .i64 a0.Res.Kind, .int .i64 a0.Res.N, .seq (eL e_u8 a0.Res.S), .seq (eL (e_sl e_u8) a0.Res.K), .seq (eL e_GValue a0.Res.L), .int .i64 a0.Index.Kind, .int .i64 a0.Index.N, .seq (eL e_u8 a0.Index.S), .seq (eL (e_sl e_u8) a0.Index.K), .seq (eL e_GValue a0.Index.L), .int .i64 a0.Key.Kind, .int .i64 a0.Key.N, .seq (eL e_u8 a0.Key.S), .seq (eL (e_sl e_u8) a0.Key.K), .seq (eL e_GValue a0.Key.L), .int .i64 a0.Val.Kind, .int .i64 a0.Val.N, .seq (eL e_u8 a0.Val.S), .seq (eL (e_sl e_u8) a0.Val.K), .seq (eL e_GValue a0.Val.L)], .val false [.int .i64 1048576]], .r (.val false [.int .i64 r1]) []), (.ltI r1 0, .b false), (.call 17 [] [.val true [.int .i64 a0.Locals.Kind, .int .i64 a0.Locals.N, .seq (eL e_u8 a0.Locals.S), .seq (eL (e_sl e_u8) a0.Locals.K), .seq (eL e_GValue a0.Locals.L), .int .i64 a0.Res.Kind, .int .i64 a0.Res.N, .seq (eL e_u8 a0.Res.S), .seq (eL (e_sl e_u8) a0.Res.K), .seq (eL e_GValue a0.Res.L), .int .i64 a0.Index.Kind, .int .i64 a0.Index.N, .seq (eL e_u8 a0.Index.S), .seq (eL (e_sl e_u8) a0.Index.K), .seq (eL e_GValue a0.Index.L), .int .i64 a0.Key.Kind, .int .i64 a0.Key.N, .seq (eL e_u8 a0.Key.S), .seq (eL (e_sl e_u8) a0.Key.K), .seq (eL e_GValue a0.Key.L), .int .i64 a0.Val.Kind, .int .i64 a0.Val.N, .seq (eL e_u8 a0.Val.S), .seq (eL (e_sl e_u8) a0.Val.K), .seq (eL e_GValue a0.Val.L)]], .r (.val true [.int .i64 r3.Locals.Kind, .int .i64 r3.Locals.N, .seq (eL e_u8 r3.Locals.S), .seq (eL (e_sl e_u8) r3.Locals.K), .seq (eL e_GValue r3.Locals.L), .int .i64 r3.Res.Kind, .int .i64 r3.Res.N, .seq (eL e_u8 r3.Res.S), .seq (eL (e_sl e_u8) r3.Res.K), .seq (eL e_GValue r3.Res.L), .int .i64 r3.Index.Kind, .int .i64 r3.Index.N, .seq (eL e_u8 r3.Index.S), .seq (eL (e_sl e_u8) r3.Index.K), .seq (eL e_GValue r3.Index.L), .int .i64 r3.Key.Kind, .int .i64 r3.Key.N, .seq (eL e_u8 r3.Key.S), .seq (eL (e_sl e_u8) r3.Key.K), .seq (eL e_GValue r3.Key.L), .int .i64 r3.Val.Kind, .int .i64 r3.Val.N, .seq (eL e_u8 r3.Val.S), .seq (eL (e_sl e_u8) r3.Val.K), .seq (eL e_GValue r3.Val.L)]) []), (.call 16 [] [.val true [.int .i64 r3.Locals.Kind, .int .i64 r3.Locals.N, .seq (eL e_u8 r3.Locals.S), .seq (eL (e_sl e_u8) r3.Locals.K), .seq (eL e_GValue r3.Locals.L), .int .i64 r3.Res.Kind, .int .i64 r3.Res.N, .seq (eL e_u8 r3.Res.S), .seq (eL (e_sl e_u8) r3.Res.K), .seq (eL e_GValue r3.Res.L), .int .i64 r3.Index.Kind, .int .i64 r3.Index.N, .seq (eL e_u8 r3.Index.S), .seq (eL (e_sl e_u8) r3.Index.K), .seq (eL e_GValue r3.Index.L), .int .i64 r3.Key.Kind, .int .i64 r3.Key.N, .seq (eL e_u8 r3.Key.S), .seq (eL (e_sl e_u8) r3.Key.K), .seq (eL e_GValue r3.Key.L), .int .i64 r3.Val.Kind, .int .i64 r3.Val.N, .seq (eL e_u8 r3.Val.S), .seq (eL (e_sl e_u8) r3.Val.K), .seq (eL e_GValue r3.Val.L)]], .r (.val false [.bool false]) []), (.call 17 [] [.val true [.int .i64 a0.Locals.Kind, .int .i64 a0.Locals.N, .seq (eL e_u8 a0.Locals.S), .seq (eL (e_sl e_u8) a0.Locals.K), .seq (eL e_GValue a0.Locals.L), .int .i64 a0.Res.Kind, .int .i64 a0.Res.N, .seq (eL e_u8 a0.Res.S), .seq (eL (e_sl e_u8) a0.Res.K), .seq (eL e_GValue a0.Res.L), .int .i64 a0.Index.Kind, .int .i64 a0.Index.N, .seq (eL e_u8 a0.Index.S), .seq (eL (e_sl e_u8) a0.Index.K), .seq (eL e_GValue a0.Index.L), .int .i64 a0.Key.Kind, .int .i64 a0.Key.N, .seq (eL e_u8 a0.Key.S), .seq (eL (e_sl e_u8) a0.Key.K), .seq (eL e_GValue a0.Key.L), .int .i64 a0.Val.Kind, .int .i64 a0.Val.N, .seq (eL e_u8 a0.Val.S), .seq (eL (e_sl e_u8) a0.Val.K), .seq (eL e_GValue a0.Val.L)]], .r (.val true [.int .i64 r3.Locals.Kind, .int .i64 r3.Locals.N, .seq (eL e_u8 r3.Locals.S), .seq (eL (e_sl e_u8) r3.Locals.K), .seq (eL e_GValue r3.Locals.L), .int .i64 r3.Res.Kind, .int .i64 r3.Res.N, .seq (eL e_u8 r3.Res.S), .seq (eL (e_sl e_u8) r3.Res.K), .seq (eL e_GValue r3.Res.L), .int .i64 r3.Index.Kind, .int .i64 r3.Index.N, .seq (eL e_u8 r3.Index.S), .seq (eL (e_sl e_u8) r3.Index.K), .seq (eL e_GValue r3.Index.L), .int .i64 r3.Key.Kind, .int .i64 r3.Key.N, .seq (eL e_u8 r3.Key.S), .seq (eL (e_sl e_u8) r3.Key.K), .seq (eL e_GValue r3.Key.L), .int .i64 r3.Val.Kind, .int .i64 r3.Val.N, .seq (eL e_u8 r3.Val.S), .seq (eL (e_sl e_u8) r3.Val.K), .seq (eL e_GValue r3.Val.L)]) []), (.call 18 [] [.val true [.int .i64 r3.Locals.Kind, .int .i64 r3.Locals.N, .seq (eL e_u8 r3.Locals.S), .seq (eL (e_sl e_u8) r3.Locals.K), .seq (eL e_GValue r3.Locals.L), .int .i64 r3.Res.Kind, .int .i64 r3.Res.N, .seq (eL e_u8 r3.Res.S), .seq (eL (e_sl e_u8) r3.Res.K), .seq (eL e_GValue r3.Res.L), .int .i64 r3.Index.Kind, .int .i64 r3.Index.N, .seq (eL e_u8 r3.Index.S), .seq (eL (e_sl e_u8) r3.Index.K), .seq (eL e_GValue r3.Index.L), .int .i64 r3.Key.Kind, .int .i64 r3.Key.N, .seq (eL e_u8 r3.Key.S), .seq (eL (e_sl e_u8) r3.Key.K), .seq (eL e_GValue r3.Key.L), .int .i64 r3.Val.Kind, .int .i64 r3.Val.N, .seq (eL e_u8 r3.Val.S), .seq (eL (e_sl e_u8) r3.Val.K), .seq (eL e_GValue r3.Val.L)]], .r (.val false [.bool true]) []), (.eqB true false, .b false), (.notB false, .b true)] rfl fd_5 (by kernel_rfl) ⟨(A.call (ok_laws_szEnv a0 1048576 _ hr1)), (A.ltI_f c2), (A.call (ok_laws_toEnv a0 _ hr3)), (A.call (ok_spec_EnvOk r3 _ hr4)), (A.call (ok_laws_toEnv a0 _ hr3)), (A.call (ok_impl_EnvOk r3 _ hr5)), rfl, rfl, trivial⟩
    | false =>
      try dsimp only at h
      cases r4 with
      | true =>
        try dsimp only at h
        obtain rfl := Option.some.inj h
        exact call_way cfg [(.call 15 [] [.val true [.int .i64 a0.Locals.Kind, .int .i64 a0.Locals.N, .seq (eL e_u8 a0.Locals.S), .seq (eL (e_sl e_u8) a0.Locals.K), .seq (eL e_GValue a0.Locals.L), .int .i64 a0.Res.Kind, .int .i64 a0.Res.N, .seq (eL e_u8 a0.Res.S), .seq (eL (e_sl e_u8) a0.Res.K), .seq (eL e_GValue a0.Res.L), .int .i64 a0.Index.Kind, .int .i64 a0.Index.N, .seq (eL e_u8 a0.Index.S), .seq (eL (e_sl e_u8) a0.Index.K), .seq (eL e_GValue a0.Index.L), .int .i64 a0.Key.Kind, .int .i64 a0.Key.N, .seq (eL e_u8 a0.Key.S), .seq (eL (e_sl e_u8) a0.Key.K), .seq (eL e_GValue a0.Key.L), .int .i64 a0.Val.Kind, .int .i64 a0.Val.N, .seq (eL e_u8 a0.Val.S), .seq (eL (e_sl e_u8) a0.Val.K), .seq (eL e_GValue a0.Val.L)], .val false [.int .i64 1048576]], .r (.val false [.int .i64 r1]) []), (.ltI r1 0, .b false), (.call 17 [] [.val true [.int .i64 a0.Locals.Kind, .int .i64 a0.Locals.N, .seq (eL e_u8 a0.Locals.S), .seq (eL (e_sl e_u8) a0.Locals.K), .seq (eL e_GValue a0.Locals.L), .int .i64 a0.Res.Kind, .int .i64 a0.Res.N, .seq (eL e_u8 a0.Res.S), .seq (eL (e_sl e_u8) a0.Res.K), .seq (eL e_GValue a0.Res.L), .int .i64 a0.Index.Kind, .int .i64 a0.Index.N, .seq (eL e_u8 a0.Index.S), .seq (eL (e_sl e_u8) a0.Index.K), .seq (eL e_GValue a0.Index.L), .int .i64 a0.Key.Kind, .int .i64 a0.Key.N, .seq (eL e_u8 a0.Key.S), .seq (eL (e_sl e_u8) a0.Key.K), .seq (eL e_GValue a0.Key.L), .int .i64 a0.Val.Kind, .int .i64 a0.Val.N, .seq (eL e_u8 a0.Val.S), .seq (eL (e_sl e_u8) a0.Val.K), .seq (eL e_GValue a0.Val.L)]], .r (.val true [.int .i64 r3.Locals.Kind, .int .i64 r3.Locals.N, .seq (eL e_u8 r3.Locals.S), .seq (eL (e_sl e_u8) r3.Locals.K), .seq (eL e_GValue r3.Locals.L), .int .i64 r3.Res.Kind, .int .i64 r3.Res.N, .seq (eL e_u8 r3.Res.S), .seq (eL (e_sl e_u8) r3.Res.K), .seq (eL e_GValue r3.Res.L), .int .i64 r3.Index.Kind, .int .i64 r3.Index.N, .seq (eL e_u8 r3.Index.S), .seq (eL (e_sl e_u8) r3.Index.K), .seq (eL e_GValue r3.Index.L), .int .i64 r3.Key.Kind, .int .i64 r3.Key.N, .seq (eL e_u8 r3.Key.S), .seq (eL (e_sl e_u8) r3.Key.K), .seq (eL e_GValue r3.Key.L), .int .i64 r3.Val.Kind, .int .i64 r3.Val.N, .seq (eL e_u8 r3.Val.S), .seq (eL (e_sl e_u8) r3.Val.K), .seq (eL e_GValue r3.Val.L)]) []), (.call 16 [] [.val true [.int .i64 r3.Locals.Kind, .int .i64 r3.Locals.N, .seq (eL e_u8 r3.Locals.S), .seq (eL (e_sl e_u8) r3.Locals.K), .seq (eL e_GValue r3.Locals.L), .int .i64 r3.Res.Kind, .int .i64 r3.Res.N, .seq (eL e_u8 r3.Res.S), .seq (eL (e_sl e_u8) r3.Res.K), .seq (eL e_GValue r3.Res.L), .int .i64 r3.Index.Kind, .int .i64 r3.Index.N, .seq (eL e_u8 r3.Index.S), .seq (eL (e_sl e_u8) r3.Index.K), .seq (eL e_GValue r3.Index.L), .int .i64 r3.Key.Kind, .int .i64 r3.Key.N, .seq (eL e_u8 r3.Key.S), .seq (eL (e_sl e_u8) r3.Key.K), .seq (eL e_GValue r3.Key.L), .int .i64 r3.Val.Kind, .int .i64 r3.Val.N, .seq (eL e_u8 r3.Val.S), .seq (eL (e_sl e_u8) r3.Val.K), .seq (eL e_GValue r3.Val.L)]], .r (.val false [.bool true]) []), (.call 17 [] [.val true [.int .i64 a0.Locals.Kind, .int .i64 a0.Locals.N, .seq (eL e_u8 a0.Locals.S), .seq (eL (e_sl e_u8) a0.Locals.K), .seq (eL e_GValue a0.Locals.L), .int .i64 a0.Res.Kind, .int .i64 a0.Res.N, .seq (eL e_u8 a0.Res.S), .seq (eL (e_sl e_u8) a0.Res.K), .seq (eL e_GValue a0.Res.L), .int .i64 a0.Index.Kind, .int .i64 a0.Index.N, .seq (eL e_u8 a0.Index.S), .seq (eL (e_sl e_u8) a0.Index.K), .seq (eL e_GValue a0.Index.L), .int .i64 a0.Key.Kind, .int .i64 a0.Key.N, .seq (eL e_u8 a0.Key.S), .seq (eL (e_sl e_u8) a0.Key.K), .seq (eL e_GValue a0.Key.L), .int .i64 a0.Val.Kind, .int .i64 a0.Val.N, .seq (eL e_u8 a0.Val.S), .seq (eL (e_sl e_u8) a0.Val.K), .seq (eL e_GValue a0.Val.L)]], .r (.val true [.int .i64 r3.Locals.Kind, .int .i64 r3.Locals.N, .seq (eL e_u8 r3.Locals.S), .seq (eL (e_sl e_u8) r3.Locals.K), .seq (eL e_GValue r3.Locals.L), .int .i64 r3.Res.Kind, .int .i64 r3.Res.N, .seq (eL e_u8 r3.Res.S), .seq (eL (e_sl e_u8) r3.Res.K), .seq (eL e_GValue r3.Res.L), .int .i64 r3.Index.Kind, .int .i64 r3.Index.N, .seq (eL e_u8 r3.Index.S), .seq (eL (e_sl e_u8) r3.Index.K), .seq (eL e_GValue r3.Index.L), .int .i64 r3.Key.Kind, .int .i64 r3.Key.N, .seq (eL e_u8 r3.Key.S), .seq (eL (e_sl e_u8) r3.Key.K), .seq (eL e_GValue r3.Key.L), .int .i64 r3.Val.Kind, .int .i64 r3.Val.N, .seq (eL e_u8 r3.Val.S), .seq (eL (e_sl e_u8) r3.Val.K), .seq (eL e_GValue r3.Val.L)]) []), (.call 18 [] [.val true [.int .i64 r3.Locals.Kind, .int .i64 r3.Locals.N, .seq (eL e_u8 r3.Locals.S), .seq (eL (e_sl e_u8) r3.Locals.K), .seq (eL e_GValue r3.Locals.L), .int .i64 r3.Res.Kind, .int .i64 r3.Res.N, .seq (eL e_u8 r3.Res.S), .seq (eL (e_sl e_u8) r3.Res.K), .seq (eL e_GValue r3.Res.L), .int .i64 r3.Index.Kind, .int .i64 r3.Index.N, .seq (eL e_u8 r3.Index.S), .seq (eL (e_sl e_u8) r3.Index.K), .seq (eL e_GValue r3.Index.L), .int .i64 r3.Key.Kind, .int .i64 r3.Key.N, .seq (eL e_u8 r3.Key.S), .seq (eL (e_sl e_u8) r3.Key.K), .seq (eL e_GValue r3.Key.L), .int .i64 r3.Val.Kind, .int .i64 r3.Val.N, .seq (eL e_u8 r3.Val.S), .seq (eL (e_sl e_u8) r3.Val.K), .seq (eL e_GValue r3.Val.L)]], .r (.val false [.bool false]) []), (.eqB false true, .b false), (.notB false, .b true)] rfl fd_5 (by kernel_rfl) ⟨(A.call (ok_laws_szEnv a0 1048576 _ hr1)), (A.ltI_f c2), (A.call (ok_laws_toEnv a0 _ hr3)), (A.call (ok_spec_EnvOk r3 _ hr4)), (A.call (ok_laws_toEnv a0 _ hr3)), (A.call (ok_impl_EnvOk r3 _ hr5)), rfl, rfl, trivial⟩
      | false =>
        try dsimp only at h
        obtain ⟨r8, hr8, h⟩ := Option.bind_eq_some_iff.1 h
        cases r8 with
        | true =>
          try dsimp only at h
          obtain rfl := Option.some.inj h
          exact call_way cfg [(.call 15 [] [.val true [.int .i64 a0.Locals.Kind, .int .i64 a0.Locals.N, .seq (eL e_u8 a0.Locals.S), .seq (eL (e_sl e_u8) a0.Locals.K), .seq (eL e_GValue a0.Locals.L), .int .i64 a0.Res.Kind, .int .i64 a0.Res.N, .seq (eL e_u8 a0.Res.S), .seq (eL (e_sl e_u8) a0.Res.K), .seq (eL e_GValue a0.Res.L), .int .i64 a0.Index.Kind, .int .i64 a0.Index.N, .seq (eL e_u8 a0.Index.S), .seq (eL (e_sl e_u8) a0.Index.K), .seq (eL e_GValue a0.Index.L), .int .i64 a0.Key.Kind, .int .i64 a0.Key.N, .seq (eL e_u8 a0.Key.S), .seq (eL (e_sl e_u8) a0.Key.K), .seq (eL e_GValue a0.Key.L), .int .i64 a0.Val.Kind, .int .i64 a0.Val.N, .seq (eL e_u8 a0.Val.S), .seq (eL (e_sl e_u8) a0.Val.K), .seq (eL e_GValue a0.Val.L)], .val false [.int .i64 1048576]], .r (.val false [.int .i64 r1]) []), (.ltI r1 0, .b false), (.call 17 [] [.val true [.int .i64 a0.Locals.Kind, .int .i64 a0.Locals.N, .seq (eL e_u8 a0.Locals.S), .seq (eL (e_sl e_u8) a0.Locals.K), .seq (eL e_GValue a0.Locals.L), .int .i64 a0.Res.Kind, .int .i64 a0.Res.N, .seq (eL e_u8 a0.Res.S), .seq (eL (e_sl e_u8) a0.Res.K), .seq (eL e_GValue a0.Res.L), .int .i64 a0.Index.Kind, .int .i64 a0.Index.N, .seq (eL e_u8 a0.Index.S), .seq (eL (e_sl e_u8) a0.Index.K), .seq (eL e_GValue a0.Index.L), .int .i64 a0.Key.Kind, .int .i64 a0.Key.N, .seq (eL e_u8 a0.Key.S), .seq (eL (e_sl e_u8) a0.Key.K), .seq (eL e_GValue a0.Key.L), .int .i64 a0.Val.Kind, .int .i64 a0.Val.N, .seq (eL e_u8 a0.Val.S), .seq (eL (e_sl e_u8) a0.Val.K), .seq (eL e_GValue a0.Val.L)]], .r (.val true [.int .i64 r3.Locals.Kind, .int .i64 r3.Locals.N, .seq (eL e_u8 r3.Locals.S), .seq (eL (e_sl e_u8) r3.Locals.K), .seq (eL e_GValue r3.Locals.L), .int .i64 r3.Res.Kind, .int .i64 r3.Res.N, .seq (eL e_u8 r3.Res.S), .seq (eL (e_sl e_u8) r3.Res.K), .seq (eL e_GValue r3.Res.L), .int .i64 r3.Index.Kind, .int .i64 r3.Index.N, .seq (eL e_u8 r3.Index.S), .seq (eL (e_sl e_u8) r3.Index.K), .seq (eL e_GValue r3.Index.L), .int .i64 r3.Key.Kind, .int .i64 r3.Key.N, .seq (eL e_u8 r3.Key.S), .seq (eL (e_sl e_u8) r3.Key.K), .seq (eL e_GValue r3.Key.L), .int .i64 r3.Val.Kind, .int .i64 r3.Val.N, .seq (eL e_u8 r3.Val.S), .seq (eL (e_sl e_u8) r3.Val.K), .seq (eL e_GValue r3.Val.L)]) []), (.call 16 [] [.val true [.int .i64 r3.Locals.Kind, .int .i64 r3.Locals.N, .seq (eL e_u8 r3.Locals.S), .seq (eL (e_sl e_u8) r3.Locals.K), .seq (eL e_GValue r3.Locals.L), .int .i64 r3.Res.Kind, .int .i64 r3.Res.N, .seq (eL e_u8 r3.Res.S), .seq (eL (e_sl e_u8) r3.Res.K), .seq (eL e_GValue r3.Res.L), .int .i64 r3.Index.Kind, .int .i64 r3.Index.N, .seq (eL e_u8 r3.Index.S), .seq (eL (e_sl e_u8) r3.Index.K), .seq (eL e_GValue r3.Index.L), .int .i64 r3.Key.Kind, .int .i64 r3.Key.N, .seq (eL e_u8 r3.Key.S), .seq (eL (e_sl e_u8) r3.Key.K), .seq (eL e_GValue r3.Key.L), .int .i64 r3.Val.Kind, .int .i64 r3.Val.N, .seq (eL e_u8 r3.Val.S), .seq (eL (e_sl e_u8) r3.Val.K), .seq (eL e_GValue r3.Val.L)]], .r (.val false [.bool false]) []), (.call 17 [] [.val true [.int .i64 a0.Locals.Kind, .int .i64 a0.Locals.N, .seq (eL e_u8 a0.Locals.S), .seq (eL (e_sl e_u8) a0.Locals.K), .seq (eL e_GValue a0.Locals.L), .int .i64 a0.Res.Kind, .int .i64 a0.Res.N, .seq (eL e_u8 a0.Res.S), .seq (eL (e_sl e_u8) a0.Res.K), .seq (eL e_GValue a0.Res.L), .int .i64 a0.Index.Kind, .int .i64 a0.Index.N, .seq (eL e_u8 a0.Index.S), .seq (eL (e_sl e_u8) a0.Index.K), .seq (eL e_GValue a0.Index.L), .int .i64 a0.Key.Kind, .int .i64 a0.Key.N, .seq (eL e_u8 a0.Key.S), .seq (eL (e_sl e_u8) a0.Key.K), .seq (eL e_GValue a0.Key.L), .int .i64 a0.Val.Kind, .int .i64 a0.Val.N, .seq (eL e_u8 a0.Val.S), .seq (eL (e_sl e_u8) a0.Val.K), .seq (eL e_GValue a0.Val.L)]], .r (.val true [.int .i64 r3.Locals.Kind, .int .i64 r3.Locals.N, .seq (eL e_u8 r3.Locals.S), .seq (eL (e_sl e_u8) r3.Locals.K), .seq (eL e_GValue r3.Locals.L), .int .i64 r3.Res.Kind, .int .i64 r3.Res.N, .seq (eL e_u8 r3.Res.S), .seq (eL (e_sl e_u8) r3.Res.K), .seq (eL e_GValue r3.Res.L), .int .i64 r3.Index.Kind, .int .i64 r3.Index.N, .seq (eL e_u8 r3.Index.S), .seq (eL (e_sl e_u8) r3.Index.K), .seq (eL e_GValue r3.Index.L), .int .i64 r3.Key.Kind, .int .i64 r3.Key.N, .seq (eL e_u8 r3.Key.S), .seq (eL (e_sl e_u8) r3.Key.K), .seq (eL e_GValue r3.Key.L), .int .i64 r3.Val.Kind, .int .i64 r3.Val.N, .seq (eL e_u8 r3.Val.S), .seq (eL (e_sl e_u8) r3.Val.K), .seq (eL e_GValue r3.Val.L)]) []), (.call 18 [] [.val true [.int .i64 r3.Locals.Kind, .int .i64 r3.Locals.N, .seq (eL e_u8 r3.Locals.S), .seq (eL (e_sl e_u8) r3.Locals.K), .seq (eL e_GValue r3.Locals.L), .int .i64 r3.Res.Kind, .int .i64 r3.Res.N, .seq (eL e_u8 r3.Res.S), .seq (eL (e_sl e_u8) r3.Res.K), .seq (eL e_GValue r3.Res.L), .int .i64 r3.Index.Kind, .int .i64 r3.Index.N, .seq (eL e_u8 r3.Index.S), .seq (eL (e_sl e_u8) r3.Index.K), .seq (eL e_GValue r3.Index.L), .int .i64 r3.Key.Kind, .int .i64 r3.Key.N, .seq (eL e_u8 r3.Key.S), .seq (eL (e_sl e_u8) r3.Key.K), .seq (eL e_GValue r3.Key.L), .int .i64 r3.Val.Kind, .int .i64 r3.Val.N, .seq (eL e_u8 r3.Val.S), .seq (eL (e_sl e_u8) r3.Val.K), .seq (eL e_GValue r3.Val.L)]], .r (.val false [.bool false]) []), (.eqB false false, .b true), (.notB true, .b false), (.call 17 [] [.val true [.int .i64 a0.Locals.Kind, .int .i64 a0.Locals.N, .seq (eL e_u8 a0.Locals.S), .seq (eL (e_sl e_u8) a0.Locals.K), .seq (eL e_GValue a0.Locals.L), .int .i64 a0.Res.Kind, .int .i64 a0.Res.N, .seq (eL e_u8 a0.Res.S), .seq (eL (e_sl e_u8) a0.Res.K), .seq (eL e_GValue a0.Res.L), .int .i64 a0.Index.Kind, .int .i64 a0.Index.N, .seq (eL e_u8 a0.Index.S), .seq (eL (e_sl e_u8) a0.Index.K), .seq (eL e_GValue a0.Index.L), .int .i64 a0.Key.Kind, .int .i64 a0.Key.N, .seq (eL e_u8 a0.Key.S), .seq (eL (e_sl e_u8) a0.Key.K), .seq (eL e_GValue a0.Key.L), .int .i64 a0.Val.Kind, .int .i64 a0.Val.N, .seq (eL e_u8 a0.Val.S), .seq (eL (e_sl e_u8) a0.Val.K), .seq (eL e_GValue a0.Val.L)]], .r (.val true [.int .i64 r3.Locals.Kind, .int .i64 r3.Locals.N, .seq (eL e_u8 r3.Locals.S), .seq (eL (e_sl e_u8) r3.Locals.K), .seq (eL e_GValue r3.Locals.L), .int .i64 r3.Res.Kind, .int .i64 r3.Res.N, .seq (eL e_u8 r3.Res.S), .seq (eL (e_sl e_u8) r3.Res.K), .seq (eL e_GValue r3.Res.L), .int .i64 r3.Index.Kind, .int .i64 r3.Index.N, .seq (eL e_u8 r3.Index.S), .seq (eL (e_sl e_u8) r3.Index.K), .seq (eL e_GValue r3.Index.L), .int .i64 r3.Key.Kind, .int .i64 r3.Key.N, .seq (eL e_u8 r3.Key.S), .seq (eL (e_sl e_u8) r3.Key.K), .seq (eL e_GValue r3.Key.L), .int .i64 r3.Val.Kind, .int .i64 r3.Val.N, .seq (eL e_u8 r3.Val.S), .seq (eL (e_sl e_u8) r3.Val.K), .seq (eL e_GValue r3.Val.L)]) []), (.call 19 [] [.val true [.int .i64 r3.Locals.Kind, .int .i64 r3.Locals.N, .seq (eL e_u8 r3.Locals.S), .seq (eL (e_sl e_u8) r3.Locals.K), .seq (eL e_GValue r3.Locals.L), .int .i64 r3.Res.Kind, .int .i64 r3.Res.N, .seq (eL e_u8 r3.Res.S), .seq (eL (e_sl e_u8) r3.Res.K), .seq (eL e_GValue r3.Res.L), .int .i64 r3.Index.Kind, .int .i64 r3.Index.N, .seq (eL e_u8 r3.Index.S), .seq (eL (e_sl e_u8) r3.Index.K), .seq (eL e_GValue r3.Index.L), .int .i64 r3.Key.Kind, .int .i64 r3.Key.N, .seq (eL e_u8 r3.Key.S), .seq (eL (e_sl e_u8) r3.Key.K), .seq (eL e_GValue r3.Key.L), .int .i64 r3.Val.Kind, .int .i64 r3.Val.N, .seq (eL e_u8 r3.Val.S), .seq (eL (e_sl e_u8) r3.Val.K), .seq (eL e_GValue r3.Val.L)], .val true [.int .i64 r3.Locals.Kind, .int .i64 r3.Locals.N, .seq (eL e_u8 r3.Locals.S), .seq (eL (e_sl e_u8) r3.Locals.K), .seq (eL e_GValue r3.Locals.L), .int .i64 r3.Res.Kind, .int .i64 r3.Res.N, .seq (eL e_u8 r3.Res.S), .seq (eL (e_sl e_u8) r3.Res.K), .seq (eL e_GValue r3.Res.L), .int .i64 r3.Index.Kind, .int .i64 r3.Index.N, .seq (eL e_u8 r3.Index.S), .seq (eL (e_sl e_u8) r3.Index.K), .seq (eL e_GValue r3.Index.L), .int .i64 r3.Key.Kind, .int .i64 r3.Key.N, .seq (eL e_u8 r3.Key.S), .seq (eL (e_sl e_u8) r3.Key.K), .seq (eL e_GValue r3.Key.L), .int .i64 r3.Val.Kind, .int .i64 r3.Val.N, .seq (eL e_u8 r3.Val.S), .seq (eL (e_sl e_u8) r3.Val.K), .seq (eL e_GValue r3.Val.L)]], .r (.val false [.bool true]) []), (.notB true, .b false)] rfl fd_5 (by kernel_rfl) ⟨(A.call (ok_laws_szEnv a0 1048576 _ hr1)), (A.ltI_f c2), (A.call (ok_laws_toEnv a0 _ hr3)), (A.call (ok_spec_EnvOk r3 _ hr4)), (A.call (ok_laws_toEnv a0 _ hr3)), (A.call (ok_impl_EnvOk r3 _ hr5)), rfl, rfl, (A.call (ok_laws_toEnv a0 _ hr3)), (A.call (ok_laws_eqEnv r3 r3 _ hr8)), rfl, trivial⟩
        | false =>
          try dsimp only at h
          obtain rfl := Option.some.inj h
          exact call_way cfg [(.call 15 [] [.val true [.int .i64 a0.Locals.Kind, .int .i64 a0.Locals.N, .seq (eL e_u8 a0.Locals.S), .seq (eL (e_sl e_u8) a0.Locals.K), .seq (eL e_GValue a0.Locals.L), .int .i64 a0.Res.Kind, .int .i64 a0.Res.N, .seq (eL e_u8 a0.Res.S), .seq (eL (e_sl e_u8) a0.Res.K), .seq (eL e_GValue a0.Res.L), .int .i64 a0.Index.Kind, .int .i64 a0.Index.N, .seq (eL e_u8 a0.Index.S), .seq (eL (e_sl e_u8) a0.Index.K), .seq (eL e_GValue a0.Index.L), .int .i64 a0.Key.Kind, .int .i64 a0.Key.N, .seq (eL e_u8 a0.Key.S), .seq (eL (e_sl e_u8) a0.Key.K), .seq (eL e_GValue a0.Key.L), .int .i64 a0.Val.Kind, .int .i64 a0.Val.N, .seq (eL e_u8 a0.Val.S), .seq (eL (e_sl e_u8) a0.Val.K), .seq (eL e_GValue a0.Val.L)], .val false [.int .i64 1048576]], .r (.val false [.int .i64 r1]) []), (.ltI r1 0, .b false), (.call 17 [] [.val true [.int .i64 a0.Locals.Kind, .int .i64 a0.Locals.N, .seq (eL e_u8 a0.Locals.S), .seq (eL (e_sl e_u8) a0.Locals.K), .seq (eL e_GValue a0.Locals.L), .int .i64 a0.Res.Kind, .int .i64 a0.Res.N, .seq (eL e_u8 a0.Res.S), .seq (eL (e_sl e_u8) a0.Res.K), .seq (eL e_GValue a0.Res.L), .int .i64 a0.Index.Kind, .int .i64 a0.Index.N, .seq (eL e_u8 a0.Index.S), .seq (eL (e_sl e_u8) a0.Index.K), .seq (eL e_GValue a0.Index.L), .int .i64 a0.Key.Kind, .int .i64 a0.Key.N, .seq (eL e_u8 a0.Key.S), .seq (eL (e_sl e_u8) a0.Key.K), .seq (eL e_GValue a0.Key.L), .int .i64 a0.Val.Kind, .int .i64 a0.Val.N, .seq (eL e_u8 a0.Val.S), .seq (eL (e_sl e_u8) a0.Val.K), .seq (eL e_GValue a0.Val.L)]], .r (.val true [.int .i64 r3.Locals.Kind, .int .i64 r3.Locals.N, .seq (eL e_u8 r3.Locals.S), .seq (eL (e_sl e_u8) r3.Locals.K), .seq (eL e_GValue r3.Locals.L), .int .i64 r3.Res.Kind, .int .i64 r3.Res.N, .seq (eL e_u8 r3.Res.S), .seq (eL (e_sl e_u8) r3.Res.K), .seq (eL e_GValue r3.Res.L), .int .i64 r3.Index.Kind, .int .i64 r3.Index.N, .seq (eL e_u8 r3.Index.S), .seq (eL (e_sl e_u8) r3.Index.K), .seq (eL e_GValue r3.Index.L), .int .i64 r3.Key.Kind, .int .i64 r3.Key.N, .seq (eL e_u8 r3.Key.S), .seq (eL (e_sl e_u8) r3.Key.K), .seq (eL e_GValue r3.Key.L), .int .i64 r3.Val.Kind, .int .i64 r3.Val.N, .seq (eL e_u8 r3.Val.S), .seq (eL (e_sl e_u8) r3.Val.K), .seq (eL e_GValue r3.Val.L)]) []), (.call 16 [] [.val true [.int .i64 r3.Locals.Kind, .int .i64 r3.Locals.N, .seq (eL e_u8 r3.Locals.S), .seq (eL (e_sl e_u8) r3.Locals.K), .seq (eL e_GValue r3.Locals.L), .int .i64 r3.Res.Kind, .int .i64 r3.Res.N, .seq (eL e_u8 r3.Res.S), .seq (eL (e_sl e_u8) r3.Res.K), .seq (eL e_GValue r3.Res.L), .int .i64 r3.Index.Kind, .int .i64 r3.Index.N, .seq (eL e_u8 r3.Index.S), .seq (eL (e_sl e_u8) r3.Index.K), .seq (eL e_GValue r3.Index.L), .int .i64 r3.Key.Kind, .int .i64 r3.Key.N, .seq (eL e_u8 r3.Key.S), .seq (eL (e_sl e_u8) r3.Key.K), .seq (eL e_GValue r3.Key.L), .int .i64 r3.Val.Kind, .int .i64 r3.Val.N, .seq (eL e_u8 r3.Val.S), .seq (eL (e_sl e_u8) r3.Val.K), .seq (eL e_GValue r3.Val.L)]], .r (.val false [.bool false]) []), (.call 17 [] [.val true [.int .i64 a0.Locals.Kind, .int .i64 a0.Locals.N, .seq (eL e_u8 a0.Locals.S), .seq (eL (e_sl e_u8) a0.Locals.K), .seq (eL e_GValue a0.Locals.L), .int .i64 a0.Res.Kind, .int .i64 a0.Res.N, .seq (eL e_u8 a0.Res.S), .seq (eL (e_sl e_u8) a0.Res.K), .seq (eL e_GValue a0.Res.L), .int .i64 a0.Index.Kind, .int .i64 a0.Index.N, .seq (eL e_u8 a0.Index.S), .seq (eL (e_sl e_u8) a0.Index.K), .seq (eL e_GValue a0.Index.L), .int .i64 a0.Key.Kind, .int .i64 a0.Key.N, .seq (eL e_u8 a0.Key.S), .seq (eL (e_sl e_u8) a0.Key.K), .seq (eL e_GValue a0.Key.L), .int .i64 a0.Val.Kind, .int .i64 a0.Val.N, .seq (eL e_u8 a0.Val.S), .seq (eL (e_sl e_u8) a0.Val.K), .seq (eL e_GValue a0.Val.L)]], .r (.val true [.int .i64 r3.Locals.Kind, .int .i64 r3.Locals.N, .seq (eL e_u8 r3.Locals.S), .seq (eL (e_sl e_u8) r3.Locals.K), .seq (eL e_GValue r3.Locals.L), .int .i64 r3.Res.Kind, .int .i64 r3.Res.N, .seq (eL e_u8 r3.Res.S), .seq (eL (e_sl e_u8) r3.Res.K), .seq (eL e_GValue r3.Res.L), .int .i64 r3.Index.Kind, .int .i64 r3.Index.N, .seq (eL e_u8 r3.Index.S), .seq (eL (e_sl e_u8) r3.Index.K), .seq (eL e_GValue r3.Index.L), .int .i64 r3.Key.Kind, .int .i64 r3.Key.N, .seq (eL e_u8 r3.Key.S), .seq (eL (e_sl e_u8) r3.Key.K), .seq (eL e_GValue r3.Key.L), .int .i64 r3.Val.Kind, .int .i64 r3.Val.N, .seq (eL e_u8 r3.Val.S), .seq (eL (e_sl e_u8) r3.Val.K), .seq (eL e_GValue r3.Val.L)]) []), (.call 18 [] [.val true [.int .i64 r3.Locals.Kind, .int .i64 r3.Locals.N, .seq (eL e_u8 r3.Locals.S), .seq (eL (e_sl e_u8) r3.Locals.K), .seq (eL e_GValue r3.Locals.L), .int .i64 r3.Res.Kind, .int .i64 r3.Res.N, .seq (eL e_u8 r3.Res.S), .seq (eL (e_sl e_u8) r3.Res.K), .seq (eL e_GValue r3.Res.L), .int .i64 r3.Index.Kind, .int .i64 r3.Index.N, .seq (eL e_u8 r3.Index.S), .seq (eL (e_sl e_u8) r3.Index.K), .seq (eL e_GValue r3.Index.L), .int .i64 r3.Key.Kind, .int .i64 r3.Key.N, .seq (eL e_u8 r3.Key.S), .seq (eL (e_sl e_u8) r3.Key.K), .seq (eL e_GValue r3.Key.L), .int .i64 r3.Val.Kind, .int .i64 r3.Val.N, .seq (eL e_u8 r3.Val.S), .seq (eL (e_sl e_u8) r3.Val.K), .seq (eL e_GValue r3.Val.L)]], .r (.val false [.bool false]) []), (.eqB false false, .b true), (.notB true, .b false), (.call 17 [] [.val true [.int .i64 a0.Locals.Kind, .int .i64 a0.Locals.N, .seq (eL e_u8 a0.Locals.S), .seq (eL (e_sl e_u8) a0.Locals.K), .seq (eL e_GValue a0.Locals.L), .int .i64 a0.Res.Kind, .int .i64 a0.Res.N, .seq (eL e_u8 a0.Res.S), .seq (eL (e_sl e_u8) a0.Res.K), .seq (eL e_GValue a0.Res.L), .int .i64 a0.Index.Kind, .int .i64 a0.Index.N, .seq (eL e_u8 a0.Index.S), .seq (eL (e_sl e_u8) a0.Index.K), .seq (eL e_GValue a0.Index.L), .int .i64 a0.Key.Kind, .int .i64 a0.Key.N, .seq (eL e_u8 a0.Key.S), .seq (eL (e_sl e_u8) a0.Key.K), .seq (eL e_GValue a0.Key.L), .int .i64 a0.Val.Kind, .int .i64 a0.Val.N, .seq (eL e_u8 a0.Val.S), .seq (eL (e_sl e_u8) a0.Val.K), .seq (eL e_GValue a0.Val.L)]], .r (.val true [.int .i64 r3.Locals.Kind, .int .i64 r3.Locals.N, .seq (eL e_u8 r3.Locals.S), .seq (eL (e_sl e_u8) r3.Locals.K), .seq (eL e_GValue r3.Locals.L), .int .i64 r3.Res.Kind, .int .i64 r3.Res.N, .seq (eL e_u8 r3.Res.S), .seq (eL (e_sl e_u8) r3.Res.K), .seq (eL e_GValue r3.Res.L), .int .i64 r3.Index.Kind, .int .i64 r3.Index.N, .seq (eL e_u8 r3.Index.S), .seq (eL (e_sl e_u8) r3.Index.K), .seq (eL e_GValue r3.Index.L), .int .i64 r3.Key.Kind, .int .i64 r3.Key.N, .seq (eL e_u8 r3.Key.S), .seq (eL (e_sl e_u8) r3.Key.K), .seq (eL e_GValue r3.Key.L), .int .i64 r3.Val.Kind, .int .i64 r3.Val.N, .seq (eL e_u8 r3.Val.S), .seq (eL (e_sl e_u8) r3.Val.K), .seq (eL e_GValue r3.Val.L)]) []), (.call 19 [] [.val true [.int .i64 r3.Locals.Kind, .int .i64 r3.Locals.N, .seq (eL e_u8 r3.Locals.S), .seq (eL (e_sl e_u8) r3.Locals.K), .seq (eL e_GValue r3.Locals.L), .int .i64 r3.Res.Kind, .int .i64 r3.Res.N, .seq (eL e_u8 r3.Res.S), .seq (eL (e_sl e_u8) r3.Res.K), .seq (eL e_GValue r3.Res.L), .int .i64 r3.Index.Kind, .int .i64 r3.Index.N, .seq (eL e_u8 r3.Index.S), .seq (eL (e_sl e_u8) r3.Index.K), .seq (eL e_GValue r3.Index.L), .int .i64 r3.Key.Kind, .int .i64 r3.Key.N, .seq (eL e_u8 r3.Key.S), .seq (eL (e_sl e_u8) r3.Key.K), .seq (eL e_GValue r3.Key.L), .int .i64 r3.Val.Kind, .int .i64 r3.Val.N, .seq (eL e_u8 r3.Val.S), .seq (eL (e_sl e_u8) r3.Val.K), .seq (eL e_GValue r3.Val.L)], .val true [.int .i64 r3.Locals.Kind, .int .i64 r3.Locals.N, .seq (eL e_u8 r3.Locals.S), .seq (eL (e_sl e_u8) r3.Locals.K), .seq (eL e_GValue r3.Locals.L), .int .i64 r3.Res.Kind, .int .i64 r3.Res.N, .seq (eL e_u8 r3.Res.S), .seq (eL (e_sl e_u8) r3.Res.K), .seq (eL e_GValue r3.Res.L), .int .i64 r3.Index.Kind, .int .i64 r3.Index.N, .seq (eL e_u8 r3.Index.S), .seq (eL (e_sl e_u8) r3.Index.K), .seq (eL e_GValue r3.Index.L), .int .i64 r3.Key.Kind, .int .i64 r3.Key.N, .seq (eL e_u8 r3.Key.S), .seq (eL (e_sl e_u8) r3.Key.K), .seq (eL e_GValue r3.Key.L), .int .i64 r3.Val.Kind, .int .i64 r3.Val.N, .seq (eL e_u8 r3.Val.S), .seq (eL (e_sl e_u8) r3.Val.K), .seq (eL e_GValue r3.Val.L)]], .r (.val false [.bool false]) []), (.notB false, .b true)] rfl fd_5 (by kernel_rfl) ⟨(A.call (ok_laws_szEnv a0 1048576 _ hr1)), (A.ltI_f c2), (A.call (ok_laws_toEnv a0 _ hr3)), (A.call (ok_spec_EnvOk r3 _ hr4)), (A.call (ok_laws_toEnv a0 _ hr3)), (A.call (ok_impl_EnvOk r3 _ hr5)), rfl, rfl, (A.call (ok_laws_toEnv a0 _ hr3)), (A.call (ok_laws_eqEnv r3 r3 _ hr8)), rfl, trivial⟩

end
end Go.Am.Try
