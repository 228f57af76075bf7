/- The functions of the program in plain Lean, and that the machine answers as they do; conditions at each theorem. -/
import Derived.Test.YtnhmhmjgeffboaaXG4
set_option linter.unusedVariables false
set_option linter.unusedSimpArgs false
namespace Go.Am.Try
open Go.Am Go.Proofs
set_option linter.unusedVariables false
set_option maxRecDepth 20000
set_option maxHeartbeats 2000000
noncomputable section
def L_impl_Expr_parts_l0 (G_impl_Expr_parts : GExpr → Option Int) (v1 : (List GExpr)) (v2 : Int) : Nat → Int → Int → Option (Int × Int)
  | 0, _, _ => none
  | m + 1, v0, v3 =>
    if v3 < v2 then
      (natO v3).bind fun i2 =>
      (v1[i2]?).bind fun x3 =>
      (G_impl_Expr_parts x3).bind fun r4 =>
      L_impl_Expr_parts_l0 G_impl_Expr_parts v1 v2 m (w64 (v0 + r4)) (w64 (v3 + 1))
    else
      some (v0, v3)

theorem gl_impl_Expr_parts_l0 (G_impl_Expr_parts : GExpr → Option Int) (H_impl_Expr_parts : ∀ (a0 : GExpr) (r : Int), G_impl_Expr_parts a0 = some r → (mach cfg).call 53 [] [.val true [.int .i64 a0.Kind, .int .i64 a0.N, .seq (eL e_u8 a0.S), .seq (eL (e_sl e_u8) a0.K), .seq (eL e_GExpr a0.Kids)]] = some (.val false [.int .i64 r], [])) (v1 : (List GExpr)) (v2 : Int) (m : Nat) : ∀ (v0 : Int) (v3 : Int) (o : (Int × Int)), L_impl_Expr_parts_l0 G_impl_Expr_parts v1 v2 m v0 v3 = some o → (mach cfg).loop 53 (loopB Try.f53 0) ⟨[(3, .val false [.int .i64 v0]), (7, .val false [.seq (eL e_GExpr v1)]), (8, .val false [.int .i64 v2]), (9, .val false [.int .i64 v3])], [], 0⟩ = some (match o with | ⟨o_0, o_1⟩ => (.exit 0, (⟨[(3, .val false [.int .i64 o_0]), (7, .val false [.seq (eL e_GExpr v1)]), (8, .val false [.int .i64 v2]), (9, .val false [.int .i64 o_1]), (10, .val false [.bool false])], [], 0⟩ : S))) := by
  induction m with
  | zero => intro v0 v3 o h; cases h
  | succ m ih =>
    intro v0 v3 o h
    rw [L_impl_Expr_parts_l0] at h
    by_cases c1 : v3 < v2
    · rw [if_pos c1] at h
      obtain ⟨i2, hi2, h⟩ := Option.bind_eq_some_iff.1 h
      obtain ⟨x3, hx3, h⟩ := Option.bind_eq_some_iff.1 h
      obtain ⟨r4, hr4, h⟩ := Option.bind_eq_some_iff.1 h
      exact loop_on cfg [(.ltI v3 v2, .b true), (.nat v3, .n i2), (.idx (eL e_GExpr v1) i2, .e [.int .i64 x3.Kind, .int .i64 x3.N, .seq (eL e_u8 x3.S), .seq (eL (e_sl e_u8) x3.K), .seq (eL e_GExpr x3.Kids)]), (.call 53 [] [.val true [.int .i64 x3.Kind, .int .i64 x3.N, .seq (eL e_u8 x3.S), .seq (eL (e_sl e_u8) x3.K), .seq (eL e_GExpr x3.Kids)]], .r (.val false [.int .i64 r4]) []), (.add .i64 v0 r4, .i (w64 (v0 + r4))), (.add .i64 v3 1, .i (w64 (v3 + 1)))] (by kernel_rfl) ⟨(A.ltI_t c1), (A.nat hi2), (A.idx hx3 (eq_GExpr x3)), (A.call (H_impl_Expr_parts x3 _ hr4)), rfl, rfl, trivial⟩ (ih (w64 (v0 + r4)) (w64 (v3 + 1)) o h)
    · rw [if_neg c1] at h
      obtain rfl := Option.some.inj h
      exact loop_end cfg [(.ltI v3 v2, .b false)] (by kernel_rfl) ⟨(A.ltI_f c1), trivial⟩ (by intro h; cases h)

def T_impl_Expr_parts (G_impl_Expr_parts : GExpr → Option Int) (n : Nat) (a0 : GExpr) : Option Int :=
  (L_impl_Expr_parts_l0 G_impl_Expr_parts a0.Kids ((a0.Kids.length : Nat) : Int) n 1 0).bind fun ⟨o1_0, o1_1⟩ =>
  some o1_0

set_option maxRecDepth 100000 in
theorem fd_53 : cfg.funcs 53 = some (bodyOf Try.f53, Try.f53.ntmps, Try.f53.results.toList) := fn_of Try.func53 (by kernel_rfl) (by kernel_rfl)
theorem g_impl_Expr_parts (G_impl_Expr_parts : GExpr → Option Int) (H_impl_Expr_parts : ∀ (a0 : GExpr) (r : Int), G_impl_Expr_parts a0 = some r → (mach cfg).call 53 [] [.val true [.int .i64 a0.Kind, .int .i64 a0.N, .seq (eL e_u8 a0.S), .seq (eL (e_sl e_u8) a0.K), .seq (eL e_GExpr a0.Kids)]] = some (.val false [.int .i64 r], [])) (n : Nat) (a0 : GExpr) (r : Int) (h : T_impl_Expr_parts G_impl_Expr_parts n a0 = some r) : (mach cfg).call 53 [] [.val true [.int .i64 a0.Kind, .int .i64 a0.N, .seq (eL e_u8 a0.S), .seq (eL (e_sl e_u8) a0.K), .seq (eL e_GExpr a0.Kids)]] = some (.val false [.int .i64 r], []) := by
  unfold T_impl_Expr_parts at h
  obtain ⟨⟨o1_0, o1_1⟩, ho1, h⟩ := Option.bind_eq_some_iff.1 h
  try dsimp only at h
  obtain rfl := Option.some.inj h
  exact call_way cfg [(.len (eL e_GExpr a0.Kids), .i ((a0.Kids.length : Nat) : Int)), (.loop 53 (loopB Try.f53 0) ⟨[(3, .val false [.int .i64 1]), (7, .val false [.seq (eL e_GExpr a0.Kids)]), (8, .val false [.int .i64 ((a0.Kids.length : Nat) : Int)]), (9, .val false [.int .i64 0])], [], 0⟩, .x (.exit 0) ⟨[(3, .val false [.int .i64 o1_0]), (7, .val false [.seq (eL e_GExpr a0.Kids)]), (8, .val false [.int .i64 ((a0.Kids.length : Nat) : Int)]), (9, .val false [.int .i64 o1_1]), (10, .val false [.bool false])], [], 0⟩)] rfl fd_53 (by kernel_rfl) ⟨A.len, (A.loop (gl_impl_Expr_parts_l0 G_impl_Expr_parts H_impl_Expr_parts a0.Kids ((a0.Kids.length : Nat) : Int) _ 1 0 _ ho1)), trivial⟩

def U_impl_Expr_parts : Nat → GExpr → Option Int
  | 0, _ => none
  | n + 1, a0 => T_impl_Expr_parts (U_impl_Expr_parts n) n a0
theorem rec_impl_Expr_parts (n : Nat) : (∀ (a0 : GExpr) (r : Int), U_impl_Expr_parts n a0 = some r → (mach cfg).call 53 [] [.val true [.int .i64 a0.Kind, .int .i64 a0.N, .seq (eL e_u8 a0.S), .seq (eL (e_sl e_u8) a0.K), .seq (eL e_GExpr a0.Kids)]] = some (.val false [.int .i64 r], [])) := by
  induction n with
  | zero => exact fun _ _ h => (by rw [U_impl_Expr_parts] at h; cases h)
  | succ n ih =>
    have ih_impl_Expr_parts := ih
    exact fun a0 r h => g_impl_Expr_parts (U_impl_Expr_parts n) ih_impl_Expr_parts n a0 r (by rw [U_impl_Expr_parts] at h; exact h)
theorem impl_Expr_parts_T {G : GExpr → Option Int} {v : GExpr} {f : Nat} (hs : xsz v ≤ 2 ^ 20) (hf : v.Kids.length < f) (hG : ∀ x ∈ v.Kids, G x = some (((ptX x) : Nat) : Int)) : T_impl_Expr_parts G f v = some (((ptX v) : Nat) : Int) := by
  have he := xsz_eq v
  have hl := xszs_len v.Kids
  have loop : ∀ (d i m : Nat) (r : Int), i + d = v.Kids.length → d < m → 0 ≤ r → r ≤ 2 ^ 21 - ptXs (v.Kids.drop i) → ∃ z, L_impl_Expr_parts_l0 G v.Kids ((v.Kids.length : Nat) : Int) m r (i : Int) = some (r + ptXs (v.Kids.drop i), z) := by
    intro d
    induction d with
    | zero =>
      intro i m r hi hm h0 h1
      obtain ⟨m, rfl, _⟩ := fuel hm
      exact ⟨_, by rw [L_impl_Expr_parts_l0, if_neg (by omega), List.drop_eq_nil_of_le (by omega)]; simp [ptXs]; rfl⟩
    | succ d ih =>
      intro i m r hi hm h0 h1
      obtain ⟨m, rfl, hm'⟩ := fuel hm
      have hil : i < v.Kids.length := by omega
      have hp : ptXs (v.Kids.drop i) = ptX v.Kids[i] + ptXs (v.Kids.drop (i + 1)) := by rw [drop_cons hil]; simp only [ptXs]
      rw [hp] at h1 ⊢
      rw [L_impl_Expr_parts_l0, if_pos (by omega), natO_nat, Option.bind_some, get_some hil, Option.bind_some, hG _ (List.getElem_mem hil), Option.bind_some, w64_succ (by omega), w64_id (by omega) (by omega)]
      obtain ⟨z, hz⟩ := ih (i + 1) m (r + ptX v.Kids[i]) (by omega) (by omega) (by omega) (by omega)
      exact ⟨z, by rw [hz]; congr 2; omega⟩
  have hle := ptXs_le v.Kids
  obtain ⟨z, hz⟩ := loop v.Kids.length 0 f 1 (by omega) (by omega) (by omega) (by rw [List.drop_zero]; omega)
  rw [show ((0 : Nat) : Int) = 0 from rfl, List.drop_zero] at hz
  unfold T_impl_Expr_parts
  rw [hz, ptX_eq]
  simp only [Option.bind_some]
  congr 1
theorem impl_Expr_parts_U : ∀ (N : Nat) (v : GExpr), xsz v < N → xsz v ≤ 2 ^ 20 → ∀ f : Nat, xsz v + 2 ≤ f → U_impl_Expr_parts f v = some (((ptX v) : Nat) : Int) := by
  intro N
  induction N with
  | zero => intro v hv; omega
  | succ N ih =>
    intro v hv hs f hf
    obtain ⟨f, rfl, _⟩ := fuel (show 0 < f by omega)
    have he := xsz_eq v
    have hl := xszs_len v.Kids
    rw [U_impl_Expr_parts]
    refine impl_Expr_parts_T hs (by omega) fun x hx => ?_
    have := xszs_mem hx
    exact ih x (by omega) (by omega) f (by omega)
def S_impl_Expr_parts (a0 : GExpr) : Option Int := if xsz a0 ≤ 2 ^ 20 then some (((ptX a0) : Nat) : Int) else none
theorem spec_impl_Expr_parts (a0 : GExpr) (r : Int) (h : S_impl_Expr_parts a0 = some r) : ∃ n, U_impl_Expr_parts n a0 = some r := by
  unfold S_impl_Expr_parts at h
  obtain ⟨ha, h⟩ := need_c h
  exact ⟨xsz a0 + 2, by rw [← h]; exact impl_Expr_parts_U _ a0 (Nat.lt_succ_self _) ha _ (Nat.le_refl _)⟩
theorem ok_impl_Expr_parts (a0 : GExpr) (r : Int) (h : S_impl_Expr_parts a0 = some r) : (mach cfg).call 53 [] [.val true [.int .i64 a0.Kind, .int .i64 a0.N, .seq (eL e_u8 a0.S), .seq (eL (e_sl e_u8) a0.K), .seq (eL e_GExpr a0.Kids)]] = some (.val false [.int .i64 r], []) := by
  obtain ⟨n, hn⟩ := spec_impl_Expr_parts a0 r h
  exact (rec_impl_Expr_parts n) a0 r hn
def S_impl_isExpr (a0 : GExpr) : Option Bool :=
  (S_impl_isFormed a0 10).bind fun r1 =>
  match r1 with
  | true =>
    (S_impl_Expr_parts a0).bind fun r3 =>
    some (decide (r3 ≤ 150))
  | false =>
    some false

set_option maxRecDepth 100000 in
theorem fd_52 : cfg.funcs 52 = some (bodyOf Try.f52, Try.f52.ntmps, Try.f52.results.toList) := fn_of Try.func52 (by kernel_rfl) (by kernel_rfl)
theorem ok_impl_isExpr (a0 : GExpr) (r : Bool) (h : S_impl_isExpr a0 = some r) : (mach cfg).call 52 [] [.val true [.int .i64 a0.Kind, .int .i64 a0.N, .seq (eL e_u8 a0.S), .seq (eL (e_sl e_u8) a0.K), .seq (eL e_GExpr a0.Kids)]] = some (.val false [.bool r], []) := by
  unfold S_impl_isExpr at h
  obtain ⟨r1, hr1, h⟩ := Option.bind_eq_some_iff.1 h
  cases r1 with
  | true =>
    try dsimp only at h
    obtain ⟨r3, hr3, h⟩ := Option.bind_eq_some_iff.1 h
    obtain rfl := Option.some.inj h
    exact call_way cfg [(.call 79 [] [.val true [.int .i64 a0.Kind, .int .i64 a0.N, .seq (eL e_u8 a0.S), .seq (eL (e_sl e_u8) a0.K), .seq (eL e_GExpr a0.Kids)], .val false [.int .i64 10]], .r (.val false [.bool true]) []), (.call 53 [] [.val true [.int .i64 a0.Kind, .int .i64 a0.N, .seq (eL e_u8 a0.S), .seq (eL (e_sl e_u8) a0.K), .seq (eL e_GExpr a0.Kids)]], .r (.val false [.int .i64 r3]) []), (.leI r3 150, .b (decide (r3 ≤ 150)))] rfl fd_52 (by kernel_rfl) ⟨(A.call (ok_impl_isFormed a0 10 _ hr1)), (A.call (ok_impl_Expr_parts a0 _ hr3)), A.leI_d, trivial⟩
  | false =>
    try dsimp only at h
    obtain rfl := Option.some.inj h
    exact call_way cfg [(.call 79 [] [.val true [.int .i64 a0.Kind, .int .i64 a0.N, .seq (eL e_u8 a0.S), .seq (eL (e_sl e_u8) a0.K), .seq (eL e_GExpr a0.Kids)], .val false [.int .i64 10]], .r (.val false [.bool false]) [])] rfl fd_52 (by kernel_rfl) ⟨(A.call (ok_impl_isFormed a0 10 _ hr1)), trivial⟩

def S_impl_ExprParts (a0 : GExpr) : Option Int :=
  (S_impl_isExpr a0).bind fun r1 =>
  match r1 with
  | true =>
    (S_impl_Expr_parts a0).bind fun r3 =>
    some r3
  | false =>
    some 0

set_option maxRecDepth 100000 in
theorem fd_23 : cfg.funcs 23 = some (bodyOf Try.f23, Try.f23.ntmps, Try.f23.results.toList) := fn_of Try.func23 (by kernel_rfl) (by kernel_rfl)
theorem ok_impl_ExprParts (a0 : GExpr) (r : Int) (h : S_impl_ExprParts a0 = some r) : (mach cfg).call 23 [] [.val true [.int .i64 a0.Kind, .int .i64 a0.N, .seq (eL e_u8 a0.S), .seq (eL (e_sl e_u8) a0.K), .seq (eL e_GExpr a0.Kids)]] = some (.val false [.int .i64 r], []) := by
  unfold S_impl_ExprParts at h
  obtain ⟨r1, hr1, h⟩ := Option.bind_eq_some_iff.1 h
  cases r1 with
  | true =>
    try dsimp only at h
    obtain ⟨r3, hr3, h⟩ := Option.bind_eq_some_iff.1 h
    obtain rfl := Option.some.inj h
    exact call_way cfg [(.call 52 [] [.val true [.int .i64 a0.Kind, .int .i64 a0.N, .seq (eL e_u8 a0.S), .seq (eL (e_sl e_u8) a0.K), .seq (eL e_GExpr a0.Kids)]], .r (.val false [.bool true]) []), (.notB true, .b false), (.call 53 [] [.val true [.int .i64 a0.Kind, .int .i64 a0.N, .seq (eL e_u8 a0.S), .seq (eL (e_sl e_u8) a0.K), .seq (eL e_GExpr a0.Kids)]], .r (.val false [.int .i64 r3]) [])] rfl fd_23 (by kernel_rfl) ⟨(A.call (ok_impl_isExpr a0 _ hr1)), rfl, (A.call (ok_impl_Expr_parts a0 _ hr3)), trivial⟩
  | false =>
    try dsimp only at h
    obtain rfl := Option.some.inj h
    exact call_way cfg [(.call 52 [] [.val true [.int .i64 a0.Kind, .int .i64 a0.N, .seq (eL e_u8 a0.S), .seq (eL (e_sl e_u8) a0.K), .seq (eL e_GExpr a0.Kids)]], .r (.val false [.bool false]) []), (.notB false, .b true)] rfl fd_23 (by kernel_rfl) ⟨(A.call (ok_impl_isExpr a0 _ hr1)), rfl, trivial⟩

def L_laws_eqByteS_l0 (a0 : (List UInt8)) (a1 : (List UInt8)) : Nat → Int → Option (Bool ⊕ Int)
  | 0, _ => none
  | m + 1, v2 =>
    if v2 < ((a0.length : Nat) : Int) then
      (natO v2).bind fun i2 =>
      (a0[i2]?).bind fun x3 =>
      (a1[i2]?).bind fun x4 =>
      if ((x3.toNat : Nat) : Int) = ((x4.toNat : Nat) : Int) then
        L_laws_eqByteS_l0 a0 a1 m (w64 (v2 + 1))
      else
        some (.inl false)
    else
      some (.inr v2)

theorem gl_laws_eqByteS_l0 (a0 : (List UInt8)) (a1 : (List UInt8)) (m : Nat) : ∀ (v2 : Int) (o : (Bool ⊕ Int)), L_laws_eqByteS_l0 a0 a1 m v2 = some o → (mach cfg).loop 54 (loopB Try.f54 0) ⟨[(0, .val false [.seq (eL e_u8 a0)]), (1, .val false [.seq (eL e_u8 a1)]), (5, .val false [.int .i64 v2])], [], 0⟩ = some (match o with | .inl o_0 => (.ret, (⟨[(4, .val false [.bool o_0])], [], 0⟩ : S)) | .inr (o_1) => (.exit 0, (⟨[(0, .val false [.seq (eL e_u8 a0)]), (1, .val false [.seq (eL e_u8 a1)]), (5, .val false [.int .i64 o_1]), (14, .val false [.bool false])], [], 0⟩ : S))) := by
  induction m with
  | zero => intro v2 o h; cases h
  | succ m ih =>
    intro v2 o h
    rw [L_laws_eqByteS_l0] at h
    by_cases c1 : v2 < ((a0.length : Nat) : Int)
    · rw [if_pos c1] at h
      obtain ⟨i2, hi2, h⟩ := Option.bind_eq_some_iff.1 h
      obtain ⟨x3, hx3, h⟩ := Option.bind_eq_some_iff.1 h
      obtain ⟨x4, hx4, h⟩ := Option.bind_eq_some_iff.1 h
      by_cases c5 : ((x3.toNat : Nat) : Int) = ((x4.toNat : Nat) : Int)
      · rw [if_pos c5] at h
        exact loop_on cfg [(.len (eL e_u8 a0), .i ((a0.length : Nat) : Int)), (.ltI v2 ((a0.length : Nat) : Int), .b true), (.nat v2, .n i2), (.idx (eL e_u8 a0) i2, .e [.int .u8 ((x3.toNat : Nat) : Int)]), (.nat v2, .n i2), (.idx (eL e_u8 a1) i2, .e [.int .u8 ((x4.toNat : Nat) : Int)]), (.eqI ((x3.toNat : Nat) : Int) ((x4.toNat : Nat) : Int), .b true), (.notB true, .b false), (.add .i64 v2 1, .i (w64 (v2 + 1)))] (by kernel_rfl) ⟨A.len, (A.ltI_t c1), (A.nat hi2), (A.idx hx3 rfl), (A.nat hi2), (A.idx hx4 rfl), (A.eqI_t c5), rfl, rfl, trivial⟩ (ih (w64 (v2 + 1)) o h)
      · rw [if_neg c5] at h
        obtain rfl := Option.some.inj h
        exact loop_end cfg [(.len (eL e_u8 a0), .i ((a0.length : Nat) : Int)), (.ltI v2 ((a0.length : Nat) : Int), .b true), (.nat v2, .n i2), (.idx (eL e_u8 a0) i2, .e [.int .u8 ((x3.toNat : Nat) : Int)]), (.nat v2, .n i2), (.idx (eL e_u8 a1) i2, .e [.int .u8 ((x4.toNat : Nat) : Int)]), (.eqI ((x3.toNat : Nat) : Int) ((x4.toNat : Nat) : Int), .b false), (.notB false, .b true)] (by kernel_rfl) ⟨A.len, (A.ltI_t c1), (A.nat hi2), (A.idx hx3 rfl), (A.nat hi2), (A.idx hx4 rfl), (A.eqI_f c5), rfl, trivial⟩ (by intro h; cases h)
    · rw [if_neg c1] at h
      obtain rfl := Option.some.inj h
      exact loop_end cfg [(.len (eL e_u8 a0), .i ((a0.length : Nat) : Int)), (.ltI v2 ((a0.length : Nat) : Int), .b false)] (by kernel_rfl) ⟨A.len, (A.ltI_f c1), trivial⟩ (by intro h; cases h)

def T_laws_eqByteS (n : Nat) (a0 : (List UInt8)) (a1 : (List UInt8)) : Option Bool :=
  if ((a0.length : Nat) : Int) = ((a1.length : Nat) : Int) then
    (L_laws_eqByteS_l0 a0 a1 n 0).bind fun o2 =>
    match o2 with
    | .inl o2_0 =>
      some o2_0
    | .inr (o2_1) =>
      some true
  else
    some false

set_option maxRecDepth 100000 in
theorem fd_54 : cfg.funcs 54 = some (bodyOf Try.f54, Try.f54.ntmps, Try.f54.results.toList) := fn_of Try.func54 (by kernel_rfl) (by kernel_rfl)
theorem g_laws_eqByteS (n : Nat) (a0 : (List UInt8)) (a1 : (List UInt8)) (r : Bool) (h : T_laws_eqByteS n a0 a1 = some r) : (mach cfg).call 54 [] [.val false [.seq (eL e_u8 a0)], .val false [.seq (eL e_u8 a1)]] = some (.val false [.bool r], []) := by
  unfold T_laws_eqByteS at h
  by_cases c1 : ((a0.length : Nat) : Int) = ((a1.length : Nat) : Int)
  · rw [if_pos c1] at h
    obtain ⟨o2, ho2, h⟩ := Option.bind_eq_some_iff.1 h
    rcases o2 with o2_0 | o2_1
    · try dsimp only at h
      obtain rfl := Option.some.inj h
      exact call_way cfg [(.len (eL e_u8 a0), .i ((a0.length : Nat) : Int)), (.len (eL e_u8 a1), .i ((a1.length : Nat) : Int)), (.eqI ((a0.length : Nat) : Int) ((a1.length : Nat) : Int), .b true), (.notB true, .b false), (.loop 54 (loopB Try.f54 0) ⟨[(0, .val false [.seq (eL e_u8 a0)]), (1, .val false [.seq (eL e_u8 a1)]), (5, .val false [.int .i64 0])], [], 0⟩, .x (.ret) ⟨[(4, .val false [.bool o2_0])], [], 0⟩)] rfl fd_54 (by kernel_rfl) ⟨A.len, A.len, (A.eqI_t c1), rfl, (A.loop (gl_laws_eqByteS_l0 a0 a1 _ 0 _ ho2)), trivial⟩
    · try dsimp only at h
      obtain rfl := Option.some.inj h
      exact call_way cfg [(.len (eL e_u8 a0), .i ((a0.length : Nat) : Int)), (.len (eL e_u8 a1), .i ((a1.length : Nat) : Int)), (.eqI ((a0.length : Nat) : Int) ((a1.length : Nat) : Int), .b true), (.notB true, .b false), (.loop 54 (loopB Try.f54 0) ⟨[(0, .val false [.seq (eL e_u8 a0)]), (1, .val false [.seq (eL e_u8 a1)]), (5, .val false [.int .i64 0])], [], 0⟩, .x (.exit 0) ⟨[(0, .val false [.seq (eL e_u8 a0)]), (1, .val false [.seq (eL e_u8 a1)]), (5, .val false [.int .i64 o2_1]), (14, .val false [.bool false])], [], 0⟩)] rfl fd_54 (by kernel_rfl) ⟨A.len, A.len, (A.eqI_t c1), rfl, (A.loop (gl_laws_eqByteS_l0 a0 a1 _ 0 _ ho2)), trivial⟩
  · rw [if_neg c1] at h
    obtain rfl := Option.some.inj h
    exact call_way cfg [(.len (eL e_u8 a0), .i ((a0.length : Nat) : Int)), (.len (eL e_u8 a1), .i ((a1.length : Nat) : Int)), (.eqI ((a0.length : Nat) : Int) ((a1.length : Nat) : Int), .b false), (.notB false, .b true)] rfl fd_54 (by kernel_rfl) ⟨A.len, A.len, (A.eqI_f c1), rfl, trivial⟩

theorem eqByteS_loop {a : List UInt8} (ha : a.length ≤ 2 ^ 20) : ∀ (d i m : Nat), i + d = a.length → d < m → ∃ z, L_laws_eqByteS_l0 a a m (i : Int) = some (.inr z) := by
  intro d
  induction d with
  | zero =>
    intro i m hi hm
    obtain ⟨m, rfl, _⟩ := fuel hm
    exact ⟨_, by rw [L_laws_eqByteS_l0, if_neg (by omega)]⟩
  | succ d ih =>
    intro i m hi hm
    obtain ⟨m, rfl, hm'⟩ := fuel hm
    have hil : i < a.length := by omega
    rw [L_laws_eqByteS_l0, if_pos (by omega), natO_nat, Option.bind_some, get_some hil, Option.bind_some, Option.bind_some, if_pos rfl, w64_succ (by omega)]
    exact ih (i + 1) m (by omega) (by omega)
def S_laws_eqByteS (a0 : (List UInt8)) (a1 : (List UInt8)) : Option Bool := if a0 = a1 ∧ a0.length ≤ 2 ^ 20 then some true else none
theorem spec_laws_eqByteS (a0 : (List UInt8)) (a1 : (List UInt8)) (r : Bool) (h : S_laws_eqByteS a0 a1 = some r) : ∃ n, T_laws_eqByteS n a0 a1 = some r := by
  unfold S_laws_eqByteS at h
  obtain ⟨⟨he, ha⟩, h2⟩ := need_c h
  clear h
  subst he
  refine ⟨a0.length + 1, ?_⟩
  obtain ⟨z, hz⟩ := eqByteS_loop ha a0.length 0 (a0.length + 1) (by omega) (by omega)
  rw [show ((0 : Nat) : Int) = 0 from rfl] at hz
  unfold T_laws_eqByteS
  rw [if_pos rfl, hz]; exact h2
theorem ok_laws_eqByteS (a0 : (List UInt8)) (a1 : (List UInt8)) (r : Bool) (h : S_laws_eqByteS a0 a1 = some r) : (mach cfg).call 54 [] [.val false [.seq (eL e_u8 a0)], .val false [.seq (eL e_u8 a1)]] = some (.val false [.bool r], []) := by
  obtain ⟨n, hn⟩ := spec_laws_eqByteS a0 a1 r h
  exact g_laws_eqByteS n a0 a1 r hn
def L_laws_eqByteSS_l0 (a0 : (List (List UInt8))) (a1 : (List (List UInt8))) : Nat → Int → Option (Bool ⊕ Int)
  | 0, _ => none
  | m + 1, v2 =>
    if v2 < ((a0.length : Nat) : Int) then
      (natO v2).bind fun i2 =>
      (a0[i2]?).bind fun x3 =>
      (a1[i2]?).bind fun x4 =>
      (S_laws_eqByteS x3 x4).bind fun r5 =>
      match r5 with
      | true =>
        L_laws_eqByteSS_l0 a0 a1 m (w64 (v2 + 1))
      | false =>
        some (.inl false)
    else
      some (.inr v2)

theorem gl_laws_eqByteSS_l0 (a0 : (List (List UInt8))) (a1 : (List (List UInt8))) (m : Nat) : ∀ (v2 : Int) (o : (Bool ⊕ Int)), L_laws_eqByteSS_l0 a0 a1 m v2 = some o → (mach cfg).loop 55 (loopB Try.f55 0) ⟨[(0, .val false [.seq (eL (e_sl e_u8) a0)]), (1, .val false [.seq (eL (e_sl e_u8) a1)]), (5, .val false [.int .i64 v2])], [], 0⟩ = some (match o with | .inl o_0 => (.ret, (⟨[(4, .val false [.bool o_0])], [], 0⟩ : S)) | .inr (o_1) => (.exit 0, (⟨[(0, .val false [.seq (eL (e_sl e_u8) a0)]), (1, .val false [.seq (eL (e_sl e_u8) a1)]), (5, .val false [.int .i64 o_1]), (14, .val false [.bool false])], [], 0⟩ : S))) := by
  induction m with
  | zero => intro v2 o h; cases h
  | succ m ih =>
    intro v2 o h
    rw [L_laws_eqByteSS_l0] at h
    by_cases c1 : v2 < ((a0.length : Nat) : Int)
    · rw [if_pos c1] at h
      obtain ⟨i2, hi2, h⟩ := Option.bind_eq_some_iff.1 h
      obtain ⟨x3, hx3, h⟩ := Option.bind_eq_some_iff.1 h
      obtain ⟨x4, hx4, h⟩ := Option.bind_eq_some_iff.1 h
      obtain ⟨r5, hr5, h⟩ := Option.bind_eq_some_iff.1 h
      cases r5 with
      | true =>
        try dsimp only at h
        exact loop_on cfg [(.len (eL (e_sl e_u8) a0), .i ((a0.length : Nat) : Int)), (.ltI v2 ((a0.length : Nat) : Int), .b true), (.nat v2, .n i2), (.idx (eL (e_sl e_u8) a0) i2, .e [.seq (eL e_u8 x3)]), (.nat v2, .n i2), (.idx (eL (e_sl e_u8) a1) i2, .e [.seq (eL e_u8 x4)]), (.call 54 [] [.val false [.seq (eL e_u8 x3)], .val false [.seq (eL e_u8 x4)]], .r (.val false [.bool true]) []), (.notB true, .b false), (.add .i64 v2 1, .i (w64 (v2 + 1)))] (by kernel_rfl) ⟨A.len, (A.ltI_t c1), (A.nat hi2), (A.idx hx3 rfl), (A.nat hi2), (A.idx hx4 rfl), (A.call (ok_laws_eqByteS x3 x4 _ hr5)), rfl, rfl, trivial⟩ (ih (w64 (v2 + 1)) o h)
      | false =>
        try dsimp only at h
        obtain rfl := Option.some.inj h
        exact loop_end cfg [(.len (eL (e_sl e_u8) a0), .i ((a0.length : Nat) : Int)), (.ltI v2 ((a0.length : Nat) : Int), .b true), (.nat v2, .n i2), (.idx (eL (e_sl e_u8) a0) i2, .e [.seq (eL e_u8 x3)]), (.nat v2, .n i2), (.idx (eL (e_sl e_u8) a1) i2, .e [.seq (eL e_u8 x4)]), (.call 54 [] [.val false [.seq (eL e_u8 x3)], .val false [.seq (eL e_u8 x4)]], .r (.val false [.bool false]) []), (.notB false, .b true)] (by kernel_rfl) ⟨A.len, (A.ltI_t c1), (A.nat hi2), (A.idx hx3 rfl), (A.nat hi2), (A.idx hx4 rfl), (A.call (ok_laws_eqByteS x3 x4 _ hr5)), rfl, trivial⟩ (by intro h; cases h)
    · rw [if_neg c1] at h
      obtain rfl := Option.some.inj h
      exact loop_end cfg [(.len (eL (e_sl e_u8) a0), .i ((a0.length : Nat) : Int)), (.ltI v2 ((a0.length : Nat) : Int), .b false)] (by kernel_rfl) ⟨A.len, (A.ltI_f c1), trivial⟩ (by intro h; cases h)

def T_laws_eqByteSS (n : Nat) (a0 : (List (List UInt8))) (a1 : (List (List UInt8))) : Option Bool :=
  if ((a0.length : Nat) : Int) = ((a1.length : Nat) : Int) then
    (L_laws_eqByteSS_l0 a0 a1 n 0).bind fun o2 =>
    match o2 with
    | .inl o2_0 =>
      some o2_0
    | .inr (o2_1) =>
      some true
  else
    some false

set_option maxRecDepth 100000 in
theorem fd_55 : cfg.funcs 55 = some (bodyOf Try.f55, Try.f55.ntmps, Try.f55.results.toList) := fn_of Try.func55 (by kernel_rfl) (by kernel_rfl)
theorem g_laws_eqByteSS (n : Nat) (a0 : (List (List UInt8))) (a1 : (List (List UInt8))) (r : Bool) (h : T_laws_eqByteSS n a0 a1 = some r) : (mach cfg).call 55 [] [.val false [.seq (eL (e_sl e_u8) a0)], .val false [.seq (eL (e_sl e_u8) a1)]] = some (.val false [.bool r], []) := by
  unfold T_laws_eqByteSS at h
  by_cases c1 : ((a0.length : Nat) : Int) = ((a1.length : Nat) : Int)
  · rw [if_pos c1] at h
    obtain ⟨o2, ho2, h⟩ := Option.bind_eq_some_iff.1 h
    rcases o2 with o2_0 | o2_1
    · try dsimp only at h
      obtain rfl := Option.some.inj h
      exact call_way cfg [(.len (eL (e_sl e_u8) a0), .i ((a0.length : Nat) : Int)), (.len (eL (e_sl e_u8) a1), .i ((a1.length : Nat) : Int)), (.eqI ((a0.length : Nat) : Int) ((a1.length : Nat) : Int), .b true), (.notB true, .b false), (.loop 55 (loopB Try.f55 0) ⟨[(0, .val false [.seq (eL (e_sl e_u8) a0)]), (1, .val false [.seq (eL (e_sl e_u8) a1)]), (5, .val false [.int .i64 0])], [], 0⟩, .x (.ret) ⟨[(4, .val false [.bool o2_0])], [], 0⟩)] rfl fd_55 (by kernel_rfl) ⟨A.len, A.len, (A.eqI_t c1), rfl, (A.loop (gl_laws_eqByteSS_l0 a0 a1 _ 0 _ ho2)), trivial⟩
    · try dsimp only at h
      obtain rfl := Option.some.inj h
      exact call_way cfg [(.len (eL (e_sl e_u8) a0), .i ((a0.length : Nat) : Int)), (.len (eL (e_sl e_u8) a1), .i ((a1.length : Nat) : Int)), (.eqI ((a0.length : Nat) : Int) ((a1.length : Nat) : Int), .b true), (.notB true, .b false), (.loop 55 (loopB Try.f55 0) ⟨[(0, .val false [.seq (eL (e_sl e_u8) a0)]), (1, .val false [.seq (eL (e_sl e_u8) a1)]), (5, .val false [.int .i64 0])], [], 0⟩, .x (.exit 0) ⟨[(0, .val false [.seq (eL (e_sl e_u8) a0)]), (1, .val false [.seq (eL (e_sl e_u8) a1)]), (5, .val false [.int .i64 o2_1]), (14, .val false [.bool false])], [], 0⟩)] rfl fd_55 (by kernel_rfl) ⟨A.len, A.len, (A.eqI_t c1), rfl, (A.loop (gl_laws_eqByteSS_l0 a0 a1 _ 0 _ ho2)), trivial⟩
  · rw [if_neg c1] at h
    obtain rfl := Option.some.inj h
    exact call_way cfg [(.len (eL (e_sl e_u8) a0), .i ((a0.length : Nat) : Int)), (.len (eL (e_sl e_u8) a1), .i ((a1.length : Nat) : Int)), (.eqI ((a0.length : Nat) : Int) ((a1.length : Nat) : Int), .b false), (.notB false, .b true)] rfl fd_55 (by kernel_rfl) ⟨A.len, A.len, (A.eqI_f c1), rfl, trivial⟩

theorem eqByteSS_loop {a : List (List UInt8)} (ha : bsz a ≤ 2 ^ 20) : ∀ (d i m : Nat), i + d = a.length → d < m → ∃ z, L_laws_eqByteSS_l0 a a m (i : Int) = some (.inr z) := by
  have hl := bsz_len a
  intro d
  induction d with
  | zero =>
    intro i m hi hm
    obtain ⟨m, rfl, _⟩ := fuel hm
    exact ⟨_, by rw [L_laws_eqByteSS_l0, if_neg (by omega)]⟩
  | succ d ih =>
    intro i m hi hm
    obtain ⟨m, rfl, hm'⟩ := fuel hm
    have hil : i < a.length := by omega
    have hx := bsz_mem (List.getElem_mem hil)
    rw [L_laws_eqByteSS_l0, if_pos (by omega), natO_nat, Option.bind_some, get_some hil, Option.bind_some, Option.bind_some]
    unfold S_laws_eqByteS
    rw [if_pos ⟨rfl, by omega⟩, Option.bind_some, w64_succ (by omega)]
    exact ih (i + 1) m (by omega) (by omega)
def S_laws_eqByteSS (a0 : (List (List UInt8))) (a1 : (List (List UInt8))) : Option Bool := if a0 = a1 ∧ bsz a0 ≤ 2 ^ 20 then some true else none
theorem spec_laws_eqByteSS (a0 : (List (List UInt8))) (a1 : (List (List UInt8))) (r : Bool) (h : S_laws_eqByteSS a0 a1 = some r) : ∃ n, T_laws_eqByteSS n a0 a1 = some r := by
  unfold S_laws_eqByteSS at h
  obtain ⟨⟨he, ha⟩, h2⟩ := need_c h
  clear h
  subst he
  have hl := bsz_len a0
  refine ⟨a0.length + 1, ?_⟩
  obtain ⟨z, hz⟩ := eqByteSS_loop ha a0.length 0 (a0.length + 1) (by omega) (by omega)
  rw [show ((0 : Nat) : Int) = 0 from rfl] at hz
  unfold T_laws_eqByteSS
  rw [if_pos rfl, hz]; exact h2
theorem ok_laws_eqByteSS (a0 : (List (List UInt8))) (a1 : (List (List UInt8))) (r : Bool) (h : S_laws_eqByteSS a0 a1 = some r) : (mach cfg).call 55 [] [.val false [.seq (eL (e_sl e_u8) a0)], .val false [.seq (eL (e_sl e_u8) a1)]] = some (.val false [.bool r], []) := by
  obtain ⟨n, hn⟩ := spec_laws_eqByteSS a0 a1 r h
  exact g_laws_eqByteSS n a0 a1 r hn
def L_laws_eqExprS_l0 (G_laws_eqExpr : GExpr → GExpr → Option Bool) (a0 : (List GExpr)) (a1 : (List GExpr)) : Nat → Int → Option (Bool ⊕ Int)
  | 0, _ => none
  | m + 1, v2 =>
    if v2 < ((a0.length : Nat) : Int) then
      (natO v2).bind fun i2 =>
      (a0[i2]?).bind fun x3 =>
      (a1[i2]?).bind fun x4 =>
      (G_laws_eqExpr x3 x4).bind fun r5 =>
      match r5 with
      | true =>
        L_laws_eqExprS_l0 G_laws_eqExpr a0 a1 m (w64 (v2 + 1))
      | false =>
        some (.inl false)
    else
      some (.inr v2)

theorem gl_laws_eqExprS_l0 (G_laws_eqExpr : GExpr → GExpr → Option Bool) (H_laws_eqExpr : ∀ (a0 : GExpr) (a1 : GExpr) (r : Bool), G_laws_eqExpr a0 a1 = some r → (mach cfg).call 24 [] [.val true [.int .i64 a0.Kind, .int .i64 a0.N, .seq (eL e_u8 a0.S), .seq (eL (e_sl e_u8) a0.K), .seq (eL e_GExpr a0.Kids)], .val true [.int .i64 a1.Kind, .int .i64 a1.N, .seq (eL e_u8 a1.S), .seq (eL (e_sl e_u8) a1.K), .seq (eL e_GExpr a1.Kids)]] = some (.val false [.bool r], [])) (a0 : (List GExpr)) (a1 : (List GExpr)) (m : Nat) : ∀ (v2 : Int) (o : (Bool ⊕ Int)), L_laws_eqExprS_l0 G_laws_eqExpr a0 a1 m v2 = some o → (mach cfg).loop 56 (loopB Try.f56 0) ⟨[(0, .val false [.seq (eL e_GExpr a0)]), (1, .val false [.seq (eL e_GExpr a1)]), (5, .val false [.int .i64 v2])], [], 0⟩ = some (match o with | .inl o_0 => (.ret, (⟨[(4, .val false [.bool o_0])], [], 0⟩ : S)) | .inr (o_1) => (.exit 0, (⟨[(0, .val false [.seq (eL e_GExpr a0)]), (1, .val false [.seq (eL e_GExpr a1)]), (5, .val false [.int .i64 o_1]), (14, .val false [.bool false])], [], 0⟩ : S))) := by
  induction m with
  | zero => intro v2 o h; cases h
  | succ m ih =>
    intro v2 o h
    rw [L_laws_eqExprS_l0] at h
    by_cases c1 : v2 < ((a0.length : Nat) : Int)
    · rw [if_pos c1] at h
      obtain ⟨i2, hi2, h⟩ := Option.bind_eq_some_iff.1 h
      obtain ⟨x3, hx3, h⟩ := Option.bind_eq_some_iff.1 h
      obtain ⟨x4, hx4, h⟩ := Option.bind_eq_some_iff.1 h
      obtain ⟨r5, hr5, h⟩ := Option.bind_eq_some_iff.1 h
      cases r5 with
      | true =>
        try dsimp only at h
        exact loop_on cfg [(.len (eL e_GExpr a0), .i ((a0.length : Nat) : Int)), (.ltI v2 ((a0.length : Nat) : Int), .b true), (.nat v2, .n i2), (.idx (eL e_GExpr a0) i2, .e [.int .i64 x3.Kind, .int .i64 x3.N, .seq (eL e_u8 x3.S), .seq (eL (e_sl e_u8) x3.K), .seq (eL e_GExpr x3.Kids)]), (.nat v2, .n i2), (.idx (eL e_GExpr a1) i2, .e [.int .i64 x4.Kind, .int .i64 x4.N, .seq (eL e_u8 x4.S), .seq (eL (e_sl e_u8) x4.K), .seq (eL e_GExpr x4.Kids)]), (.call 24 [] [.val true [.int .i64 x3.Kind, .int .i64 x3.N, .seq (eL e_u8 x3.S), .seq (eL (e_sl e_u8) x3.K), .seq (eL e_GExpr x3.Kids)], .val true [.int .i64 x4.Kind, .int .i64 x4.N, .seq (eL e_u8 x4.S), .seq (eL (e_sl e_u8) x4.K), .seq (eL e_GExpr x4.Kids)]], .r (.val false [.bool true]) []), (.notB true, .b false), (.add .i64 v2 1, .i (w64 (v2 + 1)))] (by kernel_rfl) ⟨A.len, (A.ltI_t c1), (A.nat hi2), (A.idx hx3 (eq_GExpr x3)), (A.nat hi2), (A.idx hx4 (eq_GExpr x4)), (A.call (H_laws_eqExpr x3 x4 _ hr5)), rfl, rfl, trivial⟩ (ih (w64 (v2 + 1)) o h)
      | false =>
        try dsimp only at h
        obtain rfl := Option.some.inj h
        exact loop_end cfg [(.len (eL e_GExpr a0), .i ((a0.length : Nat) : Int)), (.ltI v2 ((a0.length : Nat) : Int), .b true), (.nat v2, .n i2), (.idx (eL e_GExpr a0) i2, .e [.int .i64 x3.Kind, .int .i64 x3.N, .seq (eL e_u8 x3.S), .seq (eL (e_sl e_u8) x3.K), .seq (eL e_GExpr x3.Kids)]), (.nat v2, .n i2), (.idx (eL e_GExpr a1) i2, .e [.int .i64 x4.Kind, .int .i64 x4.N, .seq (eL e_u8 x4.S), .seq (eL (e_sl e_u8) x4.K), .seq (eL e_GExpr x4.Kids)]), (.call 24 [] [.val true [.int .i64 x3.Kind, .int .i64 x3.N, .seq (eL e_u8 x3.S), .seq (eL (e_sl e_u8) x3.K), .seq (eL e_GExpr x3.Kids)], .val true [.int .i64 x4.Kind, .int .i64 x4.N, .seq (eL e_u8 x4.S), .seq (eL (e_sl e_u8) x4.K), .seq (eL e_GExpr x4.Kids)]], .r (.val false [.bool false]) []), (.notB false, .b true)] (by kernel_rfl) ⟨A.len, (A.ltI_t c1), (A.nat hi2), (A.idx hx3 (eq_GExpr x3)), (A.nat hi2), (A.idx hx4 (eq_GExpr x4)), (A.call (H_laws_eqExpr x3 x4 _ hr5)), rfl, trivial⟩ (by intro h; cases h)
    · rw [if_neg c1] at h
      obtain rfl := Option.some.inj h
      exact loop_end cfg [(.len (eL e_GExpr a0), .i ((a0.length : Nat) : Int)), (.ltI v2 ((a0.length : Nat) : Int), .b false)] (by kernel_rfl) ⟨A.len, (A.ltI_f c1), trivial⟩ (by intro h; cases h)

def T_laws_eqExprS (G_laws_eqExpr : GExpr → GExpr → Option Bool) (n : Nat) (a0 : (List GExpr)) (a1 : (List GExpr)) : Option Bool :=
  if ((a0.length : Nat) : Int) = ((a1.length : Nat) : Int) then
    (L_laws_eqExprS_l0 G_laws_eqExpr a0 a1 n 0).bind fun o2 =>
    match o2 with
    | .inl o2_0 =>
      some o2_0
    | .inr (o2_1) =>
      some true
  else
    some false

set_option maxRecDepth 100000 in
theorem fd_56 : cfg.funcs 56 = some (bodyOf Try.f56, Try.f56.ntmps, Try.f56.results.toList) := fn_of Try.func56 (by kernel_rfl) (by kernel_rfl)
theorem g_laws_eqExprS (G_laws_eqExpr : GExpr → GExpr → Option Bool) (H_laws_eqExpr : ∀ (a0 : GExpr) (a1 : GExpr) (r : Bool), G_laws_eqExpr a0 a1 = some r → (mach cfg).call 24 [] [.val true [.int .i64 a0.Kind, .int .i64 a0.N, .seq (eL e_u8 a0.S), .seq (eL (e_sl e_u8) a0.K), .seq (eL e_GExpr a0.Kids)], .val true [.int .i64 a1.Kind, .int .i64 a1.N, .seq (eL e_u8 a1.S), .seq (eL (e_sl e_u8) a1.K), .seq (eL e_GExpr a1.Kids)]] = some (.val false [.bool r], [])) (n : Nat) (a0 : (List GExpr)) (a1 : (List GExpr)) (r : Bool) (h : T_laws_eqExprS G_laws_eqExpr n a0 a1 = some r) : (mach cfg).call 56 [] [.val false [.seq (eL e_GExpr a0)], .val false [.seq (eL e_GExpr a1)]] = some (.val false [.bool r], []) := by
  unfold T_laws_eqExprS at h
  by_cases c1 : ((a0.length : Nat) : Int) = ((a1.length : Nat) : Int)
  · rw [if_pos c1] at h
    obtain ⟨o2, ho2, h⟩ := Option.bind_eq_some_iff.1 h
    rcases o2 with o2_0 | o2_1
    · try dsimp only at h
      obtain rfl := Option.some.inj h
      exact call_way cfg [(.len (eL e_GExpr a0), .i ((a0.length : Nat) : Int)), (.len (eL e_GExpr a1), .i ((a1.length : Nat) : Int)), (.eqI ((a0.length : Nat) : Int) ((a1.length : Nat) : Int), .b true), (.notB true, .b false), (.loop 56 (loopB Try.f56 0) ⟨[(0, .val false [.seq (eL e_GExpr a0)]), (1, .val false [.seq (eL e_GExpr a1)]), (5, .val false [.int .i64 0])], [], 0⟩, .x (.ret) ⟨[(4, .val false [.bool o2_0])], [], 0⟩)] rfl fd_56 (by kernel_rfl) ⟨A.len, A.len, (A.eqI_t c1), rfl, (A.loop (gl_laws_eqExprS_l0 G_laws_eqExpr H_laws_eqExpr a0 a1 _ 0 _ ho2)), trivial⟩
    · try dsimp only at h
      obtain rfl := Option.some.inj h
      exact call_way cfg [(.len (eL e_GExpr a0), .i ((a0.length : Nat) : Int)), (.len (eL e_GExpr a1), .i ((a1.length : Nat) : Int)), (.eqI ((a0.length : Nat) : Int) ((a1.length : Nat) : Int), .b true), (.notB true, .b false), (.loop 56 (loopB Try.f56 0) ⟨[(0, .val false [.seq (eL e_GExpr a0)]), (1, .val false [.seq (eL e_GExpr a1)]), (5, .val false [.int .i64 0])], [], 0⟩, .x (.exit 0) ⟨[(0, .val false [.seq (eL e_GExpr a0)]), (1, .val false [.seq (eL e_GExpr a1)]), (5, .val false [.int .i64 o2_1]), (14, .val false [.bool false])], [], 0⟩)] rfl fd_56 (by kernel_rfl) ⟨A.len, A.len, (A.eqI_t c1), rfl, (A.loop (gl_laws_eqExprS_l0 G_laws_eqExpr H_laws_eqExpr a0 a1 _ 0 _ ho2)), trivial⟩
  · rw [if_neg c1] at h
    obtain rfl := Option.some.inj h
    exact call_way cfg [(.len (eL e_GExpr a0), .i ((a0.length : Nat) : Int)), (.len (eL e_GExpr a1), .i ((a1.length : Nat) : Int)), (.eqI ((a0.length : Nat) : Int) ((a1.length : Nat) : Int), .b false), (.notB false, .b true)] rfl fd_56 (by kernel_rfl) ⟨A.len, A.len, (A.eqI_f c1), rfl, trivial⟩

def T_laws_eqExpr (G_laws_eqExprS : (List GExpr) → (List GExpr) → Option Bool) (a0 : GExpr) (a1 : GExpr) : Option Bool :=
  if a0.Kind = a1.Kind then
    if a0.N = a1.N then
      (S_laws_eqByteS a0.S a1.S).bind fun r3 =>
      match r3 with
      | true =>
        (S_laws_eqByteSS a0.K a1.K).bind fun r5 =>
        match r5 with
        | true =>
          (G_laws_eqExprS a0.Kids a1.Kids).bind fun r7 =>
          match r7 with
          | true =>
            some true
          | false =>
            some false
        | false =>
          some false
      | false =>
        some false
    else
      some false
  else
    some false

set_option maxRecDepth 100000 in
theorem fd_24 : cfg.funcs 24 = some (bodyOf Try.f24, Try.f24.ntmps, Try.f24.results.toList) := fn_of Try.func24 (by kernel_rfl) (by kernel_rfl)
theorem g_laws_eqExpr (G_laws_eqExprS : (List GExpr) → (List GExpr) → Option Bool) (H_laws_eqExprS : ∀ (a0 : (List GExpr)) (a1 : (List GExpr)) (r : Bool), G_laws_eqExprS a0 a1 = some r → (mach cfg).call 56 [] [.val false [.seq (eL e_GExpr a0)], .val false [.seq (eL e_GExpr a1)]] = some (.val false [.bool r], [])) (a0 : GExpr) (a1 : GExpr) (r : Bool) (h : T_laws_eqExpr G_laws_eqExprS a0 a1 = some r) : (mach cfg).call 24 [] [.val true [.int .i64 a0.Kind, .int .i64 a0.N, .seq (eL e_u8 a0.S), .seq (eL (e_sl e_u8) a0.K), .seq (eL e_GExpr a0.Kids)], .val true [.int .i64 a1.Kind, .int .i64 a1.N, .seq (eL e_u8 a1.S), .seq (eL (e_sl e_u8) a1.K), .seq (eL e_GExpr a1.Kids)]] = some (.val false [.bool r], []) := by
  unfold T_laws_eqExpr at h
  by_cases c1 : a0.Kind = a1.Kind
  · rw [if_pos c1] at h
    by_cases c2 : a0.N = a1.N
    · rw [if_pos c2] at h
      obtain ⟨r3, hr3, h⟩ := Option.bind_eq_some_iff.1 h
      cases r3 with
      | true =>
        try dsimp only at h
        obtain ⟨r5, hr5, h⟩ := Option.bind_eq_some_iff.1 h
        cases r5 with
        | true =>
          try dsimp only at h
          obtain ⟨r7, hr7, h⟩ := Option.bind_eq_some_iff.1 h
          cases r7 with
          | true =>
            try dsimp only at h
            obtain rfl := Option.some.inj h
            exact call_way cfg [(.eqI a0.Kind a1.Kind, .b true), (.notB true, .b false), (.eqI a0.N a1.N, .b true), (.notB true, .b false), (.call 54 [] [.val false [.seq (eL e_u8 a0.S)], .val false [.seq (eL e_u8 a1.S)]], .r (.val false [.bool true]) []), (.notB true, .b false), (.call 55 [] [.val false [.seq (eL (e_sl e_u8) a0.K)], .val false [.seq (eL (e_sl e_u8) a1.K)]], .r (.val false [.bool true]) []), (.notB true, .b false), (.call 56 [] [.val false [.seq (eL e_GExpr a0.Kids)], .val false [.seq (eL e_GExpr a1.Kids)]], .r (.val false [.bool true]) []), (.notB true, .b false)] rfl fd_24 (by kernel_rfl) ⟨(A.eqI_t c1), rfl, (A.eqI_t c2), rfl, (A.call (ok_laws_eqByteS a0.S a1.S _ hr3)), rfl, (A.call (ok_laws_eqByteSS a0.K a1.K _ hr5)), rfl, (A.call (H_laws_eqExprS a0.Kids a1.Kids _ hr7)), rfl, trivial⟩
          | false =>
            try dsimp only at h
            obtain rfl := Option.some.inj h
            exact call_way cfg [(.eqI a0.Kind a1.Kind, .b true), (.notB true, .b false), (.eqI a0.N a1.N, .b true), (.notB true, .b false), (.call 54 [] [.val false [.seq (eL e_u8 a0.S)], .val false [.seq (eL e_u8 a1.S)]], .r (.val false [.bool true]) []), (.notB true, .b false), (.call 55 [] [.val false [.seq (eL (e_sl e_u8) a0.K)], .val false [.seq (eL (e_sl e_u8) a1.K)]], .r (.val false [.bool true]) []), (.notB true, .b false), (.call 56 [] [.val false [.seq (eL e_GExpr a0.Kids)], .val false [.seq (eL e_GExpr a1.Kids)]], .r (.val false [.bool false]) []), (.notB false, .b true)] rfl fd_24 (by kernel_rfl) ⟨(A.eqI_t c1), rfl, (A.eqI_t c2), rfl, (A.call (ok_laws_eqByteS a0.S a1.S _ hr3)), rfl, (A.call (ok_laws_eqByteSS a0.K a1.K _ hr5)), rfl, (A.call (H_laws_eqExprS a0.Kids a1.Kids _ hr7)), rfl, trivial⟩
        | false =>
          try dsimp only at h
          obtain rfl := Option.some.inj h
          exact call_way cfg [(.eqI a0.Kind a1.Kind, .b true), (.notB true, .b false), (.eqI a0.N a1.N, .b true), (.notB true, .b false), (.call 54 [] [.val false [.seq (eL e_u8 a0.S)], .val false [.seq (eL e_u8 a1.S)]], .r (.val false [.bool true]) []), (.notB true, .b false), (.call 55 [] [.val false [.seq (eL (e_sl e_u8) a0.K)], .val false [.seq (eL (e_sl e_u8) a1.K)]], .r (.val false [.bool false]) []), (.notB false, .b true)] rfl fd_24 (by kernel_rfl) ⟨(A.eqI_t c1), rfl, (A.eqI_t c2), rfl, (A.call (ok_laws_eqByteS a0.S a1.S _ hr3)), rfl, (A.call (ok_laws_eqByteSS a0.K a1.K _ hr5)), rfl, trivial⟩
      | false =>
        try dsimp only at h
        obtain rfl := Option.some.inj h
        exact call_way cfg [(.eqI a0.Kind a1.Kind, .b true), (.notB true, .b false), (.eqI a0.N a1.N, .b true), (.notB true, .b false), (.call 54 [] [.val false [.seq (eL e_u8 a0.S)], .val false [.seq (eL e_u8 a1.S)]], .r (.val false [.bool false]) []), (.notB false, .b true)] rfl fd_24 (by kernel_rfl) ⟨(A.eqI_t c1), rfl, (A.eqI_t c2), rfl, (A.call (ok_laws_eqByteS a0.S a1.S _ hr3)), rfl, trivial⟩
    · rw [if_neg c2] at h
      obtain rfl := Option.some.inj h
      exact call_way cfg [(.eqI a0.Kind a1.Kind, .b true), (.notB true, .b false), (.eqI a0.N a1.N, .b false), (.notB false, .b true)] rfl fd_24 (by kernel_rfl) ⟨(A.eqI_t c1), rfl, (A.eqI_f c2), rfl, trivial⟩
  · rw [if_neg c1] at h
    obtain rfl := Option.some.inj h
    exact call_way cfg [(.eqI a0.Kind a1.Kind, .b false), (.notB false, .b true)] rfl fd_24 (by kernel_rfl) ⟨(A.eqI_f c1), rfl, trivial⟩

mutual
def U_laws_eqExprS : Nat → (List GExpr) → (List GExpr) → Option Bool
  | 0, _, _ => none
  | n + 1, a0, a1 => T_laws_eqExprS (U_laws_eqExpr n) n a0 a1
def U_laws_eqExpr : Nat → GExpr → GExpr → Option Bool
  | 0, _, _ => none
  | n + 1, a0, a1 => T_laws_eqExpr (U_laws_eqExprS n) a0 a1
end
theorem rec_laws_eqExprS (n : Nat) : (∀ (a0 : (List GExpr)) (a1 : (List GExpr)) (r : Bool), U_laws_eqExprS n a0 a1 = some r → (mach cfg).call 56 [] [.val false [.seq (eL e_GExpr a0)], .val false [.seq (eL e_GExpr a1)]] = some (.val false [.bool r], [])) ∧ (∀ (a0 : GExpr) (a1 : GExpr) (r : Bool), U_laws_eqExpr n a0 a1 = some r → (mach cfg).call 24 [] [.val true [.int .i64 a0.Kind, .int .i64 a0.N, .seq (eL e_u8 a0.S), .seq (eL (e_sl e_u8) a0.K), .seq (eL e_GExpr a0.Kids)], .val true [.int .i64 a1.Kind, .int .i64 a1.N, .seq (eL e_u8 a1.S), .seq (eL (e_sl e_u8) a1.K), .seq (eL e_GExpr a1.Kids)]] = some (.val false [.bool r], [])) := by
  induction n with
  | zero => exact ⟨fun _ _ _ h => (by rw [U_laws_eqExprS] at h; cases h), fun _ _ _ h => (by rw [U_laws_eqExpr] at h; cases h)⟩
  | succ n ih =>
    obtain ⟨ih_laws_eqExprS, ih_laws_eqExpr⟩ := ih
    exact ⟨fun a0 a1 r h => g_laws_eqExprS (U_laws_eqExpr n) ih_laws_eqExpr n a0 a1 r (by rw [U_laws_eqExprS] at h; exact h),
      fun a0 a1 r h => g_laws_eqExpr (U_laws_eqExprS n) ih_laws_eqExprS a0 a1 r (by rw [U_laws_eqExpr] at h; exact h)⟩
theorem eqExprS_T {G : GExpr → GExpr → Option Bool} {a : List GExpr} {f : Nat} (ha : a.length ≤ 2 ^ 20) (hf : a.length < f) (hG : ∀ v ∈ a, G v v = some true) : T_laws_eqExprS G f a a = some true := by
  have loop : ∀ (d i m : Nat), i + d = a.length → d < m → ∃ z, L_laws_eqExprS_l0 G a a m (i : Int) = some (.inr z) := by
    intro d
    induction d with
    | zero =>
      intro i m hi hm
      obtain ⟨m, rfl, _⟩ := fuel hm
      exact ⟨_, by rw [L_laws_eqExprS_l0, if_neg (by omega)]⟩
    | succ d ih =>
      intro i m hi hm
      obtain ⟨m, rfl, hm'⟩ := fuel hm
      have hil : i < a.length := by omega
      rw [L_laws_eqExprS_l0, if_pos (by omega), natO_nat, Option.bind_some, get_some hil, Option.bind_some, Option.bind_some, hG _ (List.getElem_mem hil), Option.bind_some, w64_succ (by omega)]
      exact ih (i + 1) m (by omega) (by omega)
  obtain ⟨z, hz⟩ := loop a.length 0 f (by omega) (by omega)
  rw [show ((0 : Nat) : Int) = 0 from rfl] at hz
  unfold T_laws_eqExprS
  rw [if_pos rfl, hz]; rfl
theorem eqExpr_U : ∀ (N : Nat) (v : GExpr), xsz v < N → xsz v ≤ 2 ^ 20 → ∀ f : Nat, 2 * xsz v + 3 ≤ f → U_laws_eqExpr f v v = some true := by
  intro N
  induction N with
  | zero => intro v hv; omega
  | succ N ih =>
    intro v hv hs f hf
    obtain ⟨f, rfl, _⟩ := fuel (show 0 < f by omega)
    obtain ⟨f, rfl, _⟩ := fuel (show 0 < f by omega)
    have he := xsz_eq v
    have hl := xszs_len v.Kids
    rw [U_laws_eqExpr]
    unfold T_laws_eqExpr S_laws_eqByteS S_laws_eqByteSS
    rw [if_pos rfl, if_pos rfl, if_pos (show v.S = v.S ∧ v.S.length ≤ 2 ^ 20 from ⟨rfl, by omega⟩), Option.bind_some]
    dsimp only
    rw [if_pos (show v.K = v.K ∧ bsz v.K ≤ 2 ^ 20 from ⟨rfl, by omega⟩), Option.bind_some]
    dsimp only
    rw [U_laws_eqExprS, eqExprS_T (by omega) (by omega) fun x hx => ?_]
    · rfl
    · have := xszs_mem hx
      exact ih x (by omega) (by omega) f (by omega)
open Classical in
noncomputable def S_laws_eqExprS (a0 : (List GExpr)) (a1 : (List GExpr)) : Option Bool := if a0 = a1 ∧ xszs a0 ≤ 2 ^ 20 then some true else none
theorem spec_laws_eqExprS (a0 : (List GExpr)) (a1 : (List GExpr)) (r : Bool) (h : S_laws_eqExprS a0 a1 = some r) : ∃ n, U_laws_eqExprS n a0 a1 = some r := by
  unfold S_laws_eqExprS at h
  obtain ⟨⟨he, ha⟩, h2⟩ := need_c h
  clear h
  subst he
  have hl := xszs_len a0
  refine ⟨2 * xszs a0 + 5, ?_⟩
  rw [U_laws_eqExprS, eqExprS_T (by omega) (by omega) fun x hx => ?_, h2]
  have := xszs_mem hx
  exact eqExpr_U _ x (Nat.lt_succ_self _) (by omega) _ (by omega)
open Classical in
noncomputable def S_laws_eqExpr (a0 : GExpr) (a1 : GExpr) : Option Bool := if a0 = a1 ∧ xsz a0 ≤ 2 ^ 20 then some true else none
theorem spec_laws_eqExpr (a0 : GExpr) (a1 : GExpr) (r : Bool) (h : S_laws_eqExpr a0 a1 = some r) : ∃ n, U_laws_eqExpr n a0 a1 = some r := by
  unfold S_laws_eqExpr at h
  obtain ⟨⟨he, ha⟩, h2⟩ := need_c h
  clear h
  subst he
  exact ⟨2 * xsz a0 + 3, by rw [← h2]; exact eqExpr_U _ a0 (Nat.lt_succ_self _) ha _ (Nat.le_refl _)⟩
theorem ok_laws_eqExprS (a0 : (List GExpr)) (a1 : (List GExpr)) (r : Bool) (h : S_laws_eqExprS a0 a1 = some r) : (mach cfg).call 56 [] [.val false [.seq (eL e_GExpr a0)], .val false [.seq (eL e_GExpr a1)]] = some (.val false [.bool r], []) := by
  obtain ⟨n, hn⟩ := spec_laws_eqExprS a0 a1 r h
  exact (rec_laws_eqExprS n).1 a0 a1 r hn
theorem ok_laws_eqExpr (a0 : GExpr) (a1 : GExpr) (r : Bool) (h : S_laws_eqExpr a0 a1 = some r) : (mach cfg).call 24 [] [.val true [.int .i64 a0.Kind, .int .i64 a0.N, .seq (eL e_u8 a0.S), .seq (eL (e_sl e_u8) a0.K), .seq (eL e_GExpr a0.Kids)], .val true [.int .i64 a1.Kind, .int .i64 a1.N, .seq (eL e_u8 a1.S), .seq (eL (e_sl e_u8) a1.K), .seq (eL e_GExpr a1.Kids)]] = some (.val false [.bool r], []) := by
  obtain ⟨n, hn⟩ := spec_laws_eqExpr a0 a1 r h
  exact (rec_laws_eqExprS n).2 a0 a1 r hn
def S_laws_FnExactExprParts (a0 : GExpr) : Option Bool :=
  (S_laws_szExpr a0 1048576).bind fun r1 =>
  if r1 < 0 then
    some true
  else
    (S_laws_toExpr a0).bind fun r3 =>
    (S_spec_ExprParts r3).bind fun r4 =>
    (S_impl_ExprParts r3).bind fun r5 =>
    if r5 = r4 then
      (S_laws_eqExpr r3 r3).bind fun r7 =>
      match r7 with
      | true =>
        some true
      | false =>
        some false
    else
      some false

set_option maxRecDepth 100000 in
theorem fd_6 : cfg.funcs 6 = some (bodyOf Try.f6, Try.f6.ntmps, Try.f6.results.toList) := fn_of Try.func6 (by kernel_rfl) (by kernel_rfl)
theorem ok_laws_FnExactExprParts (a0 : GExpr) (r : Bool) (h : S_laws_FnExactExprParts a0 = some r) : (mach cfg).call 6 [] [.val true [.int .i64 a0.Kind, .int .i64 a0.N, .seq (eL e_u8 a0.S), .seq (eL (e_sl e_u8) a0.K), .seq (eL e_GExpr a0.Kids)]] = some (.val false [.bool r], []) := by
  unfold S_laws_FnExactExprParts at h
  obtain ⟨r1, hr1, h⟩ := Option.bind_eq_some_iff.1 h
  by_cases c2 : r1 < 0
  · rw [if_pos c2] at h
    obtain rfl := Option.some.inj h
    exact call_way cfg [(.call 20 [] [.val true [.int .i64 a0.Kind, .int .i64 a0.N, .seq (eL e_u8 a0.S), .seq (eL (e_sl e_u8) a0.K), .seq (eL e_GExpr a0.Kids)], .val false [.int .i64 1048576]], .r (.val false [.int .i64 r1]) []), (.ltI r1 0, .b true)] rfl fd_6 (by kernel_rfl) ⟨(A.call (ok_laws_szExpr a0 1048576 _ hr1)), (A.ltI_t c2), trivial⟩
  · rw [if_neg c2] at h
    obtain ⟨r3, hr3, h⟩ := Option.bind_eq_some_iff.1 h
    obtain ⟨r4, hr4, h⟩ := Option.bind_eq_some_iff.1 h
    obtain ⟨r5, hr5, h⟩ := Option.bind_eq_some_iff.1 h
    by_cases c6 : r5 = r4
    · rw [if_pos c6] at h
      obtain ⟨r7, hr7, h⟩ := Option.bind_eq_some_iff.1 h
      cases r7 with
      | true =>
        try dsimp only at h
        obtain rfl := Option.some.inj h
        exact call_way cfg [(.call 20 [] [.val true [.int .i64 a0.Kind, .int .i64 a0.N, .seq (eL e_u8 a0.S), .seq (eL (e_sl e_u8) a0.K), .seq (eL e_GExpr a0.Kids)], .val false [.int .i64 1048576]], .r (.val false [.int .i64 r1]) []), (.ltI r1 0, .b false), (.call 22 [] [.val true [.int .i64 a0.Kind, .int .i64 a0.N, .seq (eL e_u8 a0.S), .seq (eL (e_sl e_u8) a0.K), .seq (eL e_GExpr a0.Kids)]], .r (.val true [.int .i64 r3.Kind, .int .i64 r3.N, .seq (eL e_u8 r3.S), .seq (eL (e_sl e_u8) r3.K), .seq (eL e_GExpr r3.Kids)]) []), (.call 21 [] [.val true [.int .i64 r3.Kind, .int .i64 r3.N, .seq (eL e_u8 r3.S), .seq (eL (e_sl e_u8) r3.K), .seq (eL e_GExpr r3.Kids)]], .r (.val false [.int .i64 r4]) []), (.call 22 [] [.val true [.int .i64 a0.Kind, .int .i64 a0.N, .seq (eL e_u8 a0.S), .seq (eL (e_sl e_u8) a0.K), .seq (eL e_GExpr a0.Kids)]], .r (.val true [.int .i64 r3.Kind, .int .i64 r3.N, .seq (eL e_u8 r3.S), .seq (eL (e_sl e_u8) r3.K), .seq (eL e_GExpr r3.Kids)]) []), (.call 23 [] [.val true [.int .i64 r3.Kind, .int .i64 r3.N, .seq (eL e_u8 r3.S), .seq (eL (e_sl e_u8) r3.K), .seq (eL e_GExpr r3.Kids)]], .r (.val false [.int .i64 r5]) []), (.eqI r5 r4, .b true), (.notB true, .b false), (.call 22 [] [.val true [.int .i64 a0.Kind, .int .i64 a0.N, .seq (eL e_u8 a0.S), .seq (eL (e_sl e_u8) a0.K), .seq (eL e_GExpr a0.Kids)]], .r (.val true [.int .i64 r3.Kind, .int .i64 r3.N, .seq (eL e_u8 r3.S), .seq (eL (e_sl e_u8) r3.K), .seq (eL e_GExpr r3.Kids)]) []), (.call 24 [] [.val true [.int .i64 r3.Kind, .int .i64 r3.N, .seq (eL e_u8 r3.S), .seq (eL (e_sl e_u8) r3.K), .seq (eL e_GExpr r3.Kids)], .val true [.int .i64 r3.Kind, .int .i64 r3.N, .seq (eL e_u8 r3.S), .seq (eL (e_sl e_u8) r3.K), .seq (eL e_GExpr r3.Kids)]], .r (.val false [.bool true]) []), (.notB true, .b false)] rfl fd_6 (by kernel_rfl) ⟨(A.call (ok_laws_szExpr a0 1048576 _ hr1)), (A.ltI_f c2), (A.call (ok_laws_toExpr a0 _ hr3)), (A.call (ok_spec_ExprParts r3 _ hr4)), (A.call (ok_laws_toExpr a0 _ hr3)), (A.call (ok_impl_ExprParts r3 _ hr5)), (A.eqI_t c6), rfl, (A.call (ok_laws_toExpr a0 _ hr3)), (A.call (ok_laws_eqExpr r3 r3 _ hr7)), rfl, trivial⟩
      | false =>
        try dsimp only at h
        obtain rfl := Option.some.inj h
        exact call_way cfg [(.call 20 [] [.val true [.int .i64 a0.Kind, .int .i64 a0.N, .seq (eL e_u8 a0.S), .seq (eL (e_sl e_u8) a0.K), .seq (eL e_GExpr a0.Kids)], .val false [.int .i64 1048576]], .r (.val false [.int .i64 r1]) []), (.ltI r1 0, .b false), (.call 22 [] [.val true [.int .i64 a0.Kind, .int .i64 a0.N, .seq (eL e_u8 a0.S), .seq (eL (e_sl e_u8) a0.K), .seq (eL e_GExpr a0.Kids)]], .r (.val true [.int .i64 r3.Kind, .int .i64 r3.N, .seq (eL e_u8 r3.S), .seq (eL (e_sl e_u8) r3.K), .seq (eL e_GExpr r3.Kids)]) []), (.call 21 [] [.val true [.int .i64 r3.Kind, .int .i64 r3.N, .seq (eL e_u8 r3.S), .seq (eL (e_sl e_u8) r3.K), .seq (eL e_GExpr r3.Kids)]], .r (.val false [.int .i64 r4]) []), (.call 22 [] [.val true [.int .i64 a0.Kind, .int .i64 a0.N, .seq (eL e_u8 a0.S), .seq (eL (e_sl e_u8) a0.K), .seq (eL e_GExpr a0.Kids)]], .r (.val true [.int .i64 r3.Kind, .int .i64 r3.N, .seq (eL e_u8 r3.S), .seq (eL (e_sl e_u8) r3.K), .seq (eL e_GExpr r3.Kids)]) []), (.call 23 [] [.val true [.int .i64 r3.Kind, .int .i64 r3.N, .seq (eL e_u8 r3.S), .seq (eL (e_sl e_u8) r3.K), .seq (eL e_GExpr r3.Kids)]], .r (.val false [.int .i64 r5]) []), (.eqI r5 r4, .b true), (.notB true, .b false), (.call 22 [] [.val true [.int .i64 a0.Kind, .int .i64 a0.N, .seq (eL e_u8 a0.S), .seq (eL (e_sl e_u8) a0.K), .seq (eL e_GExpr a0.Kids)]], .r (.val true [.int .i64 r3.Kind, .int .i64 r3.N, .seq (eL e_u8 r3.S), .seq (eL (e_sl e_u8) r3.K), .seq (eL e_GExpr r3.Kids)]) []), (.call 24 [] [.val true [.int .i64 r3.Kind, .int .i64 r3.N, .seq (eL e_u8 r3.S), .seq (eL (e_sl e_u8) r3.K), .seq (eL e_GExpr r3.Kids)], .val true [.int .i64 r3.Kind, .int .i64 r3.N, .seq (eL e_u8 r3.S), .seq (eL (e_sl e_u8) r3.K), .seq (eL e_GExpr r3.Kids)]], .r (.val false [.bool false]) []), (.notB false, .b true)] rfl fd_6 (by kernel_rfl) ⟨(A.call (ok_laws_szExpr a0 1048576 _ hr1)), (A.ltI_f c2), (A.call (ok_laws_toExpr a0 _ hr3)), (A.call (ok_spec_ExprParts r3 _ hr4)), (A.call (ok_laws_toExpr a0 _ hr3)), (A.call (ok_impl_ExprParts r3 _ hr5)), (A.eqI_t c6), rfl, (A.call (ok_laws_toExpr a0 _ hr3)), (A.call (ok_laws_eqExpr r3 r3 _ hr7)), rfl, trivial⟩
    · rw [if_neg c6] at h
      obtain rfl := Option.some.inj h
      exact call_way cfg [(.call 20 [] [.val true [.int .i64 a0.Kind, .int .i64 a0.N, .seq (eL e_u8 a0.S), .seq (eL (e_sl e_u8) a0.K), .seq (eL e_GExpr a0.Kids)], .val false [.int .i64 1048576]], .r (.val false [.int .i64 r1]) []), (.ltI r1 0, .b false), (.call 22 [] [.val true [.int .i64 a0.Kind, .int .i64 a0.N, .seq (eL e_u8 a0.S), .seq (eL (e_sl e_u8) a0.K), .seq (eL e_GExpr a0.Kids)]], .r (.val true [.int .i64 r3.Kind, .int .i64 r3.N, .seq (eL e_u8 r3.S), .seq (eL (e_sl e_u8) r3.K), .seq (eL e_GExpr r3.Kids)]) []), (.call 21 [] [.val true [.int .i64 r3.Kind, .int .i64 r3.N, .seq (eL e_u8 r3.S), .seq (eL (e_sl e_u8) r3.K), .seq (eL e_GExpr r3.Kids)]], .r (.val false [.int .i64 r4]) []), (.call 22 [] [.val true [.int .i64 a0.Kind, .int .i64 a0.N, .seq (eL e_u8 a0.S), .seq (eL (e_sl e_u8) a0.K), .seq (eL e_GExpr a0.Kids)]], .r (.val true [.int .i64 r3.Kind, .int .i64 r3.N, .seq (eL e_u8 r3.S), .seq (eL (e_sl e_u8) r3.K), .seq (eL e_GExpr r3.Kids)]) []), (.call 23 [] [.val true [.int .i64 r3.Kind, .int .i64 r3.N, .seq (eL e_u8 r3.S), .seq (eL (e_sl e_u8) r3.K), .seq (eL e_GExpr r3.Kids)]], .r (.val false [.int .i64 r5]) []), (.eqI r5 r4, .b false), (.notB false, .b true)] rfl fd_6 (by kernel_rfl) ⟨(A.call (ok_laws_szExpr a0 1048576 _ hr1)), (A.ltI_f c2), (A.call (ok_laws_toExpr a0 _ hr3)), (A.call (ok_spec_ExprParts r3 _ hr4)), (A.call (ok_laws_toExpr a0 _ hr3)), (A.call (ok_impl_ExprParts r3 _ hr5)), (A.eqI_f c6), rfl, trivial⟩

end
end Go.Am.Try
