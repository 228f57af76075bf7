/- The functions of the program in plain Lean, and that the machine answers as they do; conditions at each theorem. -/
import Derived.Test.YtnhmhmjgeffboaaXG2
set_option linter.unusedVariables false
set_option linter.unusedSimpArgs false
namespace Go.Am.Try
open Go.Am Go.Proofs
set_option linter.unusedVariables false
set_option maxRecDepth 20000
set_option maxHeartbeats 2000000
noncomputable section
def S_spec_ExprOk (a0 : GExpr) : Option Bool :=
  (S_spec_l6expr a0 1 150).bind fun r1 =>
  some (decide (0 ≤ r1))

set_option maxRecDepth 100000 in
theorem fd_47 : cfg.funcs 47 = some (bodyOf Try.f47, Try.f47.ntmps, Try.f47.results.toList) := fn_of Try.func47 (by kernel_rfl) (by kernel_rfl)
theorem ok_spec_ExprOk (a0 : GExpr) (r : Bool) (h : S_spec_ExprOk a0 = some r) : (mach cfg).call 47 [] [.val true [.int .i64 a0.Kind, .int .i64 a0.N, .seq (eL e_u8 a0.S), .seq (eL (e_sl e_u8) a0.K), .seq (eL e_GExpr a0.Kids)]] = some (.val false [.bool r], []) := by
  unfold S_spec_ExprOk at h
  obtain ⟨r1, hr1, h⟩ := Option.bind_eq_some_iff.1 h
  obtain rfl := Option.some.inj h
  exact call_way cfg [(.call 78 [] [.val true [.int .i64 a0.Kind, .int .i64 a0.N, .seq (eL e_u8 a0.S), .seq (eL (e_sl e_u8) a0.K), .seq (eL e_GExpr a0.Kids)], .val false [.int .i64 1], .val false [.int .i64 150]], .r (.val false [.int .i64 r1]) []), (.leI 0 r1, .b (decide (0 ≤ r1)))] rfl fd_47 (by kernel_rfl) ⟨(A.call (ok_spec_l6expr a0 1 150 _ hr1)), A.leI_d, trivial⟩

def L_spec_l7parts_l0 (G_spec_l7parts : GExpr → Option Int) (a0 : GExpr) : Nat → Int → Int → Option (Int × Int)
  | 0, _, _ => none
  | m + 1, v0, v1 =>
    if v1 < ((a0.Kids.length : Nat) : Int) then
      (natO v1).bind fun i2 =>
      (a0.Kids[i2]?).bind fun x3 =>
      (G_spec_l7parts x3).bind fun r4 =>
      L_spec_l7parts_l0 G_spec_l7parts a0 m (w64 (v0 + r4)) (w64 (v1 + 1))
    else
      some (v0, v1)

theorem gl_spec_l7parts_l0 (G_spec_l7parts : GExpr → Option Int) (H_spec_l7parts : ∀ (a0 : GExpr) (r : Int), G_spec_l7parts a0 = some r → (mach cfg).call 48 [] [.val true [.int .i64 a0.Kind, .int .i64 a0.N, .seq (eL e_u8 a0.S), .seq (eL (e_sl e_u8) a0.K), .seq (eL e_GExpr a0.Kids)]] = some (.val false [.int .i64 r], [])) (a0 : GExpr) (m : Nat) : ∀ (v0 : Int) (v1 : Int) (o : (Int × Int)), L_spec_l7parts_l0 G_spec_l7parts a0 m v0 v1 = some o → (mach cfg).loop 48 (loopB Try.f48 0) ⟨[(1, .val false [.ptr 0 0]), (3, .val false [.int .i64 v0]), (4, .val false [.int .i64 v1])], [.var [.int .i64 a0.Kind, .int .i64 a0.N, .seq (eL e_u8 a0.S), .seq (eL (e_sl e_u8) a0.K), .seq (eL e_GExpr a0.Kids)]], 0⟩ = some (match o with | ⟨o_0, o_1⟩ => (.exit 0, (⟨[(1, .val false [.ptr 0 0]), (3, .val false [.int .i64 o_0]), (4, .val false [.int .i64 o_1]), (9, .val false [.bool false])], [.var [.int .i64 a0.Kind, .int .i64 a0.N, .seq (eL e_u8 a0.S), .seq (eL (e_sl e_u8) a0.K), .seq (eL e_GExpr a0.Kids)]], 0⟩ : S))) := by
  induction m with
  | zero => intro v0 v1 o h; cases h
  | succ m ih =>
    intro v0 v1 o h
    rw [L_spec_l7parts_l0] at h
    by_cases c1 : v1 < ((a0.Kids.length : Nat) : Int)
    · rw [if_pos c1] at h
      obtain ⟨i2, hi2, h⟩ := Option.bind_eq_some_iff.1 h
      obtain ⟨x3, hx3, h⟩ := Option.bind_eq_some_iff.1 h
      obtain ⟨r4, hr4, h⟩ := Option.bind_eq_some_iff.1 h
      exact loop_on cfg [(.len (eL e_GExpr a0.Kids), .i ((a0.Kids.length : Nat) : Int)), (.ltI v1 ((a0.Kids.length : Nat) : Int), .b true), (.nat v1, .n i2), (.idx (eL e_GExpr a0.Kids) i2, .e [.int .i64 x3.Kind, .int .i64 x3.N, .seq (eL e_u8 x3.S), .seq (eL (e_sl e_u8) x3.K), .seq (eL e_GExpr x3.Kids)]), (.call 48 [] [.val true [.int .i64 x3.Kind, .int .i64 x3.N, .seq (eL e_u8 x3.S), .seq (eL (e_sl e_u8) x3.K), .seq (eL e_GExpr x3.Kids)]], .r (.val false [.int .i64 r4]) []), (.add .i64 v0 r4, .i (w64 (v0 + r4))), (.add .i64 v1 1, .i (w64 (v1 + 1)))] (by kernel_rfl) ⟨A.len, (A.ltI_t c1), (A.nat hi2), (A.idx hx3 (eq_GExpr x3)), (A.call (H_spec_l7parts x3 _ hr4)), rfl, rfl, trivial⟩ (ih (w64 (v0 + r4)) (w64 (v1 + 1)) o h)
    · rw [if_neg c1] at h
      obtain rfl := Option.some.inj h
      exact loop_end cfg [(.len (eL e_GExpr a0.Kids), .i ((a0.Kids.length : Nat) : Int)), (.ltI v1 ((a0.Kids.length : Nat) : Int), .b false)] (by kernel_rfl) ⟨A.len, (A.ltI_f c1), trivial⟩ (by intro h; cases h)

def T_spec_l7parts (G_spec_l7parts : GExpr → Option Int) (n : Nat) (a0 : GExpr) : Option Int :=
  (L_spec_l7parts_l0 G_spec_l7parts a0 n 1 0).bind fun ⟨o1_0, o1_1⟩ =>
  some o1_0

set_option maxRecDepth 100000 in
theorem fd_48 : cfg.funcs 48 = some (bodyOf Try.f48, Try.f48.ntmps, Try.f48.results.toList) := fn_of Try.func48 (by kernel_rfl) (by kernel_rfl)
theorem g_spec_l7parts (G_spec_l7parts : GExpr → Option Int) (H_spec_l7parts : ∀ (a0 : GExpr) (r : Int), G_spec_l7parts a0 = some r → (mach cfg).call 48 [] [.val true [.int .i64 a0.Kind, .int .i64 a0.N, .seq (eL e_u8 a0.S), .seq (eL (e_sl e_u8) a0.K), .seq (eL e_GExpr a0.Kids)]] = some (.val false [.int .i64 r], [])) (n : Nat) (a0 : GExpr) (r : Int) (h : T_spec_l7parts G_spec_l7parts n a0 = some r) : (mach cfg).call 48 [] [.val true [.int .i64 a0.Kind, .int .i64 a0.N, .seq (eL e_u8 a0.S), .seq (eL (e_sl e_u8) a0.K), .seq (eL e_GExpr a0.Kids)]] = some (.val false [.int .i64 r], []) := by
  unfold T_spec_l7parts at h
  obtain ⟨⟨o1_0, o1_1⟩, ho1, h⟩ := Option.bind_eq_some_iff.1 h
  try dsimp only at h
  obtain rfl := Option.some.inj h
  exact call_way cfg [(.loop 48 (loopB Try.f48 0) ⟨[(1, .val false [.ptr 0 0]), (3, .val false [.int .i64 1]), (4, .val false [.int .i64 0])], [.var [.int .i64 a0.Kind, .int .i64 a0.N, .seq (eL e_u8 a0.S), .seq (eL (e_sl e_u8) a0.K), .seq (eL e_GExpr a0.Kids)]], 0⟩, .x (.exit 0) ⟨[(1, .val false [.ptr 0 0]), (3, .val false [.int .i64 o1_0]), (4, .val false [.int .i64 o1_1]), (9, .val false [.bool false])], [.var [.int .i64 a0.Kind, .int .i64 a0.N, .seq (eL e_u8 a0.S), .seq (eL (e_sl e_u8) a0.K), .seq (eL e_GExpr a0.Kids)]], 0⟩)] rfl fd_48 (by kernel_rfl) ⟨(A.loop (gl_spec_l7parts_l0 G_spec_l7parts H_spec_l7parts a0 _ 1 0 _ ho1)), trivial⟩

def U_spec_l7parts : Nat → GExpr → Option Int
  | 0, _ => none
  | n + 1, a0 => T_spec_l7parts (U_spec_l7parts n) n a0
theorem rec_spec_l7parts (n : Nat) : (∀ (a0 : GExpr) (r : Int), U_spec_l7parts n a0 = some r → (mach cfg).call 48 [] [.val true [.int .i64 a0.Kind, .int .i64 a0.N, .seq (eL e_u8 a0.S), .seq (eL (e_sl e_u8) a0.K), .seq (eL e_GExpr a0.Kids)]] = some (.val false [.int .i64 r], [])) := by
  induction n with
  | zero => exact fun _ _ h => (by rw [U_spec_l7parts] at h; cases h)
  | succ n ih =>
    have ih_spec_l7parts := ih
    exact fun a0 r h => g_spec_l7parts (U_spec_l7parts n) ih_spec_l7parts n a0 r (by rw [U_spec_l7parts] at h; exact h)
theorem spec_l7parts_T {G : GExpr → Option Int} {v : GExpr} {f : Nat} (hs : xsz v ≤ 2 ^ 20) (hf : v.Kids.length < f) (hG : ∀ x ∈ v.Kids, G x = some (((ptX x) : Nat) : Int)) : T_spec_l7parts G f v = some (((ptX v) : Nat) : Int) := by
  have he := xsz_eq v
  have hl := xszs_len v.Kids
  have loop : ∀ (d i m : Nat) (r : Int), i + d = v.Kids.length → d < m → 0 ≤ r → r ≤ 2 ^ 21 - ptXs (v.Kids.drop i) → ∃ z, L_spec_l7parts_l0 G v m r (i : Int) = some (r + ptXs (v.Kids.drop i), z) := by
    intro d
    induction d with
    | zero =>
      intro i m r hi hm h0 h1
      obtain ⟨m, rfl, _⟩ := fuel hm
      exact ⟨_, by rw [L_spec_l7parts_l0, if_neg (by omega), List.drop_eq_nil_of_le (by omega)]; simp [ptXs]; rfl⟩
    | succ d ih =>
      intro i m r hi hm h0 h1
      obtain ⟨m, rfl, hm'⟩ := fuel hm
      have hil : i < v.Kids.length := by omega
      have hp : ptXs (v.Kids.drop i) = ptX v.Kids[i] + ptXs (v.Kids.drop (i + 1)) := by rw [drop_cons hil]; simp only [ptXs]
      rw [hp] at h1 ⊢
      rw [L_spec_l7parts_l0, if_pos (by omega), natO_nat, Option.bind_some, get_some hil, Option.bind_some, hG _ (List.getElem_mem hil), Option.bind_some, w64_succ (by omega), w64_id (by omega) (by omega)]
      obtain ⟨z, hz⟩ := ih (i + 1) m (r + ptX v.Kids[i]) (by omega) (by omega) (by omega) (by omega)
      exact ⟨z, by rw [hz]; congr 2; omega⟩
  have hle := ptXs_le v.Kids
  obtain ⟨z, hz⟩ := loop v.Kids.length 0 f 1 (by omega) (by omega) (by omega) (by rw [List.drop_zero]; omega)
  rw [show ((0 : Nat) : Int) = 0 from rfl, List.drop_zero] at hz
  unfold T_spec_l7parts
  rw [hz, ptX_eq]
  simp only [Option.bind_some]
  congr 1
theorem spec_l7parts_U : ∀ (N : Nat) (v : GExpr), xsz v < N → xsz v ≤ 2 ^ 20 → ∀ f : Nat, xsz v + 2 ≤ f → U_spec_l7parts f v = some (((ptX v) : Nat) : Int) := by
  intro N
  induction N with
  | zero => intro v hv; omega
  | succ N ih =>
    intro v hv hs f hf
    obtain ⟨f, rfl, _⟩ := fuel (show 0 < f by omega)
    have he := xsz_eq v
    have hl := xszs_len v.Kids
    rw [U_spec_l7parts]
    refine spec_l7parts_T hs (by omega) fun x hx => ?_
    have := xszs_mem hx
    exact ih x (by omega) (by omega) f (by omega)
def S_spec_l7parts (a0 : GExpr) : Option Int := if xsz a0 ≤ 2 ^ 20 then some (((ptX a0) : Nat) : Int) else none
theorem spec_spec_l7parts (a0 : GExpr) (r : Int) (h : S_spec_l7parts a0 = some r) : ∃ n, U_spec_l7parts n a0 = some r := by
  unfold S_spec_l7parts at h
  obtain ⟨ha, h⟩ := need_c h
  exact ⟨xsz a0 + 2, by rw [← h]; exact spec_l7parts_U _ a0 (Nat.lt_succ_self _) ha _ (Nat.le_refl _)⟩
theorem ok_spec_l7parts (a0 : GExpr) (r : Int) (h : S_spec_l7parts a0 = some r) : (mach cfg).call 48 [] [.val true [.int .i64 a0.Kind, .int .i64 a0.N, .seq (eL e_u8 a0.S), .seq (eL (e_sl e_u8) a0.K), .seq (eL e_GExpr a0.Kids)]] = some (.val false [.int .i64 r], []) := by
  obtain ⟨n, hn⟩ := spec_spec_l7parts a0 r h
  exact (rec_spec_l7parts n) a0 r hn
def S_spec_ExprParts (a0 : GExpr) : Option Int :=
  (S_spec_ExprOk a0).bind fun r1 =>
  match r1 with
  | true =>
    (S_spec_l7parts a0).bind fun r3 =>
    some r3
  | false =>
    some 0

set_option maxRecDepth 100000 in
theorem fd_21 : cfg.funcs 21 = some (bodyOf Try.f21, Try.f21.ntmps, Try.f21.results.toList) := fn_of Try.func21 (by kernel_rfl) (by kernel_rfl)
theorem ok_spec_ExprParts (a0 : GExpr) (r : Int) (h : S_spec_ExprParts a0 = some r) : (mach cfg).call 21 [] [.val true [.int .i64 a0.Kind, .int .i64 a0.N, .seq (eL e_u8 a0.S), .seq (eL (e_sl e_u8) a0.K), .seq (eL e_GExpr a0.Kids)]] = some (.val false [.int .i64 r], []) := by
  unfold S_spec_ExprParts at h
  obtain ⟨r1, hr1, h⟩ := Option.bind_eq_some_iff.1 h
  cases r1 with
  | true =>
    try dsimp only at h
    obtain ⟨r3, hr3, h⟩ := Option.bind_eq_some_iff.1 h
    obtain rfl := Option.some.inj h
    exact call_way cfg [(.call 47 [] [.val true [.int .i64 a0.Kind, .int .i64 a0.N, .seq (eL e_u8 a0.S), .seq (eL (e_sl e_u8) a0.K), .seq (eL e_GExpr a0.Kids)]], .r (.val false [.bool true]) []), (.notB true, .b false), (.call 48 [] [.val true [.int .i64 a0.Kind, .int .i64 a0.N, .seq (eL e_u8 a0.S), .seq (eL (e_sl e_u8) a0.K), .seq (eL e_GExpr a0.Kids)]], .r (.val false [.int .i64 r3]) [])] rfl fd_21 (by kernel_rfl) ⟨(A.call (ok_spec_ExprOk a0 _ hr1)), rfl, (A.call (ok_spec_l7parts a0 _ hr3)), trivial⟩
  | false =>
    try dsimp only at h
    obtain rfl := Option.some.inj h
    exact call_way cfg [(.call 47 [] [.val true [.int .i64 a0.Kind, .int .i64 a0.N, .seq (eL e_u8 a0.S), .seq (eL (e_sl e_u8) a0.K), .seq (eL e_GExpr a0.Kids)]], .r (.val false [.bool false]) []), (.notB false, .b true)] rfl fd_21 (by kernel_rfl) ⟨(A.call (ok_spec_ExprOk a0 _ hr1)), rfl, trivial⟩

def S_impl_in (a0 : Int) (a1 : Int) (a2 : Int) : Option Bool :=
  if a1 ≤ a0 then
    some (decide (a0 ≤ a2))
  else
    some false

set_option maxRecDepth 100000 in
theorem fd_38 : cfg.funcs 38 = some (bodyOf Try.f38, Try.f38.ntmps, Try.f38.results.toList) := fn_of Try.func38 (by kernel_rfl) (by kernel_rfl)
theorem ok_impl_in (a0 : Int) (a1 : Int) (a2 : Int) (r : Bool) (h : S_impl_in a0 a1 a2 = some r) : (mach cfg).call 38 [] [.val false [.int .i64 a0], .val false [.int .i64 a1], .val false [.int .i64 a2]] = some (.val false [.bool r], []) := by
  unfold S_impl_in at h
  by_cases c1 : a1 ≤ a0
  · rw [if_pos c1] at h
    obtain rfl := Option.some.inj h
    exact call_way cfg [(.leI a1 a0, .b true), (.leI a0 a2, .b (decide (a0 ≤ a2)))] rfl fd_38 (by kernel_rfl) ⟨(A.leI_t c1), A.leI_d, trivial⟩
  · rw [if_neg c1] at h
    obtain rfl := Option.some.inj h
    exact call_way cfg [(.leI a1 a0, .b false)] rfl fd_38 (by kernel_rfl) ⟨(A.leI_f c1), trivial⟩

def L_impl_isName_l0 (a0 : (List UInt8)) (v1 : Int) : Nat → Int → Option (Bool ⊕ Int)
  | 0, _ => none
  | m + 1, v2 =>
    if v2 < v1 then
      (natO v2).bind fun i2 =>
      (a0[i2]?).bind fun x3 =>
      if ((x3.toNat : Nat) : Int) < 97 then
        some (.inl false)
      else
        if 122 < ((x3.toNat : Nat) : Int) then
          some (.inl false)
        else
          L_impl_isName_l0 a0 v1 m (w64 (v2 + 1))
    else
      some (.inr v2)

theorem gl_impl_isName_l0 (a0 : (List UInt8)) (v1 : Int) (m : Nat) : ∀ (v2 : Int) (o : (Bool ⊕ Int)), L_impl_isName_l0 a0 v1 m v2 = some o → (mach cfg).loop 105 (loopB Try.f105 0) ⟨[(0, .val false [.seq (eL e_u8 a0)]), (5, .val false [.seq (eL e_u8 a0)]), (6, .val false [.int .i64 v1]), (7, .val false [.int .i64 v2])], [], 0⟩ = some (match o with | .inl o_0 => (.ret, (⟨[(2, .val false [.bool o_0])], [], 0⟩ : S)) | .inr (o_1) => (.exit 0, (⟨[(0, .val false [.seq (eL e_u8 a0)]), (5, .val false [.seq (eL e_u8 a0)]), (6, .val false [.int .i64 v1]), (7, .val false [.int .i64 o_1]), (8, .val false [.bool false])], [], 0⟩ : S))) := by
  induction m with
  | zero => intro v2 o h; cases h
  | succ m ih =>
    intro v2 o h
    rw [L_impl_isName_l0] at h
    by_cases c1 : v2 < v1
    · rw [if_pos c1] at h
      obtain ⟨i2, hi2, h⟩ := Option.bind_eq_some_iff.1 h
      obtain ⟨x3, hx3, h⟩ := Option.bind_eq_some_iff.1 h
      by_cases c4 : ((x3.toNat : Nat) : Int) < 97
      · rw [if_pos c4] at h
        obtain rfl := Option.some.inj h
        exact loop_end cfg [(.ltI v2 v1, .b true), (.nat v2, .n i2), (.idx (eL e_u8 a0) i2, .e [.int .u8 ((x3.toNat : Nat) : Int)]), (.ltI ((x3.toNat : Nat) : Int) 97, .b true)] (by kernel_rfl) ⟨(A.ltI_t c1), (A.nat hi2), (A.idx hx3 rfl), (A.ltI_t c4), trivial⟩ (by intro h; cases h)
      · rw [if_neg c4] at h
        by_cases c5 : 122 < ((x3.toNat : Nat) : Int)
        · rw [if_pos c5] at h
          obtain rfl := Option.some.inj h
          exact loop_end cfg [(.ltI v2 v1, .b true), (.nat v2, .n i2), (.idx (eL e_u8 a0) i2, .e [.int .u8 ((x3.toNat : Nat) : Int)]), (.ltI ((x3.toNat : Nat) : Int) 97, .b false), (.ltI 122 ((x3.toNat : Nat) : Int), .b true)] (by kernel_rfl) ⟨(A.ltI_t c1), (A.nat hi2), (A.idx hx3 rfl), (A.ltI_f c4), (A.ltI_t c5), trivial⟩ (by intro h; cases h)
        · rw [if_neg c5] at h
          exact loop_on cfg [(.ltI v2 v1, .b true), (.nat v2, .n i2), (.idx (eL e_u8 a0) i2, .e [.int .u8 ((x3.toNat : Nat) : Int)]), (.ltI ((x3.toNat : Nat) : Int) 97, .b false), (.ltI 122 ((x3.toNat : Nat) : Int), .b false), (.add .i64 v2 1, .i (w64 (v2 + 1)))] (by kernel_rfl) ⟨(A.ltI_t c1), (A.nat hi2), (A.idx hx3 rfl), (A.ltI_f c4), (A.ltI_f c5), rfl, trivial⟩ (ih (w64 (v2 + 1)) o h)
    · rw [if_neg c1] at h
      obtain rfl := Option.some.inj h
      exact loop_end cfg [(.ltI v2 v1, .b false)] (by kernel_rfl) ⟨(A.ltI_f c1), trivial⟩ (by intro h; cases h)

def T_impl_isName (n : Nat) (a0 : (List UInt8)) : Option Bool :=
  (L_impl_isName_l0 a0 ((a0.length : Nat) : Int) n 0).bind fun o1 =>
  match o1 with
  | .inl o1_0 =>
    some o1_0
  | .inr (o1_1) =>
    (S_impl_in ((a0.length : Nat) : Int) 1 8).bind fun r2 =>
    some r2

set_option maxRecDepth 100000 in
theorem fd_105 : cfg.funcs 105 = some (bodyOf Try.f105, Try.f105.ntmps, Try.f105.results.toList) := fn_of Try.func105 (by kernel_rfl) (by kernel_rfl)
theorem g_impl_isName (n : Nat) (a0 : (List UInt8)) (r : Bool) (h : T_impl_isName n a0 = some r) : (mach cfg).call 105 [] [.val false [.seq (eL e_u8 a0)]] = some (.val false [.bool r], []) := by
  unfold T_impl_isName at h
  obtain ⟨o1, ho1, h⟩ := Option.bind_eq_some_iff.1 h
  rcases o1 with o1_0 | o1_1
  · try dsimp only at h
    obtain rfl := Option.some.inj h
    exact call_way cfg [(.len (eL e_u8 a0), .i ((a0.length : Nat) : Int)), (.loop 105 (loopB Try.f105 0) ⟨[(0, .val false [.seq (eL e_u8 a0)]), (5, .val false [.seq (eL e_u8 a0)]), (6, .val false [.int .i64 ((a0.length : Nat) : Int)]), (7, .val false [.int .i64 0])], [], 0⟩, .x (.ret) ⟨[(2, .val false [.bool o1_0])], [], 0⟩)] rfl fd_105 (by kernel_rfl) ⟨A.len, (A.loop (gl_impl_isName_l0 a0 ((a0.length : Nat) : Int) _ 0 _ ho1)), trivial⟩
  · try dsimp only at h
    obtain ⟨r2, hr2, h⟩ := Option.bind_eq_some_iff.1 h
    obtain rfl := Option.some.inj h
    exact call_way cfg [(.len (eL e_u8 a0), .i ((a0.length : Nat) : Int)), (.loop 105 (loopB Try.f105 0) ⟨[(0, .val false [.seq (eL e_u8 a0)]), (5, .val false [.seq (eL e_u8 a0)]), (6, .val false [.int .i64 ((a0.length : Nat) : Int)]), (7, .val false [.int .i64 0])], [], 0⟩, .x (.exit 0) ⟨[(0, .val false [.seq (eL e_u8 a0)]), (5, .val false [.seq (eL e_u8 a0)]), (6, .val false [.int .i64 ((a0.length : Nat) : Int)]), (7, .val false [.int .i64 o1_1]), (8, .val false [.bool false])], [], 0⟩), (.len (eL e_u8 a0), .i ((a0.length : Nat) : Int)), (.call 38 [] [.val false [.int .i64 ((a0.length : Nat) : Int)], .val false [.int .i64 1], .val false [.int .i64 8]], .r (.val false [.bool r2]) [])] rfl fd_105 (by kernel_rfl) ⟨A.len, (A.loop (gl_impl_isName_l0 a0 ((a0.length : Nat) : Int) _ 0 _ ho1)), A.len, (A.call (ok_impl_in ((a0.length : Nat) : Int) 1 8 _ hr2)), trivial⟩

theorem impl_isName_loop {a : List UInt8} (ha : a.length ≤ 2 ^ 20) : ∀ (d i m : Nat), i + d = a.length → d < m → ∃ z, L_impl_isName_l0 a (a.length : Int) m (i : Int) = some (if (a.drop i).all (inB 97 122) = true then .inr z else .inl false) := by
  intro d
  induction d with
  | zero =>
    intro i m hi hm
    obtain ⟨m, rfl, _⟩ := fuel hm
    exact ⟨_, by rw [L_impl_isName_l0, if_neg (by omega), List.drop_eq_nil_of_le (by omega)]; rfl⟩
  | succ d ih =>
    intro i m hi hm
    obtain ⟨m, rfl, hm'⟩ := fuel hm
    have hil : i < a.length := by omega
    rw [L_impl_isName_l0, if_pos (by omega), natO_nat, Option.bind_some, get_some hil, Option.bind_some, w64_succ (by omega), drop_cons hil, List.all_cons]
    by_cases h1 : ((a[i].toNat : Nat) : Int) < 97
    · exact ⟨0, by rw [if_pos h1, if_neg]; simp [inB]; omega⟩
    · rw [if_neg h1]
      by_cases h2 : (122 : Int) < ((a[i].toNat : Nat) : Int)
      · exact ⟨0, by rw [if_pos h2, if_neg]; simp [inB]; omega⟩
      · rw [if_neg h2, show inB 97 122 a[i] = true by simp [inB]; omega, Bool.true_and]
        exact ih (i + 1) m (by omega) (by omega)
theorem in_eq (a b c : Int) : S_impl_in a b c = some (decide (b ≤ a ∧ a ≤ c)) := by
  unfold S_impl_in
  by_cases h : b ≤ a
  · rw [if_pos h]; simp [h]
  · rw [if_neg h]; simp [h]
def S_impl_isName (a0 : (List UInt8)) : Option Bool := if a0.length ≤ 2 ^ 20 then some (nameB a0) else none
theorem spec_impl_isName (a0 : (List UInt8)) (r : Bool) (h : S_impl_isName a0 = some r) : ∃ n, T_impl_isName n a0 = some r := by
  unfold S_impl_isName at h
  obtain ⟨ha, h⟩ := need_c h
  refine ⟨a0.length + 1, ?_⟩
  obtain ⟨z, hz⟩ := impl_isName_loop ha a0.length 0 (a0.length + 1) (by omega) (by omega)
  rw [show ((0 : Nat) : Int) = 0 from rfl, List.drop_zero] at hz
  unfold T_impl_isName
  rw [← h, hz]
  unfold nameB
  have hd : decide (1 ≤ a0.length ∧ a0.length ≤ 8) = decide ((1 : Int) ≤ (a0.length : Int) ∧ (a0.length : Int) ≤ 8) := decide_eq_decide.2 (by omega)
  rw [hd]
  cases a0.all (inB 97 122)
  · rw [Bool.and_false]; rfl
  · rw [Bool.and_true]
    simp only [if_true, Option.bind_some, in_eq]
theorem ok_impl_isName (a0 : (List UInt8)) (r : Bool) (h : S_impl_isName a0 = some r) : (mach cfg).call 105 [] [.val false [.seq (eL e_u8 a0)]] = some (.val false [.bool r], []) := by
  obtain ⟨n, hn⟩ := spec_impl_isName a0 r h
  exact g_impl_isName n a0 r hn
def S_bytes_Compare (a0 : (List UInt8)) (a1 : (List UInt8)) : Option Int :=
  (S_internal_bytealg_Compare a0 a1).bind fun r1 =>
  some r1

set_option maxRecDepth 100000 in
theorem fd_96 : cfg.funcs 96 = some (bodyOf Try.f96, Try.f96.ntmps, Try.f96.results.toList) := fn_of Try.func96 (by kernel_rfl) (by kernel_rfl)
theorem ok_bytes_Compare (a0 : (List UInt8)) (a1 : (List UInt8)) (r : Int) (h : S_bytes_Compare a0 a1 = some r) : (mach cfg).call 96 [] [.val false [.seq (eL e_u8 a0)], .val false [.seq (eL e_u8 a1)]] = some (.val false [.int .i64 r], []) := by
  unfold S_bytes_Compare at h
  obtain ⟨r1, hr1, h⟩ := Option.bind_eq_some_iff.1 h
  obtain rfl := Option.some.inj h
  exact call_way cfg [(.call 112 [] [.val false [.seq (eL e_u8 a0)], .val false [.seq (eL e_u8 a1)]], .r (.val false [.int .i64 r1]) [])] rfl fd_96 (by kernel_rfl) ⟨(A.call (ok_internal_bytealg_Compare a0 a1 _ hr1)), trivial⟩

def L_impl_isText_l0 (a0 : (List UInt8)) (v1 : Int) : Nat → Int → Option (Bool ⊕ Int)
  | 0, _ => none
  | m + 1, v2 =>
    if v2 < v1 then
      (natO v2).bind fun i2 =>
      (a0[i2]?).bind fun x3 =>
      if ((x3.toNat : Nat) : Int) < 32 then
        some (.inl false)
      else
        if 126 < ((x3.toNat : Nat) : Int) then
          some (.inl false)
        else
          L_impl_isText_l0 a0 v1 m (w64 (v2 + 1))
    else
      some (.inr v2)

theorem gl_impl_isText_l0 (a0 : (List UInt8)) (v1 : Int) (m : Nat) : ∀ (v2 : Int) (o : (Bool ⊕ Int)), L_impl_isText_l0 a0 v1 m v2 = some o → (mach cfg).loop 104 (loopB Try.f104 0) ⟨[(0, .val false [.seq (eL e_u8 a0)]), (5, .val false [.seq (eL e_u8 a0)]), (6, .val false [.int .i64 v1]), (7, .val false [.int .i64 v2])], [], 0⟩ = some (match o with | .inl o_0 => (.ret, (⟨[(2, .val false [.bool o_0])], [], 0⟩ : S)) | .inr (o_1) => (.exit 0, (⟨[(0, .val false [.seq (eL e_u8 a0)]), (5, .val false [.seq (eL e_u8 a0)]), (6, .val false [.int .i64 v1]), (7, .val false [.int .i64 o_1]), (8, .val false [.bool false])], [], 0⟩ : S))) := by
  induction m with
  | zero => intro v2 o h; cases h
  | succ m ih =>
    intro v2 o h
    rw [L_impl_isText_l0] at h
    by_cases c1 : v2 < v1
    · rw [if_pos c1] at h
      obtain ⟨i2, hi2, h⟩ := Option.bind_eq_some_iff.1 h
      obtain ⟨x3, hx3, h⟩ := Option.bind_eq_some_iff.1 h
      by_cases c4 : ((x3.toNat : Nat) : Int) < 32
      · rw [if_pos c4] at h
        obtain rfl := Option.some.inj h
        exact loop_end cfg [(.ltI v2 v1, .b true), (.nat v2, .n i2), (.idx (eL e_u8 a0) i2, .e [.int .u8 ((x3.toNat : Nat) : Int)]), (.ltI ((x3.toNat : Nat) : Int) 32, .b true)] (by kernel_rfl) ⟨(A.ltI_t c1), (A.nat hi2), (A.idx hx3 rfl), (A.ltI_t c4), trivial⟩ (by intro h; cases h)
      · rw [if_neg c4] at h
        by_cases c5 : 126 < ((x3.toNat : Nat) : Int)
        · rw [if_pos c5] at h
          obtain rfl := Option.some.inj h
          exact loop_end cfg [(.ltI v2 v1, .b true), (.nat v2, .n i2), (.idx (eL e_u8 a0) i2, .e [.int .u8 ((x3.toNat : Nat) : Int)]), (.ltI ((x3.toNat : Nat) : Int) 32, .b false), (.ltI 126 ((x3.toNat : Nat) : Int), .b true)] (by kernel_rfl) ⟨(A.ltI_t c1), (A.nat hi2), (A.idx hx3 rfl), (A.ltI_f c4), (A.ltI_t c5), trivial⟩ (by intro h; cases h)
        · rw [if_neg c5] at h
          exact loop_on cfg [(.ltI v2 v1, .b true), (.nat v2, .n i2), (.idx (eL e_u8 a0) i2, .e [.int .u8 ((x3.toNat : Nat) : Int)]), (.ltI ((x3.toNat : Nat) : Int) 32, .b false), (.ltI 126 ((x3.toNat : Nat) : Int), .b false), (.add .i64 v2 1, .i (w64 (v2 + 1)))] (by kernel_rfl) ⟨(A.ltI_t c1), (A.nat hi2), (A.idx hx3 rfl), (A.ltI_f c4), (A.ltI_f c5), rfl, trivial⟩ (ih (w64 (v2 + 1)) o h)
    · rw [if_neg c1] at h
      obtain rfl := Option.some.inj h
      exact loop_end cfg [(.ltI v2 v1, .b false)] (by kernel_rfl) ⟨(A.ltI_f c1), trivial⟩ (by intro h; cases h)

def T_impl_isText (n : Nat) (a0 : (List UInt8)) : Option Bool :=
  (L_impl_isText_l0 a0 ((a0.length : Nat) : Int) n 0).bind fun o1 =>
  match o1 with
  | .inl o1_0 =>
    some o1_0
  | .inr (o1_1) =>
    some (decide (((a0.length : Nat) : Int) ≤ 20))

set_option maxRecDepth 100000 in
theorem fd_104 : cfg.funcs 104 = some (bodyOf Try.f104, Try.f104.ntmps, Try.f104.results.toList) := fn_of Try.func104 (by kernel_rfl) (by kernel_rfl)
theorem g_impl_isText (n : Nat) (a0 : (List UInt8)) (r : Bool) (h : T_impl_isText n a0 = some r) : (mach cfg).call 104 [] [.val false [.seq (eL e_u8 a0)]] = some (.val false [.bool r], []) := by
  unfold T_impl_isText at h
  obtain ⟨o1, ho1, h⟩ := Option.bind_eq_some_iff.1 h
  rcases o1 with o1_0 | o1_1
  · try dsimp only at h
    obtain rfl := Option.some.inj h
    exact call_way cfg [(.len (eL e_u8 a0), .i ((a0.length : Nat) : Int)), (.loop 104 (loopB Try.f104 0) ⟨[(0, .val false [.seq (eL e_u8 a0)]), (5, .val false [.seq (eL e_u8 a0)]), (6, .val false [.int .i64 ((a0.length : Nat) : Int)]), (7, .val false [.int .i64 0])], [], 0⟩, .x (.ret) ⟨[(2, .val false [.bool o1_0])], [], 0⟩)] rfl fd_104 (by kernel_rfl) ⟨A.len, (A.loop (gl_impl_isText_l0 a0 ((a0.length : Nat) : Int) _ 0 _ ho1)), trivial⟩
  · try dsimp only at h
    obtain rfl := Option.some.inj h
    exact call_way cfg [(.len (eL e_u8 a0), .i ((a0.length : Nat) : Int)), (.loop 104 (loopB Try.f104 0) ⟨[(0, .val false [.seq (eL e_u8 a0)]), (5, .val false [.seq (eL e_u8 a0)]), (6, .val false [.int .i64 ((a0.length : Nat) : Int)]), (7, .val false [.int .i64 0])], [], 0⟩, .x (.exit 0) ⟨[(0, .val false [.seq (eL e_u8 a0)]), (5, .val false [.seq (eL e_u8 a0)]), (6, .val false [.int .i64 ((a0.length : Nat) : Int)]), (7, .val false [.int .i64 o1_1]), (8, .val false [.bool false])], [], 0⟩), (.len (eL e_u8 a0), .i ((a0.length : Nat) : Int)), (.leI ((a0.length : Nat) : Int) 20, .b (decide (((a0.length : Nat) : Int) ≤ 20)))] rfl fd_104 (by kernel_rfl) ⟨A.len, (A.loop (gl_impl_isText_l0 a0 ((a0.length : Nat) : Int) _ 0 _ ho1)), A.len, A.leI_d, trivial⟩

theorem impl_isText_loop {a : List UInt8} (ha : a.length ≤ 2 ^ 20) : ∀ (d i m : Nat), i + d = a.length → d < m → ∃ z, L_impl_isText_l0 a (a.length : Int) m (i : Int) = some (if (a.drop i).all (inB 32 126) = true then .inr z else .inl false) := by
  intro d
  induction d with
  | zero =>
    intro i m hi hm
    obtain ⟨m, rfl, _⟩ := fuel hm
    exact ⟨_, by rw [L_impl_isText_l0, if_neg (by omega), List.drop_eq_nil_of_le (by omega)]; rfl⟩
  | succ d ih =>
    intro i m hi hm
    obtain ⟨m, rfl, hm'⟩ := fuel hm
    have hil : i < a.length := by omega
    rw [L_impl_isText_l0, if_pos (by omega), natO_nat, Option.bind_some, get_some hil, Option.bind_some, w64_succ (by omega), drop_cons hil, List.all_cons]
    by_cases h1 : ((a[i].toNat : Nat) : Int) < 32
    · exact ⟨0, by rw [if_pos h1, if_neg]; simp [inB]; omega⟩
    · rw [if_neg h1]
      by_cases h2 : (126 : Int) < ((a[i].toNat : Nat) : Int)
      · exact ⟨0, by rw [if_pos h2, if_neg]; simp [inB]; omega⟩
      · rw [if_neg h2, show inB 32 126 a[i] = true by simp [inB]; omega, Bool.true_and]
        exact ih (i + 1) m (by omega) (by omega)
def S_impl_isText (a0 : (List UInt8)) : Option Bool := if a0.length ≤ 2 ^ 20 then some (textB a0) else none
theorem spec_impl_isText (a0 : (List UInt8)) (r : Bool) (h : S_impl_isText a0 = some r) : ∃ n, T_impl_isText n a0 = some r := by
  unfold S_impl_isText at h
  obtain ⟨ha, h⟩ := need_c h
  refine ⟨a0.length + 1, ?_⟩
  obtain ⟨z, hz⟩ := impl_isText_loop ha a0.length 0 (a0.length + 1) (by omega) (by omega)
  rw [show ((0 : Nat) : Int) = 0 from rfl, List.drop_zero] at hz
  unfold T_impl_isText
  rw [← h, hz]
  unfold textB
  by_cases hl : a0.length ≤ 20
  · rw [decide_eq_true hl]
    cases a0.all (inB 32 126)
    · rfl
    · show some (decide _) = _; rw [decide_eq_true (by omega)]; rfl
  · rw [decide_eq_false hl]
    cases a0.all (inB 32 126)
    · rfl
    · show some (decide _) = _; rw [decide_eq_false (by omega)]; rfl
theorem ok_impl_isText (a0 : (List UInt8)) (r : Bool) (h : S_impl_isText a0 = some r) : (mach cfg).call 104 [] [.val false [.seq (eL e_u8 a0)]] = some (.val false [.bool r], []) := by
  obtain ⟨n, hn⟩ := spec_impl_isText a0 r h
  exact g_impl_isText n a0 r hn
def S_impl_keptWords : Option (List (List UInt8)) :=
  some [[110, 117, 108, 108], [116, 114, 117, 101], [102, 97, 108, 115, 101], [105, 110, 100, 101, 120], [107, 101, 121], [118, 97, 108], [108, 111, 99, 97, 108], [114, 101, 115], [111, 117, 116], [99, 111, 117, 110, 116], [101, 97, 99, 104]]

set_option maxRecDepth 100000 in
theorem fd_116 : cfg.funcs 116 = some (bodyOf Try.f116, Try.f116.ntmps, Try.f116.results.toList) := fn_of Try.func116 (by kernel_rfl) (by kernel_rfl)
theorem ok_impl_keptWords (r : (List (List UInt8))) (h : S_impl_keptWords = some r) : (mach cfg).call 116 [] [] = some (.val false [.seq (eL e_str r)], []) := by
  unfold S_impl_keptWords at h
  obtain rfl := Option.some.inj h
  exact (call_way cfg (r := (.val false [.seq (viewL (eL e_str [[110, 117, 108, 108], [116, 114, 117, 101], [102, 97, 108, 115, 101], [105, 110, 100, 101, 120], [107, 101, 121], [118, 97, 108], [108, 111, 99, 97, 108], [114, 101, 115], [111, 117, 116], [99, 111, 117, 110, 116], [101, 97, 99, 104]]))], [])) [] rfl fd_116 (by kernel_rfl) trivial).trans (by simp only [viewL_eL E_str])

def L_slices_Index_string_l0 (a0 : (List (List UInt8))) (a1 : (List UInt8)) (v2 : Int) : Nat → Int → Option (Int ⊕ Int)
  | 0, _ => none
  | m + 1, v3 =>
    if v3 < v2 then
      (natO v3).bind fun i2 =>
      (a0[i2]?).bind fun x3 =>
      if a1 = x3 then
        some (.inl v3)
      else
        L_slices_Index_string_l0 a0 a1 v2 m (w64 (v3 + 1))
    else
      some (.inr v3)

theorem gl_slices_Index_string_l0 (a0 : (List (List UInt8))) (a1 : (List UInt8)) (v2 : Int) (m : Nat) : ∀ (v3 : Int) (o : (Int ⊕ Int)), L_slices_Index_string_l0 a0 a1 v2 m v3 = some o → (mach cfg).loop 118 (loopB Try.f118 0) ⟨[(0, .val false [.seq (eL e_str a0)]), (1, .val false [.str a1]), (7, .val false [.int .i64 v2]), (8, .val false [.int .i64 v3])], [], 0⟩ = some (match o with | .inl o_0 => (.ret, (⟨[(4, .val false [.int .i64 o_0])], [], 0⟩ : S)) | .inr (o_1) => (.exit 0, (⟨[(0, .val false [.seq (eL e_str a0)]), (1, .val false [.str a1]), (7, .val false [.int .i64 v2]), (8, .val false [.int .i64 o_1]), (9, .val false [.bool false])], [], 0⟩ : S))) := by
  induction m with
  | zero => intro v3 o h; cases h
  | succ m ih =>
    intro v3 o h
    rw [L_slices_Index_string_l0] at h
    by_cases c1 : v3 < v2
    · rw [if_pos c1] at h
      obtain ⟨i2, hi2, h⟩ := Option.bind_eq_some_iff.1 h
      obtain ⟨x3, hx3, h⟩ := Option.bind_eq_some_iff.1 h
      by_cases c4 : a1 = x3
      · rw [if_pos c4] at h
        obtain rfl := Option.some.inj h
        exact loop_end cfg [(.ltI v3 v2, .b true), (.nat v3, .n i2), (.idx (eL e_str a0) i2, .e [.str x3]), (.eqS a1 x3, .b true)] (by kernel_rfl) ⟨(A.ltI_t c1), (A.nat hi2), (A.idx hx3 rfl), (A.eqS_t c4), trivial⟩ (by intro h; cases h)
      · rw [if_neg c4] at h
        exact loop_on cfg [(.ltI v3 v2, .b true), (.nat v3, .n i2), (.idx (eL e_str a0) i2, .e [.str x3]), (.eqS a1 x3, .b false), (.add .i64 v3 1, .i (w64 (v3 + 1)))] (by kernel_rfl) ⟨(A.ltI_t c1), (A.nat hi2), (A.idx hx3 rfl), (A.eqS_f c4), rfl, trivial⟩ (ih (w64 (v3 + 1)) o h)
    · rw [if_neg c1] at h
      obtain rfl := Option.some.inj h
      exact loop_end cfg [(.ltI v3 v2, .b false)] (by kernel_rfl) ⟨(A.ltI_f c1), trivial⟩ (by intro h; cases h)

def T_slices_Index_string (n : Nat) (a0 : (List (List UInt8))) (a1 : (List UInt8)) : Option Int :=
  (L_slices_Index_string_l0 a0 a1 ((a0.length : Nat) : Int) n 0).bind fun o1 =>
  match o1 with
  | .inl o1_0 =>
    some o1_0
  | .inr (o1_1) =>
    some (-1)

set_option maxRecDepth 100000 in
theorem fd_118 : cfg.funcs 118 = some (bodyOf Try.f118, Try.f118.ntmps, Try.f118.results.toList) := fn_of Try.func118 (by kernel_rfl) (by kernel_rfl)
theorem g_slices_Index_string (n : Nat) (a0 : (List (List UInt8))) (a1 : (List UInt8)) (r : Int) (h : T_slices_Index_string n a0 a1 = some r) : (mach cfg).call 118 [] [.val false [.seq (eL e_str a0)], .val false [.str a1]] = some (.val false [.int .i64 r], []) := by
  unfold T_slices_Index_string at h
  obtain ⟨o1, ho1, h⟩ := Option.bind_eq_some_iff.1 h
  rcases o1 with o1_0 | o1_1
  · try dsimp only at h
    obtain rfl := Option.some.inj h
    exact call_way cfg [(.len (eL e_str a0), .i ((a0.length : Nat) : Int)), (.loop 118 (loopB Try.f118 0) ⟨[(0, .val false [.seq (eL e_str a0)]), (1, .val false [.str a1]), (7, .val false [.int .i64 ((a0.length : Nat) : Int)]), (8, .val false [.int .i64 0])], [], 0⟩, .x (.ret) ⟨[(4, .val false [.int .i64 o1_0])], [], 0⟩)] rfl fd_118 (by kernel_rfl) ⟨A.len, (A.loop (gl_slices_Index_string_l0 a0 a1 ((a0.length : Nat) : Int) _ 0 _ ho1)), trivial⟩
  · try dsimp only at h
    obtain rfl := Option.some.inj h
    exact call_way cfg [(.len (eL e_str a0), .i ((a0.length : Nat) : Int)), (.loop 118 (loopB Try.f118 0) ⟨[(0, .val false [.seq (eL e_str a0)]), (1, .val false [.str a1]), (7, .val false [.int .i64 ((a0.length : Nat) : Int)]), (8, .val false [.int .i64 0])], [], 0⟩, .x (.exit 0) ⟨[(0, .val false [.seq (eL e_str a0)]), (1, .val false [.str a1]), (7, .val false [.int .i64 ((a0.length : Nat) : Int)]), (8, .val false [.int .i64 o1_1]), (9, .val false [.bool false])], [], 0⟩)] rfl fd_118 (by kernel_rfl) ⟨A.len, (A.loop (gl_slices_Index_string_l0 a0 a1 ((a0.length : Nat) : Int) _ 0 _ ho1)), trivial⟩

/-- Where the text first stands, counted from i; -1: nowhere. -/
def ixF (a : List UInt8) : List (List UInt8) → Nat → Int
  | [], _ => -1
  | x :: r, i => if a = x then (i : Int) else ixF a r (i + 1)
theorem ixF_any (a : List UInt8) (l : List (List UInt8)) (i : Nat) : decide (0 ≤ ixF a l i) = l.any fun w => decide (w = a) := by
  induction l generalizing i with
  | nil => rfl
  | cons x l ih =>
    rw [ixF, List.any_cons]
    by_cases h : a = x
    · rw [if_pos h, decide_eq_true h.symm, Bool.true_or]; exact decide_eq_true (by omega)
    · rw [if_neg h, show decide (x = a) = false from decide_eq_false fun e => h e.symm, Bool.false_or]; exact ih _
theorem index_loop {a : List UInt8} {l : List (List UInt8)} (hl : l.length ≤ 2 ^ 20) : ∀ (d i m : Nat), i + d = l.length → d < m → ∃ z, L_slices_Index_string_l0 l a (l.length : Int) m (i : Int) = some (if 0 ≤ ixF a (l.drop i) i then .inl (ixF a (l.drop i) i) else .inr z) := by
  intro d
  induction d with
  | zero =>
    intro i m hi hm
    obtain ⟨m, rfl, _⟩ := fuel hm
    exact ⟨_, by rw [L_slices_Index_string_l0, if_neg (by omega), List.drop_eq_nil_of_le (by omega)]; rfl⟩
  | succ d ih =>
    intro i m hi hm
    obtain ⟨m, rfl, hm'⟩ := fuel hm
    have hil : i < l.length := by omega
    rw [L_slices_Index_string_l0, if_pos (by omega), natO_nat, Option.bind_some, get_some hil, Option.bind_some, w64_succ (by omega), drop_cons hil, ixF]
    by_cases h : a = l[i]
    · exact ⟨0, by rw [if_pos h, if_pos h, if_pos (by omega)]⟩
    · rw [if_neg h, if_neg h]
      exact ih (i + 1) m (by omega) (by omega)
def S_slices_Index_string (a0 : (List (List UInt8))) (a1 : (List UInt8)) : Option Int := if a0.length ≤ 2 ^ 20 then some (ixF a1 a0 0) else none
theorem spec_slices_Index_string (a0 : (List (List UInt8))) (a1 : (List UInt8)) (r : Int) (h : S_slices_Index_string a0 a1 = some r) : ∃ n, T_slices_Index_string n a0 a1 = some r := by
  unfold S_slices_Index_string at h
  obtain ⟨ha, h⟩ := need_c h
  obtain ⟨z, hz⟩ := index_loop (a := a1) ha a0.length 0 (a0.length + 1) (by omega) (by omega)
  rw [show ((0 : Nat) : Int) = 0 from rfl, List.drop_zero] at hz
  refine ⟨a0.length + 1, ?_⟩
  unfold T_slices_Index_string
  rw [hz, ← h]
  have hm : ∀ (l : List (List UInt8)) (i : Nat), ixF a1 l i = -1 ∨ 0 ≤ ixF a1 l i := fun l => by
    induction l with
    | nil => exact fun i => .inl rfl
    | cons x l ih => intro i; rw [ixF]; split; exact .inr (by omega); exact ih _
  rcases hm a0 0 with h | h
  · rw [h]; rfl
  · rw [if_pos h]; rfl
theorem ok_slices_Index_string (a0 : (List (List UInt8))) (a1 : (List UInt8)) (r : Int) (h : S_slices_Index_string a0 a1 = some r) : (mach cfg).call 118 [] [.val false [.seq (eL e_str a0)], .val false [.str a1]] = some (.val false [.int .i64 r], []) := by
  obtain ⟨n, hn⟩ := spec_slices_Index_string a0 a1 r h
  exact g_slices_Index_string n a0 a1 r hn
def S_slices_Contains_string (a0 : (List (List UInt8))) (a1 : (List UInt8)) : Option Bool :=
  (S_slices_Index_string a0 a1).bind fun r1 =>
  some (decide (0 ≤ r1))

set_option maxRecDepth 100000 in
theorem fd_115 : cfg.funcs 115 = some (bodyOf Try.f115, Try.f115.ntmps, Try.f115.results.toList) := fn_of Try.func115 (by kernel_rfl) (by kernel_rfl)
theorem ok_slices_Contains_string (a0 : (List (List UInt8))) (a1 : (List UInt8)) (r : Bool) (h : S_slices_Contains_string a0 a1 = some r) : (mach cfg).call 115 [] [.val false [.seq (eL e_str a0)], .val false [.str a1]] = some (.val false [.bool r], []) := by
  unfold S_slices_Contains_string at h
  obtain ⟨r1, hr1, h⟩ := Option.bind_eq_some_iff.1 h
  obtain rfl := Option.some.inj h
  exact call_way cfg [(.call 118 [] [.val false [.seq (eL e_str a0)], .val false [.str a1]], .r (.val false [.int .i64 r1]) []), (.leI 0 r1, .b (decide (0 ≤ r1)))] rfl fd_115 (by kernel_rfl) ⟨(A.call (ok_slices_Index_string a0 a1 _ hr1)), A.leI_d, trivial⟩

def S_impl_isWord (a0 : (List UInt8)) : Option Bool :=
  (S_impl_isName a0).bind fun r1 =>
  match r1 with
  | true =>
    (S_impl_keptWords).bind fun r3 =>
    (S_slices_Contains_string r3 a0).bind fun r4 =>
    some (!r4)
  | false =>
    some false

set_option maxRecDepth 100000 in
theorem fd_106 : cfg.funcs 106 = some (bodyOf Try.f106, Try.f106.ntmps, Try.f106.results.toList) := fn_of Try.func106 (by kernel_rfl) (by kernel_rfl)
theorem ok_impl_isWord (a0 : (List UInt8)) (r : Bool) (h : S_impl_isWord a0 = some r) : (mach cfg).call 106 [] [.val false [.seq (eL e_u8 a0)]] = some (.val false [.bool r], []) := by
  unfold S_impl_isWord at h
  obtain ⟨r1, hr1, h⟩ := Option.bind_eq_some_iff.1 h
  cases r1 with
  | true =>
    try dsimp only at h
    obtain ⟨r3, hr3, h⟩ := Option.bind_eq_some_iff.1 h
    obtain ⟨r4, hr4, h⟩ := Option.bind_eq_some_iff.1 h
    obtain rfl := Option.some.inj h
    exact call_way cfg [(.call 105 [] [.val false [.seq (eL e_u8 a0)]], .r (.val false [.bool true]) []), (.call 116 [] [], .r (.val false [.seq (eL e_str r3)]) []), (.bytes (eL e_u8 a0), .s a0), (.call 115 [] [.val false [.seq (eL e_str r3)], .val false [.str a0]], .r (.val false [.bool r4]) []), (.notB r4, .b (!r4))] rfl fd_106 (by kernel_rfl) ⟨(A.call (ok_impl_isName a0 _ hr1)), (A.call (ok_impl_keptWords  _ hr3)), A.bytes, (A.call (ok_slices_Contains_string r3 a0 _ hr4)), rfl, trivial⟩
  | false =>
    try dsimp only at h
    obtain rfl := Option.some.inj h
    exact call_way cfg [(.call 105 [] [.val false [.seq (eL e_u8 a0)]], .r (.val false [.bool false]) [])] rfl fd_106 (by kernel_rfl) ⟨(A.call (ok_impl_isName a0 _ hr1)), trivial⟩

end
end Go.Am.Try
