/- The functions of the program in plain Lean, and that the machine answers as they do; conditions at each theorem. -/
import Derived.Test.YtoopljdbjefgoaaEP1
set_option linter.unusedVariables false
set_option linter.unusedSimpArgs false
namespace Go.Am.Try
open Go.Am Go.Proofs
set_option linter.unusedVariables false
set_option maxRecDepth 20000
set_option maxHeartbeats 2000000
noncomputable section
def S_laws_szByteS (a0 : (List UInt8)) (a1 : Int) : Option Int :=
  if (w64 (a1 - ((a0.length : Nat) : Int))) < 0 then
    some (-1)
  else
    some (w64 (a1 - ((a0.length : Nat) : Int)))

set_option maxRecDepth 100000 in
theorem fd_36 : cfg.funcs 36 = some (bodyOf Try.f36, Try.f36.ntmps, Try.f36.results.toList) := fn_of Try.func36 (by kernel_rfl) (by kernel_rfl)
theorem ok_laws_szByteS (a0 : (List UInt8)) (a1 : Int) (r : Int) (h : S_laws_szByteS a0 a1 = some r) : (mach cfg).call 36 [] [.val false [.seq (eL e_u8 a0)], .val false [.int .i64 a1]] = some (.val false [.int .i64 r], []) := by
  unfold S_laws_szByteS at h
  by_cases c1 : (w64 (a1 - ((a0.length : Nat) : Int))) < 0
  · rw [if_pos c1] at h
    obtain rfl := Option.some.inj h
    exact call_way cfg [(.len (eL e_u8 a0), .i ((a0.length : Nat) : Int)), (.sub .i64 a1 ((a0.length : Nat) : Int), .i (w64 (a1 - ((a0.length : Nat) : Int)))), (.ltI (w64 (a1 - ((a0.length : Nat) : Int))) 0, .b true)] rfl fd_36 (by kernel_rfl) ⟨A.len, rfl, (A.ltI_t c1), trivial⟩
  · rw [if_neg c1] at h
    obtain rfl := Option.some.inj h
    exact call_way cfg [(.len (eL e_u8 a0), .i ((a0.length : Nat) : Int)), (.sub .i64 a1 ((a0.length : Nat) : Int), .i (w64 (a1 - ((a0.length : Nat) : Int)))), (.ltI (w64 (a1 - ((a0.length : Nat) : Int))) 0, .b false)] rfl fd_36 (by kernel_rfl) ⟨A.len, rfl, (A.ltI_f c1), trivial⟩

def L_laws_szByteSS_l0 (a0 : (List (List UInt8))) : Nat → Int → Int → Option (Int ⊕ (Int × Int))
  | 0, _, _ => none
  | m + 1, v1, v2 =>
    if v2 < ((a0.length : Nat) : Int) then
      (natO v2).bind fun i2 =>
      (a0[i2]?).bind fun x3 =>
      (S_laws_szByteS x3 v1).bind fun r4 =>
      if r4 < 0 then
        some (.inl (-1))
      else
        L_laws_szByteSS_l0 a0 m r4 (w64 (v2 + 1))
    else
      some (.inr (v1, v2))

theorem gl_laws_szByteSS_l0 (a0 : (List (List UInt8))) (m : Nat) : ∀ (v1 : Int) (v2 : Int) (o : (Int ⊕ (Int × Int))), L_laws_szByteSS_l0 a0 m v1 v2 = some o → (mach cfg).loop 37 (loopB Try.f37 0) ⟨[(0, .val false [.seq (eL (e_sl e_u8) a0)]), (1, .val false [.int .i64 v1]), (5, .val false [.int .i64 v2])], [], 0⟩ = some (match o with | .inl o_0 => (.ret, (⟨[(4, .val false [.int .i64 o_0])], [], 0⟩ : S)) | .inr (⟨o_1_0, o_1_1⟩) => (.exit 0, (⟨[(0, .val false [.seq (eL (e_sl e_u8) a0)]), (1, .val false [.int .i64 o_1_0]), (5, .val false [.int .i64 o_1_1]), (15, .val false [.bool false])], [], 0⟩ : S))) := by
  induction m with
  | zero => intro v1 v2 o h; cases h
  | succ m ih =>
    intro v1 v2 o h
    rw [L_laws_szByteSS_l0] at h
    by_cases c1 : v2 < ((a0.length : Nat) : Int)
    · rw [if_pos c1] at h
      obtain ⟨i2, hi2, h⟩ := Option.bind_eq_some_iff.1 h
      obtain ⟨x3, hx3, h⟩ := Option.bind_eq_some_iff.1 h
      obtain ⟨r4, hr4, h⟩ := Option.bind_eq_some_iff.1 h
      by_cases c5 : r4 < 0
      · rw [if_pos c5] at h
        obtain rfl := Option.some.inj h
        exact loop_end cfg [(.len (eL (e_sl e_u8) a0), .i ((a0.length : Nat) : Int)), (.ltI v2 ((a0.length : Nat) : Int), .b true), (.nat v2, .n i2), (.idx (eL (e_sl e_u8) a0) i2, .e [.seq (eL e_u8 x3)]), (.call 36 [] [.val false [.seq (eL e_u8 x3)], .val false [.int .i64 v1]], .r (.val false [.int .i64 r4]) []), (.ltI r4 0, .b true)] (by kernel_rfl) ⟨A.len, (A.ltI_t c1), (A.nat hi2), (A.idx hx3 rfl), (A.call (ok_laws_szByteS x3 v1 _ hr4)), (A.ltI_t c5), trivial⟩ (by intro h; cases h)
      · rw [if_neg c5] at h
        exact loop_on cfg [(.len (eL (e_sl e_u8) a0), .i ((a0.length : Nat) : Int)), (.ltI v2 ((a0.length : Nat) : Int), .b true), (.nat v2, .n i2), (.idx (eL (e_sl e_u8) a0) i2, .e [.seq (eL e_u8 x3)]), (.call 36 [] [.val false [.seq (eL e_u8 x3)], .val false [.int .i64 v1]], .r (.val false [.int .i64 r4]) []), (.ltI r4 0, .b false), (.add .i64 v2 1, .i (w64 (v2 + 1)))] (by kernel_rfl) ⟨A.len, (A.ltI_t c1), (A.nat hi2), (A.idx hx3 rfl), (A.call (ok_laws_szByteS x3 v1 _ hr4)), (A.ltI_f c5), rfl, trivial⟩ (ih r4 (w64 (v2 + 1)) o h)
    · rw [if_neg c1] at h
      obtain rfl := Option.some.inj h
      exact loop_end cfg [(.len (eL (e_sl e_u8) a0), .i ((a0.length : Nat) : Int)), (.ltI v2 ((a0.length : Nat) : Int), .b false)] (by kernel_rfl) ⟨A.len, (A.ltI_f c1), trivial⟩ (by intro h; cases h)

def T_laws_szByteSS (n : Nat) (a0 : (List (List UInt8))) (a1 : Int) : Option Int :=
  if (w64 (a1 - ((a0.length : Nat) : Int))) < 0 then
    some (-1)
  else
    (L_laws_szByteSS_l0 a0 n (w64 (a1 - ((a0.length : Nat) : Int))) 0).bind fun o2 =>
    match o2 with
    | .inl o2_0 =>
      some o2_0
    | .inr (⟨o2_1_0, o2_1_1⟩) =>
      some o2_1_0

set_option maxRecDepth 100000 in
theorem fd_37 : cfg.funcs 37 = some (bodyOf Try.f37, Try.f37.ntmps, Try.f37.results.toList) := fn_of Try.func37 (by kernel_rfl) (by kernel_rfl)
theorem g_laws_szByteSS (n : Nat) (a0 : (List (List UInt8))) (a1 : Int) (r : Int) (h : T_laws_szByteSS n a0 a1 = some r) : (mach cfg).call 37 [] [.val false [.seq (eL (e_sl e_u8) a0)], .val false [.int .i64 a1]] = some (.val false [.int .i64 r], []) := by
  unfold T_laws_szByteSS at h
  by_cases c1 : (w64 (a1 - ((a0.length : Nat) : Int))) < 0
  · rw [if_pos c1] at h
    obtain rfl := Option.some.inj h
    exact call_way cfg [(.len (eL (e_sl e_u8) a0), .i ((a0.length : Nat) : Int)), (.sub .i64 a1 ((a0.length : Nat) : Int), .i (w64 (a1 - ((a0.length : Nat) : Int)))), (.ltI (w64 (a1 - ((a0.length : Nat) : Int))) 0, .b true)] rfl fd_37 (by kernel_rfl) ⟨A.len, rfl, (A.ltI_t c1), trivial⟩
  · rw [if_neg c1] at h
    obtain ⟨o2, ho2, h⟩ := Option.bind_eq_some_iff.1 h
    rcases o2 with o2_0 | ⟨o2_1_0, o2_1_1⟩
    · try dsimp only at h
      obtain rfl := Option.some.inj h
      exact call_way cfg [(.len (eL (e_sl e_u8) a0), .i ((a0.length : Nat) : Int)), (.sub .i64 a1 ((a0.length : Nat) : Int), .i (w64 (a1 - ((a0.length : Nat) : Int)))), (.ltI (w64 (a1 - ((a0.length : Nat) : Int))) 0, .b false), (.loop 37 (loopB Try.f37 0) ⟨[(0, .val false [.seq (eL (e_sl e_u8) a0)]), (1, .val false [.int .i64 (w64 (a1 - ((a0.length : Nat) : Int)))]), (5, .val false [.int .i64 0])], [], 0⟩, .x (.ret) ⟨[(4, .val false [.int .i64 o2_0])], [], 0⟩)] rfl fd_37 (by kernel_rfl) ⟨A.len, rfl, (A.ltI_f c1), (A.loop (gl_laws_szByteSS_l0 a0 _ (w64 (a1 - ((a0.length : Nat) : Int))) 0 _ ho2)), trivial⟩
    · try dsimp only at h
      obtain rfl := Option.some.inj h
      exact call_way cfg [(.len (eL (e_sl e_u8) a0), .i ((a0.length : Nat) : Int)), (.sub .i64 a1 ((a0.length : Nat) : Int), .i (w64 (a1 - ((a0.length : Nat) : Int)))), (.ltI (w64 (a1 - ((a0.length : Nat) : Int))) 0, .b false), (.loop 37 (loopB Try.f37 0) ⟨[(0, .val false [.seq (eL (e_sl e_u8) a0)]), (1, .val false [.int .i64 (w64 (a1 - ((a0.length : Nat) : Int)))]), (5, .val false [.int .i64 0])], [], 0⟩, .x (.exit 0) ⟨[(0, .val false [.seq (eL (e_sl e_u8) a0)]), (1, .val false [.int .i64 o2_1_0]), (5, .val false [.int .i64 o2_1_1]), (15, .val false [.bool false])], [], 0⟩)] rfl fd_37 (by kernel_rfl) ⟨A.len, rfl, (A.ltI_f c1), (A.loop (gl_laws_szByteSS_l0 a0 _ (w64 (a1 - ((a0.length : Nat) : Int))) 0 _ ho2)), trivial⟩

def MdB (k : List (List UInt8)) : Prop := k.length ≤ 2 ^ 63 - 1 ∧ ∀ b ∈ k, b.length ≤ 2 ^ 63 - 1
theorem szByteS_eq {a : List UInt8} {n : Int} (h : a.length ≤ 2 ^ 63 - 1) (h0 : 0 ≤ n) (h1 : n ≤ 2 ^ 20) : S_laws_szByteS a n = some (if (a.length : Int) ≤ n then n - a.length else -1) := by
  unfold S_laws_szByteS
  rw [w64_id (by omega) (by omega)]
  by_cases hc : (a.length : Int) ≤ n
  · rw [if_neg (by omega), if_pos hc]
  · rw [if_pos (by omega), if_neg hc]
theorem szByteSS_loop {a : List (List UInt8)} (ha : a.length ≤ 2 ^ 20) (hb : ∀ b ∈ a, b.length ≤ 2 ^ 63 - 1) : ∀ (d i m : Nat) (r : Int), i + d = a.length → d < m → 0 ≤ r → r ≤ 2 ^ 20 →
    ∃ z, L_laws_szByteSS_l0 a m r (i : Int) = some (if (((a.drop i).map List.length).sum : Int) ≤ r then .inr (r - ((a.drop i).map List.length).sum, z) else .inl (-1)) := by
  intro d
  induction d with
  | zero =>
    intro i m r hi hm h0 h1
    obtain ⟨m, rfl, _⟩ := fuel hm
    refine ⟨(i : Int), ?_⟩
    rw [L_laws_szByteSS_l0, if_neg (by omega), List.drop_eq_nil_of_le (by omega)]
    rw [List.map_nil, List.sum_nil, if_pos (by simpa using h0)]; simp
  | succ d ih =>
    intro i m r hi hm h0 h1
    obtain ⟨m, rfl, hm'⟩ := fuel hm
    have hil : i < a.length := by omega
    have hx := hb a[i] (List.getElem_mem hil)
    rw [L_laws_szByteSS_l0, if_pos (by omega), natO_nat, Option.bind_some, get_some hil, Option.bind_some, szByteS_eq hx h0 h1, Option.bind_some]
    rw [drop_cons hil, List.map_cons, List.sum_cons]
    by_cases hc : ((a[i]).length : Int) ≤ r
    · rw [if_pos hc, if_neg (by omega), w64_succ (by omega)]
      obtain ⟨z, hz⟩ := ih (i + 1) m (r - (a[i]).length) (by omega) (by omega) (by omega) (by omega)
      refine ⟨z, ?_⟩
      rw [hz]
      by_cases hd : (((a.drop (i + 1)).map List.length).sum : Int) ≤ r - (a[i]).length
      · rw [if_pos hd, if_pos (by omega)]; congr 3; omega
      · rw [if_neg hd, if_neg (by omega)]
    · refine ⟨0, ?_⟩
      rw [if_neg hc, if_pos (by omega), if_neg (by omega)]
theorem szByteSS_val {a : List (List UInt8)} {n : Int} (h : MdB a ∧ 0 ≤ n ∧ n ≤ 2 ^ 20) : T_laws_szByteSS (a.length + 1) a n = some (if (bsz a : Int) ≤ n then n - bsz a else -1) := by
  obtain ⟨⟨ha, hb⟩, h0, h1⟩ := h
  unfold T_laws_szByteSS
  rw [w64_id (by omega) (by omega)]
  unfold bsz
  by_cases hc : (a.length : Int) ≤ n
  · rw [if_neg (by omega)]
    obtain ⟨z, hz⟩ := szByteSS_loop (by omega) hb a.length 0 (a.length + 1) (n - a.length) (by omega) (by omega) (by omega) (by omega)
    rw [show ((0 : Nat) : Int) = 0 from rfl] at hz
    rw [hz]
    simp only [List.drop_zero]
    by_cases hd : ((a.map List.length).sum : Int) ≤ n - a.length
    · rw [if_pos hd, if_pos (by omega)]
      simp only [Option.bind_some]; congr 1; omega
    · rw [if_neg hd, if_neg (by omega)]; rfl
  · rw [if_pos (by omega), if_neg (by omega)]
open Classical in
noncomputable def S_laws_szByteSS (a0 : (List (List UInt8))) (a1 : Int) : Option Int := if MdB a0 ∧ 0 ≤ a1 ∧ a1 ≤ 2 ^ 20 then some (if (bsz a0 : Int) ≤ a1 then a1 - bsz a0 else -1) else none
theorem spec_laws_szByteSS (a0 : (List (List UInt8))) (a1 : Int) (r : Int) (h : S_laws_szByteSS a0 a1 = some r) : ∃ n, T_laws_szByteSS n a0 a1 = some r := by
  unfold S_laws_szByteSS at h
  obtain ⟨hp, h⟩ := need_c h
  exact ⟨_, by rw [← h]; exact szByteSS_val hp⟩
theorem ok_laws_szByteSS (a0 : (List (List UInt8))) (a1 : Int) (r : Int) (h : S_laws_szByteSS a0 a1 = some r) : (mach cfg).call 37 [] [.val false [.seq (eL (e_sl e_u8) a0)], .val false [.int .i64 a1]] = some (.val false [.int .i64 r], []) := by
  obtain ⟨n, hn⟩ := spec_laws_szByteSS a0 a1 r h
  exact g_laws_szByteSS n a0 a1 r hn
def L_laws_szValueS_l0 (G_laws_szValue : GValue → Int → Option Int) (a0 : (List GValue)) : Nat → Int → Int → Option (Int ⊕ (Int × Int))
  | 0, _, _ => none
  | m + 1, v1, v2 =>
    if v2 < ((a0.length : Nat) : Int) then
      (natO v2).bind fun i2 =>
      (a0[i2]?).bind fun x3 =>
      (G_laws_szValue x3 v1).bind fun r4 =>
      if r4 < 0 then
        some (.inl (-1))
      else
        L_laws_szValueS_l0 G_laws_szValue a0 m r4 (w64 (v2 + 1))
    else
      some (.inr (v1, v2))

theorem gl_laws_szValueS_l0 (G_laws_szValue : GValue → Int → Option Int) (H_laws_szValue : ∀ (a0 : GValue) (a1 : Int) (r : Int), G_laws_szValue a0 a1 = some r → (mach cfg).call 7 [] [.val true [.int .i64 a0.Kind, .int .i64 a0.N, .seq (eL e_u8 a0.S), .seq (eL (e_sl e_u8) a0.K), .seq (eL e_GValue a0.L)], .val false [.int .i64 a1]] = some (.val false [.int .i64 r], [])) (a0 : (List GValue)) (m : Nat) : ∀ (v1 : Int) (v2 : Int) (o : (Int ⊕ (Int × Int))), L_laws_szValueS_l0 G_laws_szValue a0 m v1 v2 = some o → (mach cfg).loop 23 (loopB Try.f23 0) ⟨[(0, .val false [.seq (eL e_GValue a0)]), (1, .val false [.int .i64 v1]), (5, .val false [.int .i64 v2])], [], 0⟩ = some (match o with | .inl o_0 => (.ret, (⟨[(4, .val false [.int .i64 o_0])], [], 0⟩ : S)) | .inr (⟨o_1_0, o_1_1⟩) => (.exit 0, (⟨[(0, .val false [.seq (eL e_GValue a0)]), (1, .val false [.int .i64 o_1_0]), (5, .val false [.int .i64 o_1_1]), (15, .val false [.bool false])], [], 0⟩ : S))) := by
  induction m with
  | zero => intro v1 v2 o h; cases h
  | succ m ih =>
    intro v1 v2 o h
    rw [L_laws_szValueS_l0] at h
    by_cases c1 : v2 < ((a0.length : Nat) : Int)
    · rw [if_pos c1] at h
      obtain ⟨i2, hi2, h⟩ := Option.bind_eq_some_iff.1 h
      obtain ⟨x3, hx3, h⟩ := Option.bind_eq_some_iff.1 h
      obtain ⟨r4, hr4, h⟩ := Option.bind_eq_some_iff.1 h
      by_cases c5 : r4 < 0
      · rw [if_pos c5] at h
        obtain rfl := Option.some.inj h
        exact loop_end cfg [(.len (eL e_GValue a0), .i ((a0.length : Nat) : Int)), (.ltI v2 ((a0.length : Nat) : Int), .b true), (.nat v2, .n i2), (.idx (eL e_GValue a0) i2, .e [.int .i64 x3.Kind, .int .i64 x3.N, .seq (eL e_u8 x3.S), .seq (eL (e_sl e_u8) x3.K), .seq (eL e_GValue x3.L)]), (.call 7 [] [.val true [.int .i64 x3.Kind, .int .i64 x3.N, .seq (eL e_u8 x3.S), .seq (eL (e_sl e_u8) x3.K), .seq (eL e_GValue x3.L)], .val false [.int .i64 v1]], .r (.val false [.int .i64 r4]) []), (.ltI r4 0, .b true)] (by kernel_rfl) ⟨A.len, (A.ltI_t c1), (A.nat hi2), (A.idx hx3 (eq_GValue x3)), (A.call (H_laws_szValue x3 v1 _ hr4)), (A.ltI_t c5), trivial⟩ (by intro h; cases h)
      · rw [if_neg c5] at h
        exact loop_on cfg [(.len (eL e_GValue a0), .i ((a0.length : Nat) : Int)), (.ltI v2 ((a0.length : Nat) : Int), .b true), (.nat v2, .n i2), (.idx (eL e_GValue a0) i2, .e [.int .i64 x3.Kind, .int .i64 x3.N, .seq (eL e_u8 x3.S), .seq (eL (e_sl e_u8) x3.K), .seq (eL e_GValue x3.L)]), (.call 7 [] [.val true [.int .i64 x3.Kind, .int .i64 x3.N, .seq (eL e_u8 x3.S), .seq (eL (e_sl e_u8) x3.K), .seq (eL e_GValue x3.L)], .val false [.int .i64 v1]], .r (.val false [.int .i64 r4]) []), (.ltI r4 0, .b false), (.add .i64 v2 1, .i (w64 (v2 + 1)))] (by kernel_rfl) ⟨A.len, (A.ltI_t c1), (A.nat hi2), (A.idx hx3 (eq_GValue x3)), (A.call (H_laws_szValue x3 v1 _ hr4)), (A.ltI_f c5), rfl, trivial⟩ (ih r4 (w64 (v2 + 1)) o h)
    · rw [if_neg c1] at h
      obtain rfl := Option.some.inj h
      exact loop_end cfg [(.len (eL e_GValue a0), .i ((a0.length : Nat) : Int)), (.ltI v2 ((a0.length : Nat) : Int), .b false)] (by kernel_rfl) ⟨A.len, (A.ltI_f c1), trivial⟩ (by intro h; cases h)

def T_laws_szValueS (G_laws_szValue : GValue → Int → Option Int) (n : Nat) (a0 : (List GValue)) (a1 : Int) : Option Int :=
  if (w64 (a1 - ((a0.length : Nat) : Int))) < 0 then
    some (-1)
  else
    (L_laws_szValueS_l0 G_laws_szValue a0 n (w64 (a1 - ((a0.length : Nat) : Int))) 0).bind fun o2 =>
    match o2 with
    | .inl o2_0 =>
      some o2_0
    | .inr (⟨o2_1_0, o2_1_1⟩) =>
      some o2_1_0

set_option maxRecDepth 100000 in
theorem fd_23 : cfg.funcs 23 = some (bodyOf Try.f23, Try.f23.ntmps, Try.f23.results.toList) := fn_of Try.func23 (by kernel_rfl) (by kernel_rfl)
theorem g_laws_szValueS (G_laws_szValue : GValue → Int → Option Int) (H_laws_szValue : ∀ (a0 : GValue) (a1 : Int) (r : Int), G_laws_szValue a0 a1 = some r → (mach cfg).call 7 [] [.val true [.int .i64 a0.Kind, .int .i64 a0.N, .seq (eL e_u8 a0.S), .seq (eL (e_sl e_u8) a0.K), .seq (eL e_GValue a0.L)], .val false [.int .i64 a1]] = some (.val false [.int .i64 r], [])) (n : Nat) (a0 : (List GValue)) (a1 : Int) (r : Int) (h : T_laws_szValueS G_laws_szValue n a0 a1 = some r) : (mach cfg).call 23 [] [.val false [.seq (eL e_GValue a0)], .val false [.int .i64 a1]] = some (.val false [.int .i64 r], []) := by
  unfold T_laws_szValueS at h
  by_cases c1 : (w64 (a1 - ((a0.length : Nat) : Int))) < 0
  · rw [if_pos c1] at h
    obtain rfl := Option.some.inj h
    exact call_way cfg [(.len (eL e_GValue a0), .i ((a0.length : Nat) : Int)), (.sub .i64 a1 ((a0.length : Nat) : Int), .i (w64 (a1 - ((a0.length : Nat) : Int)))), (.ltI (w64 (a1 - ((a0.length : Nat) : Int))) 0, .b true)] rfl fd_23 (by kernel_rfl) ⟨A.len, rfl, (A.ltI_t c1), trivial⟩
  · rw [if_neg c1] at h
    obtain ⟨o2, ho2, h⟩ := Option.bind_eq_some_iff.1 h
    rcases o2 with o2_0 | ⟨o2_1_0, o2_1_1⟩
    · try dsimp only at h
      obtain rfl := Option.some.inj h
      exact call_way cfg [(.len (eL e_GValue a0), .i ((a0.length : Nat) : Int)), (.sub .i64 a1 ((a0.length : Nat) : Int), .i (w64 (a1 - ((a0.length : Nat) : Int)))), (.ltI (w64 (a1 - ((a0.length : Nat) : Int))) 0, .b false), (.loop 23 (loopB Try.f23 0) ⟨[(0, .val false [.seq (eL e_GValue a0)]), (1, .val false [.int .i64 (w64 (a1 - ((a0.length : Nat) : Int)))]), (5, .val false [.int .i64 0])], [], 0⟩, .x (.ret) ⟨[(4, .val false [.int .i64 o2_0])], [], 0⟩)] rfl fd_23 (by kernel_rfl) ⟨A.len, rfl, (A.ltI_f c1), (A.loop (gl_laws_szValueS_l0 G_laws_szValue H_laws_szValue a0 _ (w64 (a1 - ((a0.length : Nat) : Int))) 0 _ ho2)), trivial⟩
    · try dsimp only at h
      obtain rfl := Option.some.inj h
      exact call_way cfg [(.len (eL e_GValue a0), .i ((a0.length : Nat) : Int)), (.sub .i64 a1 ((a0.length : Nat) : Int), .i (w64 (a1 - ((a0.length : Nat) : Int)))), (.ltI (w64 (a1 - ((a0.length : Nat) : Int))) 0, .b false), (.loop 23 (loopB Try.f23 0) ⟨[(0, .val false [.seq (eL e_GValue a0)]), (1, .val false [.int .i64 (w64 (a1 - ((a0.length : Nat) : Int)))]), (5, .val false [.int .i64 0])], [], 0⟩, .x (.exit 0) ⟨[(0, .val false [.seq (eL e_GValue a0)]), (1, .val false [.int .i64 o2_1_0]), (5, .val false [.int .i64 o2_1_1]), (15, .val false [.bool false])], [], 0⟩)] rfl fd_23 (by kernel_rfl) ⟨A.len, rfl, (A.ltI_f c1), (A.loop (gl_laws_szValueS_l0 G_laws_szValue H_laws_szValue a0 _ (w64 (a1 - ((a0.length : Nat) : Int))) 0 _ ho2)), trivial⟩

def T_laws_szValue (G_laws_szValueS : (List GValue) → Int → Option Int) (a0 : GValue) (a1 : Int) : Option Int :=
  (S_laws_szByteS a0.S a1).bind fun r1 =>
  if r1 < 0 then
    some (-1)
  else
    (S_laws_szByteSS a0.K r1).bind fun r3 =>
    if r3 < 0 then
      some (-1)
    else
      (G_laws_szValueS a0.L r3).bind fun r5 =>
      if r5 < 0 then
        some (-1)
      else
        some r5

set_option maxRecDepth 100000 in
theorem fd_7 : cfg.funcs 7 = some (bodyOf Try.f7, Try.f7.ntmps, Try.f7.results.toList) := fn_of Try.func7 (by kernel_rfl) (by kernel_rfl)
theorem g_laws_szValue (G_laws_szValueS : (List GValue) → Int → Option Int) (H_laws_szValueS : ∀ (a0 : (List GValue)) (a1 : Int) (r : Int), G_laws_szValueS a0 a1 = some r → (mach cfg).call 23 [] [.val false [.seq (eL e_GValue a0)], .val false [.int .i64 a1]] = some (.val false [.int .i64 r], [])) (a0 : GValue) (a1 : Int) (r : Int) (h : T_laws_szValue G_laws_szValueS a0 a1 = some r) : (mach cfg).call 7 [] [.val true [.int .i64 a0.Kind, .int .i64 a0.N, .seq (eL e_u8 a0.S), .seq (eL (e_sl e_u8) a0.K), .seq (eL e_GValue a0.L)], .val false [.int .i64 a1]] = some (.val false [.int .i64 r], []) := by
  unfold T_laws_szValue at h
  obtain ⟨r1, hr1, h⟩ := Option.bind_eq_some_iff.1 h
  by_cases c2 : r1 < 0
  · rw [if_pos c2] at h
    obtain rfl := Option.some.inj h
    exact call_way cfg [(.call 36 [] [.val false [.seq (eL e_u8 a0.S)], .val false [.int .i64 a1]], .r (.val false [.int .i64 r1]) []), (.ltI r1 0, .b true)] rfl fd_7 (by kernel_rfl) ⟨(A.call (ok_laws_szByteS a0.S a1 _ hr1)), (A.ltI_t c2), trivial⟩
  · rw [if_neg c2] at h
    obtain ⟨r3, hr3, h⟩ := Option.bind_eq_some_iff.1 h
    by_cases c4 : r3 < 0
    · rw [if_pos c4] at h
      obtain rfl := Option.some.inj h
      exact call_way cfg [(.call 36 [] [.val false [.seq (eL e_u8 a0.S)], .val false [.int .i64 a1]], .r (.val false [.int .i64 r1]) []), (.ltI r1 0, .b false), (.call 37 [] [.val false [.seq (eL (e_sl e_u8) a0.K)], .val false [.int .i64 r1]], .r (.val false [.int .i64 r3]) []), (.ltI r3 0, .b true)] rfl fd_7 (by kernel_rfl) ⟨(A.call (ok_laws_szByteS a0.S a1 _ hr1)), (A.ltI_f c2), (A.call (ok_laws_szByteSS a0.K r1 _ hr3)), (A.ltI_t c4), trivial⟩
    · rw [if_neg c4] at h
      obtain ⟨r5, hr5, h⟩ := Option.bind_eq_some_iff.1 h
      by_cases c6 : r5 < 0
      · rw [if_pos c6] at h
        obtain rfl := Option.some.inj h
        exact call_way cfg [(.call 36 [] [.val false [.seq (eL e_u8 a0.S)], .val false [.int .i64 a1]], .r (.val false [.int .i64 r1]) []), (.ltI r1 0, .b false), (.call 37 [] [.val false [.seq (eL (e_sl e_u8) a0.K)], .val false [.int .i64 r1]], .r (.val false [.int .i64 r3]) []), (.ltI r3 0, .b false), (.call 23 [] [.val false [.seq (eL e_GValue a0.L)], .val false [.int .i64 r3]], .r (.val false [.int .i64 r5]) []), (.ltI r5 0, .b true)] rfl fd_7 (by kernel_rfl) ⟨(A.call (ok_laws_szByteS a0.S a1 _ hr1)), (A.ltI_f c2), (A.call (ok_laws_szByteSS a0.K r1 _ hr3)), (A.ltI_f c4), (A.call (H_laws_szValueS a0.L r3 _ hr5)), (A.ltI_t c6), trivial⟩
      · rw [if_neg c6] at h
        obtain rfl := Option.some.inj h
        exact call_way cfg [(.call 36 [] [.val false [.seq (eL e_u8 a0.S)], .val false [.int .i64 a1]], .r (.val false [.int .i64 r1]) []), (.ltI r1 0, .b false), (.call 37 [] [.val false [.seq (eL (e_sl e_u8) a0.K)], .val false [.int .i64 r1]], .r (.val false [.int .i64 r3]) []), (.ltI r3 0, .b false), (.call 23 [] [.val false [.seq (eL e_GValue a0.L)], .val false [.int .i64 r3]], .r (.val false [.int .i64 r5]) []), (.ltI r5 0, .b false)] rfl fd_7 (by kernel_rfl) ⟨(A.call (ok_laws_szByteS a0.S a1 _ hr1)), (A.ltI_f c2), (A.call (ok_laws_szByteSS a0.K r1 _ hr3)), (A.ltI_f c4), (A.call (H_laws_szValueS a0.L r3 _ hr5)), (A.ltI_f c6), trivial⟩

mutual
def U_laws_szValueS : Nat → (List GValue) → Int → Option Int
  | 0, _, _ => none
  | n + 1, a0, a1 => T_laws_szValueS (U_laws_szValue n) n a0 a1
def U_laws_szValue : Nat → GValue → Int → Option Int
  | 0, _, _ => none
  | n + 1, a0, a1 => T_laws_szValue (U_laws_szValueS n) a0 a1
end
theorem rec_laws_szValueS (n : Nat) : (∀ (a0 : (List GValue)) (a1 : Int) (r : Int), U_laws_szValueS n a0 a1 = some r → (mach cfg).call 23 [] [.val false [.seq (eL e_GValue a0)], .val false [.int .i64 a1]] = some (.val false [.int .i64 r], [])) ∧ (∀ (a0 : GValue) (a1 : Int) (r : Int), U_laws_szValue n a0 a1 = some r → (mach cfg).call 7 [] [.val true [.int .i64 a0.Kind, .int .i64 a0.N, .seq (eL e_u8 a0.S), .seq (eL (e_sl e_u8) a0.K), .seq (eL e_GValue a0.L)], .val false [.int .i64 a1]] = some (.val false [.int .i64 r], [])) := by
  induction n with
  | zero => exact ⟨fun _ _ _ h => (by rw [U_laws_szValueS] at h; cases h), fun _ _ _ h => (by rw [U_laws_szValue] at h; cases h)⟩
  | succ n ih =>
    obtain ⟨ih_laws_szValueS, ih_laws_szValue⟩ := ih
    exact ⟨fun a0 a1 r h => g_laws_szValueS (U_laws_szValue n) ih_laws_szValue n a0 a1 r (by rw [U_laws_szValueS] at h; exact h),
      fun a0 a1 r h => g_laws_szValue (U_laws_szValueS n) ih_laws_szValueS a0 a1 r (by rw [U_laws_szValue] at h; exact h)⟩
mutual
def MdV : GValue → Prop
  | .mk _ _ s k l => s.length ≤ 2 ^ 63 - 1 ∧ MdB k ∧ l.length ≤ 2 ^ 63 - 1 ∧ MdVs l
def MdVs : List GValue → Prop
  | [] => True
  | v :: l => MdV v ∧ MdVs l
end
theorem MdVs_mem {l : List GValue} (h : MdVs l) {v : GValue} (hv : v ∈ l) : MdV v := by
  induction l with
  | nil => cases hv
  | cons x l ih =>
    simp only [MdVs] at h
    rcases List.mem_cons.1 hv with rfl | hv
    · exact h.1
    · exact ih h.2 hv
theorem MdV_eq (v : GValue) : MdV v = (v.S.length ≤ 2 ^ 63 - 1 ∧ MdB v.K ∧ v.L.length ≤ 2 ^ 63 - 1 ∧ MdVs v.L) := by cases v; simp only [MdV, GValue.S, GValue.K, GValue.L]
/-- What is left behind the values, without their number. -/
def vin (l : List GValue) : Nat := (l.map vsz).sum
theorem vszs_vin (l : List GValue) : vszs l = l.length + vin l := by
  unfold vin
  induction l with
  | nil => rfl
  | cons v l ih => simp only [vszs, ih, List.length_cons, List.map_cons, List.sum_cons]; omega
theorem szValueS_loop {G : GValue → Int → Option Int} {a : List GValue} (ha : a.length ≤ 2 ^ 20) (hG : ∀ v ∈ a, ∀ n : Int, 0 ≤ n → n ≤ 2 ^ 20 → G v n = some (leftV (vsz v) n)) : ∀ (d i m : Nat) (r : Int), i + d = a.length → d < m → 0 ≤ r → r ≤ 2 ^ 20 →
    ∃ z, L_laws_szValueS_l0 G a m r (i : Int) = some (if (vin (a.drop i) : Int) ≤ r then .inr (r - vin (a.drop i), z) else .inl (-1)) := by
  intro d
  induction d with
  | zero =>
    intro i m r hi hm h0 h1
    obtain ⟨m, rfl, _⟩ := fuel hm
    refine ⟨(i : Int), ?_⟩
    rw [L_laws_szValueS_l0, if_neg (by omega), List.drop_eq_nil_of_le (by omega)]
    simp only [vin, List.map_nil, List.sum_nil]
    rw [if_pos (by simpa using h0)]; simp
  | succ d ih =>
    intro i m r hi hm h0 h1
    obtain ⟨m, rfl, hm'⟩ := fuel hm
    have hil : i < a.length := by omega
    rw [L_laws_szValueS_l0, if_pos (by omega), natO_nat, Option.bind_some, get_some hil, Option.bind_some, hG _ (List.getElem_mem hil) r h0 h1, Option.bind_some]
    have hv : vin (a.drop i) = vsz a[i] + vin (a.drop (i + 1)) := by simp only [vin, drop_cons hil, List.map_cons, List.sum_cons]
    rw [hv]
    unfold leftV
    by_cases hc : (vsz a[i] : Int) ≤ r
    · rw [if_pos hc, if_neg (by omega), w64_succ (by omega)]
      obtain ⟨z, hz⟩ := ih (i + 1) m (r - vsz a[i]) (by omega) (by omega) (by omega) (by omega)
      refine ⟨z, ?_⟩
      rw [hz]
      by_cases hd : (vin (a.drop (i + 1)) : Int) ≤ r - vsz a[i]
      · rw [if_pos hd, if_pos (by omega)]; congr 3; omega
      · rw [if_neg hd, if_neg (by omega)]
    · refine ⟨0, ?_⟩
      rw [if_neg hc, if_pos (by omega), if_neg (by omega)]
theorem szValueS_T {G : GValue → Int → Option Int} {a : List GValue} {f : Nat} {n : Int} (ha : a.length ≤ 2 ^ 63 - 1) (h0 : 0 ≤ n) (h1 : n ≤ 2 ^ 20) (hf : a.length < f ∨ n < a.length) (hG : ∀ v ∈ a, ∀ n : Int, 0 ≤ n → n ≤ 2 ^ 20 → G v n = some (leftV (vsz v) n)) :
    T_laws_szValueS G f a n = some (leftV (vszs a) n) := by
  unfold T_laws_szValueS
  rw [w64_id (by omega) (by omega), vszs_vin]
  unfold leftV
  by_cases hc : (a.length : Int) ≤ n
  · rw [if_neg (by omega)]
    obtain ⟨z, hz⟩ := szValueS_loop (G := G) (by omega) hG a.length 0 f (n - a.length) (by omega) (by omega) (by omega) (by omega)
    rw [show ((0 : Nat) : Int) = 0 from rfl] at hz
    rw [hz]
    simp only [List.drop_zero]
    by_cases hd : (vin a : Int) ≤ n - a.length
    · rw [if_pos hd, if_pos (by omega)]
      simp only [Option.bind_some]; congr 1; omega
    · rw [if_neg hd, if_neg (by omega)]; rfl
  · rw [if_pos (by omega), if_neg (by omega)]
theorem szValue_U : ∀ (N : Nat) (v : GValue), vsz v < N → MdV v → ∀ (f : Nat) (n : Int), 2 * vsz v + 3 ≤ f → 0 ≤ n → n ≤ 2 ^ 20 → U_laws_szValue f v n = some (leftV (vsz v) n) := by
  intro N
  induction N with
  | zero => intro v hv; omega
  | succ N ih =>
    intro v hv hmd f n hf h0 h1
    obtain ⟨f, rfl, _⟩ := fuel (show 0 < f by omega)
    rw [MdV_eq] at hmd
    have he := vsz_eq v
    have hl := vszs_len v.L
    obtain ⟨f, rfl, _⟩ := fuel (show 0 < f by omega)
    rw [U_laws_szValue]
    unfold T_laws_szValue
    rw [szByteS_eq hmd.1 h0 h1, Option.bind_some]
    unfold leftV
    by_cases c1 : (v.S.length : Int) ≤ n
    · rw [if_pos c1, if_neg (by omega)]
      unfold S_laws_szByteSS
      rw [if_pos ⟨hmd.2.1, by omega, by omega⟩, Option.bind_some]
      by_cases c2 : (bsz v.K : Int) ≤ n - v.S.length
      · rw [if_pos c2, if_neg (by omega)]
        rw [U_laws_szValueS, szValueS_T hmd.2.2.1 (by omega) (by omega) (.inl (by omega)) (fun x hx m g0 g1 => ?_), Option.bind_some]
        · unfold leftV
          by_cases c3 : (vszs v.L : Int) ≤ n - v.S.length - bsz v.K
          · rw [if_pos c3, if_neg (by omega), if_pos (by omega)]; congr 1; omega
          · rw [if_neg c3, if_pos (by omega), if_neg (by omega)]
        · have := vszs_mem hx
          exact ih x (by omega) (MdVs_mem hmd.2.2.2 hx) f m (by omega) g0 g1
      · rw [if_neg c2, if_pos (by omega), if_neg (by omega)]
    · rw [if_neg c1, if_pos (by omega), if_neg (by omega)]
open Classical in
noncomputable def S_laws_szValueS (a0 : (List GValue)) (a1 : Int) : Option Int := if a0.length ≤ 2 ^ 63 - 1 ∧ MdVs a0 ∧ 0 ≤ a1 ∧ a1 ≤ 2 ^ 20 then some (leftV (vszs a0) a1) else none
theorem spec_laws_szValueS (a0 : (List GValue)) (a1 : Int) (r : Int) (h : S_laws_szValueS a0 a1 = some r) : ∃ n, U_laws_szValueS n a0 a1 = some r := by
  unfold S_laws_szValueS at h
  obtain ⟨⟨hl, hm, h0, h1⟩, h⟩ := need_c h
  refine ⟨2 * vszs a0 + 5, ?_⟩
  have := vszs_len a0
  rw [U_laws_szValueS, szValueS_T hl h0 h1 (.inl (by omega)) fun x hx m g0 g1 => ?_, h]
  have := vszs_mem hx
  exact szValue_U _ x (Nat.lt_succ_self _) (MdVs_mem hm hx) _ m (by omega) g0 g1
open Classical in
noncomputable def S_laws_szValue (a0 : GValue) (a1 : Int) : Option Int := if MdV a0 ∧ 0 ≤ a1 ∧ a1 ≤ 2 ^ 20 then some (leftV (vsz a0) a1) else none
theorem spec_laws_szValue (a0 : GValue) (a1 : Int) (r : Int) (h : S_laws_szValue a0 a1 = some r) : ∃ n, U_laws_szValue n a0 a1 = some r := by
  unfold S_laws_szValue at h
  obtain ⟨⟨hm, h0, h1⟩, h⟩ := need_c h
  exact ⟨2 * vsz a0 + 3, by rw [← h]; exact szValue_U _ a0 (Nat.lt_succ_self _) hm _ a1 (Nat.le_refl _) h0 h1⟩
theorem ok_laws_szValueS (a0 : (List GValue)) (a1 : Int) (r : Int) (h : S_laws_szValueS a0 a1 = some r) : (mach cfg).call 23 [] [.val false [.seq (eL e_GValue a0)], .val false [.int .i64 a1]] = some (.val false [.int .i64 r], []) := by
  obtain ⟨n, hn⟩ := spec_laws_szValueS a0 a1 r h
  exact (rec_laws_szValueS n).1 a0 a1 r hn
theorem ok_laws_szValue (a0 : GValue) (a1 : Int) (r : Int) (h : S_laws_szValue a0 a1 = some r) : (mach cfg).call 7 [] [.val true [.int .i64 a0.Kind, .int .i64 a0.N, .seq (eL e_u8 a0.S), .seq (eL (e_sl e_u8) a0.K), .seq (eL e_GValue a0.L)], .val false [.int .i64 a1]] = some (.val false [.int .i64 r], []) := by
  obtain ⟨n, hn⟩ := spec_laws_szValue a0 a1 r h
  exact (rec_laws_szValueS n).2 a0 a1 r hn
def L_laws_toByteS_l0 (a0 : (List UInt8)) : Nat → Int → (List UInt8) → Option (Int × (List UInt8))
  | 0, _, _ => none
  | m + 1, v1, v2 =>
    if v1 < ((a0.length : Nat) : Int) then
      (natO v1).bind fun i2 =>
      (a0[i2]?).bind fun x3 =>
      (v2[i2]?).bind fun x4 =>
      L_laws_toByteS_l0 a0 m (w64 (v1 + 1)) (v2.set i2 x3)
    else
      some (v1, v2)

theorem gl_laws_toByteS_l0 (a0 : (List UInt8)) (m : Nat) : ∀ (v1 : Int) (v2 : (List UInt8)) (o : (Int × (List UInt8))), L_laws_toByteS_l0 a0 m v1 v2 = some o → (mach cfg).loop 19 (loopB Try.f19 0) ⟨[(0, .val false [.seq (eL e_u8 a0)]), (3, .val false [.ref 0]), (4, .val false [.int .i64 v1])], [.obj 1 (eL e_u8 v2)], 0⟩ = some (match o with | ⟨o_0, o_1⟩ => (.exit 0, (⟨[(0, .val false [.seq (eL e_u8 a0)]), (3, .val false [.ref 0]), (4, .val false [.int .i64 o_0]), (11, .val false [.bool false])], [.obj 1 (eL e_u8 o_1)], 0⟩ : S))) := by
  induction m with
  | zero => intro v1 v2 o h; cases h
  | succ m ih =>
    intro v1 v2 o h
    rw [L_laws_toByteS_l0] at h
    by_cases c1 : v1 < ((a0.length : Nat) : Int)
    · rw [if_pos c1] at h
      obtain ⟨i2, hi2, h⟩ := Option.bind_eq_some_iff.1 h
      obtain ⟨x3, hx3, h⟩ := Option.bind_eq_some_iff.1 h
      obtain ⟨x4, hx4, h⟩ := Option.bind_eq_some_iff.1 h
      exact loop_on cfg [(.len (eL e_u8 a0), .i ((a0.length : Nat) : Int)), (.ltI v1 ((a0.length : Nat) : Int), .b true), (.nat v1, .n i2), (.idx (eL e_u8 a0) i2, .e [.int .u8 ((x3.toNat : Nat) : Int)]), (.nat v1, .n i2), (.idx (eL e_u8 v2) i2, .e [.int .u8 ((x4.toNat : Nat) : Int)]), (.idx (eL e_u8 v2) i2, .e [.int .u8 ((x4.toNat : Nat) : Int)]), (.setL (eL e_u8 v2) i2 [.int .u8 ((x3.toNat : Nat) : Int)], .l (eL e_u8 (v2.set i2 x3))), (.add .i64 v1 1, .i (w64 (v1 + 1)))] (by kernel_rfl) ⟨A.len, (A.ltI_t c1), (A.nat hi2), (A.idx hx3 rfl), (A.nat hi2), (A.idx hx4 rfl), (A.idx hx4 rfl), (A.setL rfl), rfl, trivial⟩ (ih (w64 (v1 + 1)) (v2.set i2 x3) o h)
    · rw [if_neg c1] at h
      obtain rfl := Option.some.inj h
      exact loop_end cfg [(.len (eL e_u8 a0), .i ((a0.length : Nat) : Int)), (.ltI v1 ((a0.length : Nat) : Int), .b false)] (by kernel_rfl) ⟨A.len, (A.ltI_f c1), trivial⟩ (by intro h; cases h)

def T_laws_toByteS (n : Nat) (a0 : (List UInt8)) : Option (List UInt8) :=
  (madeO 1 ((a0.length : Nat) : Int)).bind fun k1 =>
  (L_laws_toByteS_l0 a0 n 0 (List.replicate k1 0)).bind fun ⟨o2_0, o2_1⟩ =>
  some o2_1

set_option maxRecDepth 100000 in
theorem fd_19 : cfg.funcs 19 = some (bodyOf Try.f19, Try.f19.ntmps, Try.f19.results.toList) := fn_of Try.func19 (by kernel_rfl) (by kernel_rfl)
theorem g_laws_toByteS (n : Nat) (a0 : (List UInt8)) (r : (List UInt8)) (h : T_laws_toByteS n a0 = some r) : (mach cfg).call 19 [] [.val false [.seq (eL e_u8 a0)]] = some (.val false [.own 1 (eL e_u8 r)], []) := by
  unfold T_laws_toByteS at h
  obtain ⟨k1, hk1, h⟩ := Option.bind_eq_some_iff.1 h
  obtain ⟨⟨o2_0, o2_1⟩, ho2, h⟩ := Option.bind_eq_some_iff.1 h
  try dsimp only at h
  obtain rfl := Option.some.inj h
  exact call_way cfg [(.len (eL e_u8 a0), .i ((a0.length : Nat) : Int)), (.eqI ((a0.length : Nat) : Int) ((a0.length : Nat) : Int), .b true), (.made 1 ((a0.length : Nat) : Int), .n k1), (.rep k1 [.int .u8 0], .l (eL e_u8 (List.replicate k1 0))), (.loop 19 (loopB Try.f19 0) ⟨[(0, .val false [.seq (eL e_u8 a0)]), (3, .val false [.ref 0]), (4, .val false [.int .i64 0])], [.obj 1 (eL e_u8 (List.replicate k1 0))], 0⟩, .x (.exit 0) ⟨[(0, .val false [.seq (eL e_u8 a0)]), (3, .val false [.ref 0]), (4, .val false [.int .i64 o2_0]), (11, .val false [.bool false])], [.obj 1 (eL e_u8 o2_1)], 0⟩)] rfl fd_19 (by kernel_rfl) ⟨A.len, (A.eqI_t rfl), (A.made hk1), (A.rep rfl), (A.loop (gl_laws_toByteS_l0 a0 _ 0 (List.replicate k1 0) _ ho2)), trivial⟩

theorem toByteS_loop {a : List UInt8} (ha : a.length ≤ 2 ^ 20) : ∀ (d i m : Nat) (v : List UInt8), i + d = a.length → d < m → Pre a v i → ∃ z, L_laws_toByteS_l0 a m (i : Int) v = some (z, a) := by
  intro d
  induction d with
  | zero =>
    intro i m v hi hm hp
    obtain ⟨m, rfl, _⟩ := fuel hm
    exact ⟨_, by rw [L_laws_toByteS_l0, if_neg (by omega), hp.done (by omega)]⟩
  | succ d ih =>
    intro i m v hi hm hp
    obtain ⟨m, rfl, hm'⟩ := fuel hm
    have hil : i < a.length := by omega
    rw [L_laws_toByteS_l0, if_pos (by omega), natO_nat, Option.bind_some, get_some hil, Option.bind_some, get_some (by rw [hp.1]; exact hil), Option.bind_some, w64_succ (by omega)]
    exact ih (i + 1) m _ (by omega) (by omega) (hp.step hil)
def S_laws_toByteS (a0 : (List UInt8)) : Option (List UInt8) := if a0.length ≤ 2 ^ 20 then some a0 else none
theorem spec_laws_toByteS (a0 : (List UInt8)) (r : (List UInt8)) (h : S_laws_toByteS a0 = some r) : ∃ n, T_laws_toByteS n a0 = some r := by
  unfold S_laws_toByteS at h
  obtain ⟨ha, h⟩ := need_c h
  refine ⟨a0.length + 1, ?_⟩
  obtain ⟨z, hz⟩ := toByteS_loop ha a0.length 0 (a0.length + 1) (List.replicate a0.length 0) (by omega) (by omega) (Pre.start (by simp))
  unfold T_laws_toByteS
  rw [made_ok ha (by decide), Option.bind_some, show (0 : Int) = ((0 : Nat) : Int) from rfl, hz]
  exact h
theorem ok_laws_toByteS (a0 : (List UInt8)) (r : (List UInt8)) (h : S_laws_toByteS a0 = some r) : (mach cfg).call 19 [] [.val false [.seq (eL e_u8 a0)]] = some (.val false [.own 1 (eL e_u8 r)], []) := by
  obtain ⟨n, hn⟩ := spec_laws_toByteS a0 r h
  exact g_laws_toByteS n a0 r hn
def L_laws_toByteSS_l0 (a0 : (List (List UInt8))) : Nat → Int → (List (List UInt8)) → Option (Int × (List (List UInt8)))
  | 0, _, _ => none
  | m + 1, v1, v2 =>
    if v1 < ((a0.length : Nat) : Int) then
      (natO v1).bind fun i2 =>
      (a0[i2]?).bind fun x3 =>
      (S_laws_toByteS x3).bind fun r4 =>
      (v2[i2]?).bind fun x5 =>
      L_laws_toByteSS_l0 a0 m (w64 (v1 + 1)) (v2.set i2 r4)
    else
      some (v1, v2)

theorem gl_laws_toByteSS_l0 (a0 : (List (List UInt8))) (m : Nat) : ∀ (v1 : Int) (v2 : (List (List UInt8))) (o : (Int × (List (List UInt8)))), L_laws_toByteSS_l0 a0 m v1 v2 = some o → (mach cfg).loop 41 (loopB Try.f41 0) ⟨[(0, .val false [.seq (eL (e_sl e_u8) a0)]), (3, .val false [.ref 0]), (4, .val false [.int .i64 v1])], [.obj 1 (eL (o_sl 1 e_u8) v2)], 0⟩ = some (match o with | ⟨o_0, o_1⟩ => (.exit 0, (⟨[(0, .val false [.seq (eL (e_sl e_u8) a0)]), (3, .val false [.ref 0]), (4, .val false [.int .i64 o_0]), (11, .val false [.bool false])], [.obj 1 (eL (o_sl 1 e_u8) o_1)], 0⟩ : S))) := by
  induction m with
  | zero => intro v1 v2 o h; cases h
  | succ m ih =>
    intro v1 v2 o h
    rw [L_laws_toByteSS_l0] at h
    by_cases c1 : v1 < ((a0.length : Nat) : Int)
    · rw [if_pos c1] at h
      obtain ⟨i2, hi2, h⟩ := Option.bind_eq_some_iff.1 h
      obtain ⟨x3, hx3, h⟩ := Option.bind_eq_some_iff.1 h
      obtain ⟨r4, hr4, h⟩ := Option.bind_eq_some_iff.1 h
      obtain ⟨x5, hx5, h⟩ := Option.bind_eq_some_iff.1 h
      exact loop_on cfg [(.len (eL (e_sl e_u8) a0), .i ((a0.length : Nat) : Int)), (.ltI v1 ((a0.length : Nat) : Int), .b true), (.nat v1, .n i2), (.idx (eL (e_sl e_u8) a0) i2, .e [.seq (eL e_u8 x3)]), (.call 19 [] [.val false [.seq (eL e_u8 x3)]], .r (.val false [.own 1 (eL e_u8 r4)]) []), (.nat v1, .n i2), (.idx (eL (o_sl 1 e_u8) v2) i2, .e [.own 1 (eL e_u8 x5)]), (.idx (eL (o_sl 1 e_u8) v2) i2, .e [.own 1 (eL e_u8 x5)]), (.setL (eL (o_sl 1 e_u8) v2) i2 [.own 1 (eL e_u8 r4)], .l (eL (o_sl 1 e_u8) (v2.set i2 r4))), (.add .i64 v1 1, .i (w64 (v1 + 1)))] (by kernel_rfl) ⟨A.len, (A.ltI_t c1), (A.nat hi2), (A.idx hx3 rfl), (A.call (ok_laws_toByteS x3 _ hr4)), (A.nat hi2), (A.idx hx5 rfl), (A.idx hx5 rfl), (A.setL rfl), rfl, trivial⟩ (ih (w64 (v1 + 1)) (v2.set i2 r4) o h)
    · rw [if_neg c1] at h
      obtain rfl := Option.some.inj h
      exact loop_end cfg [(.len (eL (e_sl e_u8) a0), .i ((a0.length : Nat) : Int)), (.ltI v1 ((a0.length : Nat) : Int), .b false)] (by kernel_rfl) ⟨A.len, (A.ltI_f c1), trivial⟩ (by intro h; cases h)

def T_laws_toByteSS (n : Nat) (a0 : (List (List UInt8))) : Option (List (List UInt8)) :=
  (madeO 24 ((a0.length : Nat) : Int)).bind fun k1 =>
  (L_laws_toByteSS_l0 a0 n 0 (List.replicate k1 [])).bind fun ⟨o2_0, o2_1⟩ =>
  some o2_1

set_option maxRecDepth 100000 in
theorem fd_41 : cfg.funcs 41 = some (bodyOf Try.f41, Try.f41.ntmps, Try.f41.results.toList) := fn_of Try.func41 (by kernel_rfl) (by kernel_rfl)
theorem g_laws_toByteSS (n : Nat) (a0 : (List (List UInt8))) (r : (List (List UInt8))) (h : T_laws_toByteSS n a0 = some r) : (mach cfg).call 41 [] [.val false [.seq (eL (e_sl e_u8) a0)]] = some (.val false [.own 1 (eL (o_sl 1 e_u8) r)], []) := by
  unfold T_laws_toByteSS at h
  obtain ⟨k1, hk1, h⟩ := Option.bind_eq_some_iff.1 h
  obtain ⟨⟨o2_0, o2_1⟩, ho2, h⟩ := Option.bind_eq_some_iff.1 h
  try dsimp only at h
  obtain rfl := Option.some.inj h
  exact call_way cfg [(.len (eL (e_sl e_u8) a0), .i ((a0.length : Nat) : Int)), (.eqI ((a0.length : Nat) : Int) ((a0.length : Nat) : Int), .b true), (.made 24 ((a0.length : Nat) : Int), .n k1), (.rep k1 [.own 1 []], .l (eL (o_sl 1 e_u8) (List.replicate k1 []))), (.loop 41 (loopB Try.f41 0) ⟨[(0, .val false [.seq (eL (e_sl e_u8) a0)]), (3, .val false [.ref 0]), (4, .val false [.int .i64 0])], [.obj 1 (eL (o_sl 1 e_u8) (List.replicate k1 []))], 0⟩, .x (.exit 0) ⟨[(0, .val false [.seq (eL (e_sl e_u8) a0)]), (3, .val false [.ref 0]), (4, .val false [.int .i64 o2_0]), (11, .val false [.bool false])], [.obj 1 (eL (o_sl 1 e_u8) o2_1)], 0⟩)] rfl fd_41 (by kernel_rfl) ⟨A.len, (A.eqI_t rfl), (A.made hk1), (A.rep rfl), (A.loop (gl_laws_toByteSS_l0 a0 _ 0 (List.replicate k1 []) _ ho2)), trivial⟩

theorem toByteSS_loop {a : List (List UInt8)} (ha : bsz a ≤ 2 ^ 20) : ∀ (d i m : Nat) (v : List (List UInt8)), i + d = a.length → d < m → Pre a v i → ∃ z, L_laws_toByteSS_l0 a m (i : Int) v = some (z, a) := by
  have hl := bsz_len a
  intro d
  induction d with
  | zero =>
    intro i m v hi hm hp
    obtain ⟨m, rfl, _⟩ := fuel hm
    exact ⟨_, by rw [L_laws_toByteSS_l0, if_neg (by omega), hp.done (by omega)]⟩
  | succ d ih =>
    intro i m v hi hm hp
    obtain ⟨m, rfl, hm'⟩ := fuel hm
    have hil : i < a.length := by omega
    have hx := bsz_mem (List.getElem_mem hil)
    rw [L_laws_toByteSS_l0, if_pos (by omega), natO_nat, Option.bind_some, get_some hil, Option.bind_some]
    unfold S_laws_toByteS
    rw [if_pos (by omega), Option.bind_some, get_some (by rw [hp.1]; exact hil), Option.bind_some, w64_succ (by omega)]
    exact ih (i + 1) m _ (by omega) (by omega) (hp.step hil)
def S_laws_toByteSS (a0 : (List (List UInt8))) : Option (List (List UInt8)) := if bsz a0 ≤ 2 ^ 20 then some a0 else none
theorem spec_laws_toByteSS (a0 : (List (List UInt8))) (r : (List (List UInt8))) (h : S_laws_toByteSS a0 = some r) : ∃ n, T_laws_toByteSS n a0 = some r := by
  unfold S_laws_toByteSS at h
  obtain ⟨ha, h⟩ := need_c h
  have hl := bsz_len a0
  refine ⟨a0.length + 1, ?_⟩
  obtain ⟨z, hz⟩ := toByteSS_loop ha a0.length 0 (a0.length + 1) (List.replicate a0.length []) (by omega) (by omega) (Pre.start (by simp))
  unfold T_laws_toByteSS
  rw [made_ok (by omega) (by decide), Option.bind_some, show (0 : Int) = ((0 : Nat) : Int) from rfl, hz]
  exact h
theorem ok_laws_toByteSS (a0 : (List (List UInt8))) (r : (List (List UInt8))) (h : S_laws_toByteSS a0 = some r) : (mach cfg).call 41 [] [.val false [.seq (eL (e_sl e_u8) a0)]] = some (.val false [.own 1 (eL (o_sl 1 e_u8) r)], []) := by
  obtain ⟨n, hn⟩ := spec_laws_toByteSS a0 r h
  exact g_laws_toByteSS n a0 r hn
def L_laws_toValueS_l0 (G_laws_toValue : GValue → Option GValue) (a0 : (List GValue)) : Nat → Int → (List GValue) → Option (Int × (List GValue))
  | 0, _, _ => none
  | m + 1, v1, v2 =>
    if v1 < ((a0.length : Nat) : Int) then
      (natO v1).bind fun i2 =>
      (a0[i2]?).bind fun x3 =>
      (G_laws_toValue x3).bind fun r4 =>
      (v2[i2]?).bind fun x5 =>
      L_laws_toValueS_l0 G_laws_toValue a0 m (w64 (v1 + 1)) (v2.set i2 r4)
    else
      some (v1, v2)

theorem gl_laws_toValueS_l0 (G_laws_toValue : GValue → Option GValue) (H_laws_toValue : ∀ (a0 : GValue) (r : GValue), G_laws_toValue a0 = some r → (mach cfg).call 9 [] [.val true [.int .i64 a0.Kind, .int .i64 a0.N, .seq (eL e_u8 a0.S), .seq (eL (e_sl e_u8) a0.K), .seq (eL e_GValue a0.L)]] = some (.val true [.int .i64 r.Kind, .int .i64 r.N, .own 1 (eL e_u8 r.S), .own 1 (eL (o_sl 1 e_u8) r.K), .own 5 (eL o_GValue r.L)], [])) (a0 : (List GValue)) (m : Nat) : ∀ (v1 : Int) (v2 : (List GValue)) (o : (Int × (List GValue))), L_laws_toValueS_l0 G_laws_toValue a0 m v1 v2 = some o → (mach cfg).loop 25 (loopB Try.f25 0) ⟨[(0, .val false [.seq (eL e_GValue a0)]), (3, .val false [.ref 0]), (4, .val false [.int .i64 v1])], [.obj 5 (eL o_GValue v2)], 0⟩ = some (match o with | ⟨o_0, o_1⟩ => (.exit 0, (⟨[(0, .val false [.seq (eL e_GValue a0)]), (3, .val false [.ref 0]), (4, .val false [.int .i64 o_0]), (11, .val false [.bool false])], [.obj 5 (eL o_GValue o_1)], 0⟩ : S))) := by
  induction m with
  | zero => intro v1 v2 o h; cases h
  | succ m ih =>
    intro v1 v2 o h
    rw [L_laws_toValueS_l0] at h
    by_cases c1 : v1 < ((a0.length : Nat) : Int)
    · rw [if_pos c1] at h
      obtain ⟨i2, hi2, h⟩ := Option.bind_eq_some_iff.1 h
      obtain ⟨x3, hx3, h⟩ := Option.bind_eq_some_iff.1 h
      obtain ⟨r4, hr4, h⟩ := Option.bind_eq_some_iff.1 h
      obtain ⟨x5, hx5, h⟩ := Option.bind_eq_some_iff.1 h
      exact loop_on cfg [(.len (eL e_GValue a0), .i ((a0.length : Nat) : Int)), (.ltI v1 ((a0.length : Nat) : Int), .b true), (.nat v1, .n i2), (.idx (eL e_GValue a0) i2, .e [.int .i64 x3.Kind, .int .i64 x3.N, .seq (eL e_u8 x3.S), .seq (eL (e_sl e_u8) x3.K), .seq (eL e_GValue x3.L)]), (.call 9 [] [.val true [.int .i64 x3.Kind, .int .i64 x3.N, .seq (eL e_u8 x3.S), .seq (eL (e_sl e_u8) x3.K), .seq (eL e_GValue x3.L)]], .r (.val true [.int .i64 r4.Kind, .int .i64 r4.N, .own 1 (eL e_u8 r4.S), .own 1 (eL (o_sl 1 e_u8) r4.K), .own 5 (eL o_GValue r4.L)]) []), (.nat v1, .n i2), (.idx (eL o_GValue v2) i2, .e [.int .i64 x5.Kind, .int .i64 x5.N, .own 1 (eL e_u8 x5.S), .own 1 (eL (o_sl 1 e_u8) x5.K), .own 5 (eL o_GValue x5.L)]), (.idx (eL o_GValue v2) i2, .e [.int .i64 x5.Kind, .int .i64 x5.N, .own 1 (eL e_u8 x5.S), .own 1 (eL (o_sl 1 e_u8) x5.K), .own 5 (eL o_GValue x5.L)]), (.setL (eL o_GValue v2) i2 [.int .i64 r4.Kind, .int .i64 r4.N, .own 1 (eL e_u8 r4.S), .own 1 (eL (o_sl 1 e_u8) r4.K), .own 5 (eL o_GValue r4.L)], .l (eL o_GValue (v2.set i2 r4))), (.add .i64 v1 1, .i (w64 (v1 + 1)))] (by kernel_rfl) ⟨A.len, (A.ltI_t c1), (A.nat hi2), (A.idx hx3 (eq_GValue x3)), (A.call (H_laws_toValue x3 _ hr4)), (A.nat hi2), (A.idx hx5 (oeq_GValue x5)), (A.idx hx5 (oeq_GValue x5)), (A.setL (oeq_GValue r4)), rfl, trivial⟩ (ih (w64 (v1 + 1)) (v2.set i2 r4) o h)
    · rw [if_neg c1] at h
      obtain rfl := Option.some.inj h
      exact loop_end cfg [(.len (eL e_GValue a0), .i ((a0.length : Nat) : Int)), (.ltI v1 ((a0.length : Nat) : Int), .b false)] (by kernel_rfl) ⟨A.len, (A.ltI_f c1), trivial⟩ (by intro h; cases h)

def T_laws_toValueS (G_laws_toValue : GValue → Option GValue) (n : Nat) (a0 : (List GValue)) : Option (List GValue) :=
  (madeO 88 ((a0.length : Nat) : Int)).bind fun k1 =>
  (L_laws_toValueS_l0 G_laws_toValue a0 n 0 (List.replicate k1 (GValue.mk 0 0 [] [] []))).bind fun ⟨o2_0, o2_1⟩ =>
  some o2_1

set_option maxRecDepth 100000 in
theorem fd_25 : cfg.funcs 25 = some (bodyOf Try.f25, Try.f25.ntmps, Try.f25.results.toList) := fn_of Try.func25 (by kernel_rfl) (by kernel_rfl)
theorem g_laws_toValueS (G_laws_toValue : GValue → Option GValue) (H_laws_toValue : ∀ (a0 : GValue) (r : GValue), G_laws_toValue a0 = some r → (mach cfg).call 9 [] [.val true [.int .i64 a0.Kind, .int .i64 a0.N, .seq (eL e_u8 a0.S), .seq (eL (e_sl e_u8) a0.K), .seq (eL e_GValue a0.L)]] = some (.val true [.int .i64 r.Kind, .int .i64 r.N, .own 1 (eL e_u8 r.S), .own 1 (eL (o_sl 1 e_u8) r.K), .own 5 (eL o_GValue r.L)], [])) (n : Nat) (a0 : (List GValue)) (r : (List GValue)) (h : T_laws_toValueS G_laws_toValue n a0 = some r) : (mach cfg).call 25 [] [.val false [.seq (eL e_GValue a0)]] = some (.val false [.own 5 (eL o_GValue r)], []) := by
  unfold T_laws_toValueS at h
  obtain ⟨k1, hk1, h⟩ := Option.bind_eq_some_iff.1 h
  obtain ⟨⟨o2_0, o2_1⟩, ho2, h⟩ := Option.bind_eq_some_iff.1 h
  try dsimp only at h
  obtain rfl := Option.some.inj h
  exact call_way cfg [(.len (eL e_GValue a0), .i ((a0.length : Nat) : Int)), (.eqI ((a0.length : Nat) : Int) ((a0.length : Nat) : Int), .b true), (.made 88 ((a0.length : Nat) : Int), .n k1), (.rep k1 [.int .i64 0, .int .i64 0, .own 1 [], .own 1 [], .own 5 []], .l (eL o_GValue (List.replicate k1 (GValue.mk 0 0 [] [] [])))), (.loop 25 (loopB Try.f25 0) ⟨[(0, .val false [.seq (eL e_GValue a0)]), (3, .val false [.ref 0]), (4, .val false [.int .i64 0])], [.obj 5 (eL o_GValue (List.replicate k1 (GValue.mk 0 0 [] [] [])))], 0⟩, .x (.exit 0) ⟨[(0, .val false [.seq (eL e_GValue a0)]), (3, .val false [.ref 0]), (4, .val false [.int .i64 o2_0]), (11, .val false [.bool false])], [.obj 5 (eL o_GValue o2_1)], 0⟩)] rfl fd_25 (by kernel_rfl) ⟨A.len, (A.eqI_t rfl), (A.made hk1), (A.rep (oeq_GValue (GValue.mk 0 0 [] [] []))), (A.loop (gl_laws_toValueS_l0 G_laws_toValue H_laws_toValue a0 _ 0 (List.replicate k1 (GValue.mk 0 0 [] [] [])) _ ho2)), trivial⟩

def T_laws_toValue (G_laws_toValueS : (List GValue) → Option (List GValue)) (a0 : GValue) : Option GValue :=
  (S_laws_toByteS a0.S).bind fun r1 =>
  (S_laws_toByteSS a0.K).bind fun r2 =>
  (G_laws_toValueS a0.L).bind fun r3 =>
  some (GValue.mk a0.Kind a0.N r1 r2 r3)

set_option maxRecDepth 100000 in
theorem fd_9 : cfg.funcs 9 = some (bodyOf Try.f9, Try.f9.ntmps, Try.f9.results.toList) := fn_of Try.func9 (by kernel_rfl) (by kernel_rfl)
theorem g_laws_toValue (G_laws_toValueS : (List GValue) → Option (List GValue)) (H_laws_toValueS : ∀ (a0 : (List GValue)) (r : (List GValue)), G_laws_toValueS a0 = some r → (mach cfg).call 25 [] [.val false [.seq (eL e_GValue a0)]] = some (.val false [.own 5 (eL o_GValue r)], [])) (a0 : GValue) (r : GValue) (h : T_laws_toValue G_laws_toValueS a0 = some r) : (mach cfg).call 9 [] [.val true [.int .i64 a0.Kind, .int .i64 a0.N, .seq (eL e_u8 a0.S), .seq (eL (e_sl e_u8) a0.K), .seq (eL e_GValue a0.L)]] = some (.val true [.int .i64 r.Kind, .int .i64 r.N, .own 1 (eL e_u8 r.S), .own 1 (eL (o_sl 1 e_u8) r.K), .own 5 (eL o_GValue r.L)], []) := by
  unfold T_laws_toValue at h
  obtain ⟨r1, hr1, h⟩ := Option.bind_eq_some_iff.1 h
  obtain ⟨r2, hr2, h⟩ := Option.bind_eq_some_iff.1 h
  obtain ⟨r3, hr3, h⟩ := Option.bind_eq_some_iff.1 h
  obtain rfl := Option.some.inj h
  exact call_way cfg [(.call 19 [] [.val false [.seq (eL e_u8 a0.S)]], .r (.val false [.own 1 (eL e_u8 r1)]) []), (.call 41 [] [.val false [.seq (eL (e_sl e_u8) a0.K)]], .r (.val false [.own 1 (eL (o_sl 1 e_u8) r2)]) []), (.call 25 [] [.val false [.seq (eL e_GValue a0.L)]], .r (.val false [.own 5 (eL o_GValue r3)]) [])] rfl fd_9 (by kernel_rfl) ⟨(A.call (ok_laws_toByteS a0.S _ hr1)), (A.call (ok_laws_toByteSS a0.K _ hr2)), (A.call (H_laws_toValueS a0.L _ hr3)), trivial⟩

mutual
def U_laws_toValueS : Nat → (List GValue) → Option (List GValue)
  | 0, _ => none
  | n + 1, a0 => T_laws_toValueS (U_laws_toValue n) n a0
def U_laws_toValue : Nat → GValue → Option GValue
  | 0, _ => none
  | n + 1, a0 => T_laws_toValue (U_laws_toValueS n) a0
end
theorem rec_laws_toValueS (n : Nat) : (∀ (a0 : (List GValue)) (r : (List GValue)), U_laws_toValueS n a0 = some r → (mach cfg).call 25 [] [.val false [.seq (eL e_GValue a0)]] = some (.val false [.own 5 (eL o_GValue r)], [])) ∧ (∀ (a0 : GValue) (r : GValue), U_laws_toValue n a0 = some r → (mach cfg).call 9 [] [.val true [.int .i64 a0.Kind, .int .i64 a0.N, .seq (eL e_u8 a0.S), .seq (eL (e_sl e_u8) a0.K), .seq (eL e_GValue a0.L)]] = some (.val true [.int .i64 r.Kind, .int .i64 r.N, .own 1 (eL e_u8 r.S), .own 1 (eL (o_sl 1 e_u8) r.K), .own 5 (eL o_GValue r.L)], [])) := by
  induction n with
  | zero => exact ⟨fun _ _ h => (by rw [U_laws_toValueS] at h; cases h), fun _ _ h => (by rw [U_laws_toValue] at h; cases h)⟩
  | succ n ih =>
    obtain ⟨ih_laws_toValueS, ih_laws_toValue⟩ := ih
    exact ⟨fun a0 r h => g_laws_toValueS (U_laws_toValue n) ih_laws_toValue n a0 r (by rw [U_laws_toValueS] at h; exact h),
      fun a0 r h => g_laws_toValue (U_laws_toValueS n) ih_laws_toValueS a0 r (by rw [U_laws_toValue] at h; exact h)⟩
theorem toValueS_T {G : GValue → Option GValue} {a : List GValue} {f : Nat} (ha : a.length ≤ 2 ^ 20) (hf : a.length < f) (hG : ∀ v ∈ a, G v = some v) : T_laws_toValueS G f a = some a := by
  have loop : ∀ (d i m : Nat) (v : List GValue), i + d = a.length → d < m → Pre a v i → ∃ z, L_laws_toValueS_l0 G a m (i : Int) v = some (z, a) := by
    intro d
    induction d with
    | zero =>
      intro i m v hi hm hp
      obtain ⟨m, rfl, _⟩ := fuel hm
      exact ⟨_, by rw [L_laws_toValueS_l0, if_neg (by omega), hp.done (by omega)]⟩
    | succ d ih =>
      intro i m v hi hm hp
      obtain ⟨m, rfl, hm'⟩ := fuel hm
      have hil : i < a.length := by omega
      rw [L_laws_toValueS_l0, if_pos (by omega), natO_nat, Option.bind_some, get_some hil, Option.bind_some, hG _ (List.getElem_mem hil), Option.bind_some, get_some (by rw [hp.1]; exact hil), Option.bind_some, w64_succ (by omega)]
      exact ih (i + 1) m _ (by omega) (by omega) (hp.step hil)
  obtain ⟨z, hz⟩ := loop a.length 0 f (List.replicate a.length (GValue.mk 0 0 [] [] [])) (by omega) (by omega) (Pre.start (by simp))
  rw [show ((0 : Nat) : Int) = 0 from rfl] at hz
  unfold T_laws_toValueS
  rw [made_ok ha (by decide), Option.bind_some, hz]; rfl
theorem toValue_U : ∀ (N : Nat) (v : GValue), vsz v < N → vsz v ≤ 2 ^ 20 → ∀ f : Nat, 2 * vsz v + 3 ≤ f → U_laws_toValue f v = some v := by
  intro N
  induction N with
  | zero => intro v hv; omega
  | succ N ih =>
    intro v hv hs f hf
    obtain ⟨f, rfl, _⟩ := fuel (show 0 < f by omega)
    obtain ⟨f, rfl, _⟩ := fuel (show 0 < f by omega)
    have he := vsz_eq v
    have hl := vszs_len v.L
    rw [U_laws_toValue]
    unfold T_laws_toValue S_laws_toByteS S_laws_toByteSS
    rw [if_pos (by omega), Option.bind_some, if_pos (by omega), Option.bind_some, U_laws_toValueS, toValueS_T (by omega) (by omega) fun x hx => ?_, Option.bind_some, GValue.eta]
    have := vszs_mem hx
    exact ih x (by omega) (by omega) f (by omega)
def S_laws_toValueS (a0 : (List GValue)) : Option (List GValue) := if vszs a0 ≤ 2 ^ 20 then some a0 else none
theorem spec_laws_toValueS (a0 : (List GValue)) (r : (List GValue)) (h : S_laws_toValueS a0 = some r) : ∃ n, U_laws_toValueS n a0 = some r := by
  unfold S_laws_toValueS at h
  obtain ⟨ha, h⟩ := need_c h
  have hl := vszs_len a0
  refine ⟨2 * vszs a0 + 5, ?_⟩
  rw [U_laws_toValueS, toValueS_T (by omega) (by omega) fun x hx => ?_, h]
  have := vszs_mem hx
  exact toValue_U _ x (Nat.lt_succ_self _) (by omega) _ (by omega)
def S_laws_toValue (a0 : GValue) : Option GValue := if vsz a0 ≤ 2 ^ 20 then some a0 else none
theorem spec_laws_toValue (a0 : GValue) (r : GValue) (h : S_laws_toValue a0 = some r) : ∃ n, U_laws_toValue n a0 = some r := by
  unfold S_laws_toValue at h
  obtain ⟨ha, h⟩ := need_c h
  exact ⟨2 * vsz a0 + 3, by rw [← h]; exact toValue_U _ a0 (Nat.lt_succ_self _) ha _ (Nat.le_refl _)⟩
theorem ok_laws_toValueS (a0 : (List GValue)) (r : (List GValue)) (h : S_laws_toValueS a0 = some r) : (mach cfg).call 25 [] [.val false [.seq (eL e_GValue a0)]] = some (.val false [.own 5 (eL o_GValue r)], []) := by
  obtain ⟨n, hn⟩ := spec_laws_toValueS a0 r h
  exact (rec_laws_toValueS n).1 a0 r hn
theorem ok_laws_toValue (a0 : GValue) (r : GValue) (h : S_laws_toValue a0 = some r) : (mach cfg).call 9 [] [.val true [.int .i64 a0.Kind, .int .i64 a0.N, .seq (eL e_u8 a0.S), .seq (eL (e_sl e_u8) a0.K), .seq (eL e_GValue a0.L)]] = some (.val true [.int .i64 r.Kind, .int .i64 r.N, .own 1 (eL e_u8 r.S), .own 1 (eL (o_sl 1 e_u8) r.K), .own 5 (eL o_GValue r.L)], []) := by
  obtain ⟨n, hn⟩ := spec_laws_toValue a0 r h
  exact (rec_laws_toValueS n).2 a0 r hn
def L_spec_l2text_l0 (a0 : (List UInt8)) : Nat → Int → Option (Bool ⊕ Int)
  | 0, _ => none
  | m + 1, v1 =>
    if v1 < ((a0.length : Nat) : Int) then
      (natO v1).bind fun i2 =>
      (a0[i2]?).bind fun x3 =>
      if ((x3.toNat : Nat) : Int) < 32 then
        some (.inl false)
      else
        if 126 < ((x3.toNat : Nat) : Int) then
          some (.inl false)
        else
          L_spec_l2text_l0 a0 m (w64 (v1 + 1))
    else
      some (.inr v1)

theorem gl_spec_l2text_l0 (a0 : (List UInt8)) (m : Nat) : ∀ (v1 : Int) (o : (Bool ⊕ Int)), L_spec_l2text_l0 a0 m v1 = some o → (mach cfg).loop 108 (loopB Try.f108 0) ⟨[(0, .val false [.seq (eL e_u8 a0)]), (3, .val false [.int .i64 v1])], [], 0⟩ = some (match o with | .inl o_0 => (.ret, (⟨[(2, .val false [.bool o_0])], [], 0⟩ : S)) | .inr (o_1) => (.exit 0, (⟨[(0, .val false [.seq (eL e_u8 a0)]), (3, .val false [.int .i64 o_1]), (10, .val false [.bool false])], [], 0⟩ : S))) := by
  induction m with
  | zero => intro v1 o h; cases h
  | succ m ih =>
    intro v1 o h
    rw [L_spec_l2text_l0] at h
    by_cases c1 : v1 < ((a0.length : Nat) : Int)
    · rw [if_pos c1] at h
      obtain ⟨i2, hi2, h⟩ := Option.bind_eq_some_iff.1 h
      obtain ⟨x3, hx3, h⟩ := Option.bind_eq_some_iff.1 h
      by_cases c4 : ((x3.toNat : Nat) : Int) < 32
      · rw [if_pos c4] at h
        obtain rfl := Option.some.inj h
        exact loop_end cfg [(.len (eL e_u8 a0), .i ((a0.length : Nat) : Int)), (.ltI v1 ((a0.length : Nat) : Int), .b true), (.nat v1, .n i2), (.idx (eL e_u8 a0) i2, .e [.int .u8 ((x3.toNat : Nat) : Int)]), (.ltI ((x3.toNat : Nat) : Int) 32, .b true)] (by kernel_rfl) ⟨A.len, (A.ltI_t c1), (A.nat hi2), (A.idx hx3 rfl), (A.ltI_t c4), trivial⟩ (by intro h; cases h)
      · rw [if_neg c4] at h
        by_cases c5 : 126 < ((x3.toNat : Nat) : Int)
        · rw [if_pos c5] at h
          obtain rfl := Option.some.inj h
          exact loop_end cfg [(.len (eL e_u8 a0), .i ((a0.length : Nat) : Int)), (.ltI v1 ((a0.length : Nat) : Int), .b true), (.nat v1, .n i2), (.idx (eL e_u8 a0) i2, .e [.int .u8 ((x3.toNat : Nat) : Int)]), (.ltI ((x3.toNat : Nat) : Int) 32, .b false), (.nat v1, .n i2), (.idx (eL e_u8 a0) i2, .e [.int .u8 ((x3.toNat : Nat) : Int)]), (.ltI 126 ((x3.toNat : Nat) : Int), .b true)] (by kernel_rfl) ⟨A.len, (A.ltI_t c1), (A.nat hi2), (A.idx hx3 rfl), (A.ltI_f c4), (A.nat hi2), (A.idx hx3 rfl), (A.ltI_t c5), trivial⟩ (by intro h; cases h)
        · rw [if_neg c5] at h
          exact loop_on cfg [(.len (eL e_u8 a0), .i ((a0.length : Nat) : Int)), (.ltI v1 ((a0.length : Nat) : Int), .b true), (.nat v1, .n i2), (.idx (eL e_u8 a0) i2, .e [.int .u8 ((x3.toNat : Nat) : Int)]), (.ltI ((x3.toNat : Nat) : Int) 32, .b false), (.nat v1, .n i2), (.idx (eL e_u8 a0) i2, .e [.int .u8 ((x3.toNat : Nat) : Int)]), (.ltI 126 ((x3.toNat : Nat) : Int), .b false), (.add .i64 v1 1, .i (w64 (v1 + 1)))] (by kernel_rfl) ⟨A.len, (A.ltI_t c1), (A.nat hi2), (A.idx hx3 rfl), (A.ltI_f c4), (A.nat hi2), (A.idx hx3 rfl), (A.ltI_f c5), rfl, trivial⟩ (ih (w64 (v1 + 1)) o h)
    · rw [if_neg c1] at h
      obtain rfl := Option.some.inj h
      exact loop_end cfg [(.len (eL e_u8 a0), .i ((a0.length : Nat) : Int)), (.ltI v1 ((a0.length : Nat) : Int), .b false)] (by kernel_rfl) ⟨A.len, (A.ltI_f c1), trivial⟩ (by intro h; cases h)

def T_spec_l2text (n : Nat) (a0 : (List UInt8)) : Option Bool :=
  if 20 < ((a0.length : Nat) : Int) then
    some false
  else
    (L_spec_l2text_l0 a0 n 0).bind fun o2 =>
    match o2 with
    | .inl o2_0 =>
      some o2_0
    | .inr (o2_1) =>
      some true

set_option maxRecDepth 100000 in
theorem fd_108 : cfg.funcs 108 = some (bodyOf Try.f108, Try.f108.ntmps, Try.f108.results.toList) := fn_of Try.func108 (by kernel_rfl) (by kernel_rfl)
theorem g_spec_l2text (n : Nat) (a0 : (List UInt8)) (r : Bool) (h : T_spec_l2text n a0 = some r) : (mach cfg).call 108 [] [.val false [.seq (eL e_u8 a0)]] = some (.val false [.bool r], []) := by
  unfold T_spec_l2text at h
  by_cases c1 : 20 < ((a0.length : Nat) : Int)
  · rw [if_pos c1] at h
    obtain rfl := Option.some.inj h
    exact call_way cfg [(.len (eL e_u8 a0), .i ((a0.length : Nat) : Int)), (.ltI 20 ((a0.length : Nat) : Int), .b true)] rfl fd_108 (by kernel_rfl) ⟨A.len, (A.ltI_t c1), trivial⟩
  · rw [if_neg c1] at h
    obtain ⟨o2, ho2, h⟩ := Option.bind_eq_some_iff.1 h
    rcases o2 with o2_0 | o2_1
    · try dsimp only at h
      obtain rfl := Option.some.inj h
      exact call_way cfg [(.len (eL e_u8 a0), .i ((a0.length : Nat) : Int)), (.ltI 20 ((a0.length : Nat) : Int), .b false), (.loop 108 (loopB Try.f108 0) ⟨[(0, .val false [.seq (eL e_u8 a0)]), (3, .val false [.int .i64 0])], [], 0⟩, .x (.ret) ⟨[(2, .val false [.bool o2_0])], [], 0⟩)] rfl fd_108 (by kernel_rfl) ⟨A.len, (A.ltI_f c1), (A.loop (gl_spec_l2text_l0 a0 _ 0 _ ho2)), trivial⟩
    · try dsimp only at h
      obtain rfl := Option.some.inj h
      exact call_way cfg [(.len (eL e_u8 a0), .i ((a0.length : Nat) : Int)), (.ltI 20 ((a0.length : Nat) : Int), .b false), (.loop 108 (loopB Try.f108 0) ⟨[(0, .val false [.seq (eL e_u8 a0)]), (3, .val false [.int .i64 0])], [], 0⟩, .x (.exit 0) ⟨[(0, .val false [.seq (eL e_u8 a0)]), (3, .val false [.int .i64 o2_1]), (10, .val false [.bool false])], [], 0⟩)] rfl fd_108 (by kernel_rfl) ⟨A.len, (A.ltI_f c1), (A.loop (gl_spec_l2text_l0 a0 _ 0 _ ho2)), trivial⟩

theorem spec_l2text_loop {a : List UInt8} (ha : a.length ≤ 2 ^ 20) : ∀ (d i m : Nat), i + d = a.length → d < m → ∃ z, L_spec_l2text_l0 a m (i : Int) = some (if (a.drop i).all (inB 32 126) = true then .inr z else .inl false) := by
  intro d
  induction d with
  | zero =>
    intro i m hi hm
    obtain ⟨m, rfl, _⟩ := fuel hm
    exact ⟨_, by rw [L_spec_l2text_l0, if_neg (by omega), List.drop_eq_nil_of_le (by omega)]; rfl⟩
  | succ d ih =>
    intro i m hi hm
    obtain ⟨m, rfl, hm'⟩ := fuel hm
    have hil : i < a.length := by omega
    rw [L_spec_l2text_l0, if_pos (by omega), natO_nat, Option.bind_some, get_some hil, Option.bind_some, w64_succ (by omega), drop_cons hil, List.all_cons]
    by_cases h1 : ((a[i].toNat : Nat) : Int) < 32
    · exact ⟨0, by rw [if_pos h1, if_neg]; simp [inB]; omega⟩
    · rw [if_neg h1]
      by_cases h2 : (126 : Int) < ((a[i].toNat : Nat) : Int)
      · exact ⟨0, by rw [if_pos h2, if_neg]; simp [inB]; omega⟩
      · rw [if_neg h2, show inB 32 126 a[i] = true by simp [inB]; omega, Bool.true_and]
        exact ih (i + 1) m (by omega) (by omega)
def S_spec_l2text (a0 : (List UInt8)) : Option Bool := if a0.length ≤ 2 ^ 20 then some (textB a0) else none
theorem spec_spec_l2text (a0 : (List UInt8)) (r : Bool) (h : S_spec_l2text a0 = some r) : ∃ n, T_spec_l2text n a0 = some r := by
  unfold S_spec_l2text at h
  obtain ⟨ha, h⟩ := need_c h
  refine ⟨a0.length + 1, ?_⟩
  obtain ⟨z, hz⟩ := spec_l2text_loop ha a0.length 0 (a0.length + 1) (by omega) (by omega)
  rw [show ((0 : Nat) : Int) = 0 from rfl, List.drop_zero] at hz
  unfold T_spec_l2text
  rw [← h, hz]
  unfold textB
  by_cases hl : a0.length ≤ 20
  · rw [if_neg (by omega), decide_eq_true hl]
    cases a0.all (inB 32 126) <;> rfl
  · rw [if_pos (by omega), decide_eq_false hl]; rfl
theorem ok_spec_l2text (a0 : (List UInt8)) (r : Bool) (h : S_spec_l2text a0 = some r) : (mach cfg).call 108 [] [.val false [.seq (eL e_u8 a0)]] = some (.val false [.bool r], []) := by
  obtain ⟨n, hn⟩ := spec_spec_l2text a0 r h
  exact g_spec_l2text n a0 r hn
def L_spec_NameOk_l0 (a0 : (List UInt8)) : Nat → Int → Option (Bool ⊕ Int)
  | 0, _ => none
  | m + 1, v1 =>
    if v1 < ((a0.length : Nat) : Int) then
      (natO v1).bind fun i2 =>
      (a0[i2]?).bind fun x3 =>
      if ((x3.toNat : Nat) : Int) < 97 then
        some (.inl false)
      else
        if 122 < ((x3.toNat : Nat) : Int) then
          some (.inl false)
        else
          L_spec_NameOk_l0 a0 m (w64 (v1 + 1))
    else
      some (.inr v1)

theorem gl_spec_NameOk_l0 (a0 : (List UInt8)) (m : Nat) : ∀ (v1 : Int) (o : (Bool ⊕ Int)), L_spec_NameOk_l0 a0 m v1 = some o → (mach cfg).loop 54 (loopB Try.f54 0) ⟨[(0, .val false [.seq (eL e_u8 a0)]), (3, .val false [.int .i64 v1])], [], 0⟩ = some (match o with | .inl o_0 => (.ret, (⟨[(2, .val false [.bool o_0])], [], 0⟩ : S)) | .inr (o_1) => (.exit 0, (⟨[(0, .val false [.seq (eL e_u8 a0)]), (3, .val false [.int .i64 o_1]), (15, .val false [.bool false])], [], 0⟩ : S))) := by
  induction m with
  | zero => intro v1 o h; cases h
  | succ m ih =>
    intro v1 o h
    rw [L_spec_NameOk_l0] at h
    by_cases c1 : v1 < ((a0.length : Nat) : Int)
    · rw [if_pos c1] at h
      obtain ⟨i2, hi2, h⟩ := Option.bind_eq_some_iff.1 h
      obtain ⟨x3, hx3, h⟩ := Option.bind_eq_some_iff.1 h
      by_cases c4 : ((x3.toNat : Nat) : Int) < 97
      · rw [if_pos c4] at h
        obtain rfl := Option.some.inj h
        exact loop_end cfg [(.len (eL e_u8 a0), .i ((a0.length : Nat) : Int)), (.ltI v1 ((a0.length : Nat) : Int), .b true), (.nat v1, .n i2), (.idx (eL e_u8 a0) i2, .e [.int .u8 ((x3.toNat : Nat) : Int)]), (.ltI ((x3.toNat : Nat) : Int) 97, .b true)] (by kernel_rfl) ⟨A.len, (A.ltI_t c1), (A.nat hi2), (A.idx hx3 rfl), (A.ltI_t c4), trivial⟩ (by intro h; cases h)
      · rw [if_neg c4] at h
        by_cases c5 : 122 < ((x3.toNat : Nat) : Int)
        · rw [if_pos c5] at h
          obtain rfl := Option.some.inj h
          exact loop_end cfg [(.len (eL e_u8 a0), .i ((a0.length : Nat) : Int)), (.ltI v1 ((a0.length : Nat) : Int), .b true), (.nat v1, .n i2), (.idx (eL e_u8 a0) i2, .e [.int .u8 ((x3.toNat : Nat) : Int)]), (.ltI ((x3.toNat : Nat) : Int) 97, .b false), (.nat v1, .n i2), (.idx (eL e_u8 a0) i2, .e [.int .u8 ((x3.toNat : Nat) : Int)]), (.ltI 122 ((x3.toNat : Nat) : Int), .b true)] (by kernel_rfl) ⟨A.len, (A.ltI_t c1), (A.nat hi2), (A.idx hx3 rfl), (A.ltI_f c4), (A.nat hi2), (A.idx hx3 rfl), (A.ltI_t c5), trivial⟩ (by intro h; cases h)
        · rw [if_neg c5] at h
          exact loop_on cfg [(.len (eL e_u8 a0), .i ((a0.length : Nat) : Int)), (.ltI v1 ((a0.length : Nat) : Int), .b true), (.nat v1, .n i2), (.idx (eL e_u8 a0) i2, .e [.int .u8 ((x3.toNat : Nat) : Int)]), (.ltI ((x3.toNat : Nat) : Int) 97, .b false), (.nat v1, .n i2), (.idx (eL e_u8 a0) i2, .e [.int .u8 ((x3.toNat : Nat) : Int)]), (.ltI 122 ((x3.toNat : Nat) : Int), .b false), (.add .i64 v1 1, .i (w64 (v1 + 1)))] (by kernel_rfl) ⟨A.len, (A.ltI_t c1), (A.nat hi2), (A.idx hx3 rfl), (A.ltI_f c4), (A.nat hi2), (A.idx hx3 rfl), (A.ltI_f c5), rfl, trivial⟩ (ih (w64 (v1 + 1)) o h)
    · rw [if_neg c1] at h
      obtain rfl := Option.some.inj h
      exact loop_end cfg [(.len (eL e_u8 a0), .i ((a0.length : Nat) : Int)), (.ltI v1 ((a0.length : Nat) : Int), .b false)] (by kernel_rfl) ⟨A.len, (A.ltI_f c1), trivial⟩ (by intro h; cases h)

def T_spec_NameOk (n : Nat) (a0 : (List UInt8)) : Option Bool :=
  if ((a0.length : Nat) : Int) < 1 then
    some false
  else
    if 8 < ((a0.length : Nat) : Int) then
      some false
    else
      (L_spec_NameOk_l0 a0 n 0).bind fun o3 =>
      match o3 with
      | .inl o3_0 =>
        some o3_0
      | .inr (o3_1) =>
        some true

set_option maxRecDepth 100000 in
theorem fd_54 : cfg.funcs 54 = some (bodyOf Try.f54, Try.f54.ntmps, Try.f54.results.toList) := fn_of Try.func54 (by kernel_rfl) (by kernel_rfl)
theorem g_spec_NameOk (n : Nat) (a0 : (List UInt8)) (r : Bool) (h : T_spec_NameOk n a0 = some r) : (mach cfg).call 54 [] [.val false [.seq (eL e_u8 a0)]] = some (.val false [.bool r], []) := by
  unfold T_spec_NameOk at h
  by_cases c1 : ((a0.length : Nat) : Int) < 1
  · rw [if_pos c1] at h
    obtain rfl := Option.some.inj h
    exact call_way cfg [(.len (eL e_u8 a0), .i ((a0.length : Nat) : Int)), (.ltI ((a0.length : Nat) : Int) 1, .b true)] rfl fd_54 (by kernel_rfl) ⟨A.len, (A.ltI_t c1), trivial⟩
  · rw [if_neg c1] at h
    by_cases c2 : 8 < ((a0.length : Nat) : Int)
    · rw [if_pos c2] at h
      obtain rfl := Option.some.inj h
      exact call_way cfg [(.len (eL e_u8 a0), .i ((a0.length : Nat) : Int)), (.ltI ((a0.length : Nat) : Int) 1, .b false), (.len (eL e_u8 a0), .i ((a0.length : Nat) : Int)), (.ltI 8 ((a0.length : Nat) : Int), .b true)] rfl fd_54 (by kernel_rfl) ⟨A.len, (A.ltI_f c1), A.len, (A.ltI_t c2), trivial⟩
    · rw [if_neg c2] at h
      obtain ⟨o3, ho3, h⟩ := Option.bind_eq_some_iff.1 h
      rcases o3 with o3_0 | o3_1
      · try dsimp only at h
        obtain rfl := Option.some.inj h
        exact call_way cfg [(.len (eL e_u8 a0), .i ((a0.length : Nat) : Int)), (.ltI ((a0.length : Nat) : Int) 1, .b false), (.len (eL e_u8 a0), .i ((a0.length : Nat) : Int)), (.ltI 8 ((a0.length : Nat) : Int), .b false), (.loop 54 (loopB Try.f54 0) ⟨[(0, .val false [.seq (eL e_u8 a0)]), (3, .val false [.int .i64 0])], [], 0⟩, .x (.ret) ⟨[(2, .val false [.bool o3_0])], [], 0⟩)] rfl fd_54 (by kernel_rfl) ⟨A.len, (A.ltI_f c1), A.len, (A.ltI_f c2), (A.loop (gl_spec_NameOk_l0 a0 _ 0 _ ho3)), trivial⟩
      · try dsimp only at h
        obtain rfl := Option.some.inj h
        exact call_way cfg [(.len (eL e_u8 a0), .i ((a0.length : Nat) : Int)), (.ltI ((a0.length : Nat) : Int) 1, .b false), (.len (eL e_u8 a0), .i ((a0.length : Nat) : Int)), (.ltI 8 ((a0.length : Nat) : Int), .b false), (.loop 54 (loopB Try.f54 0) ⟨[(0, .val false [.seq (eL e_u8 a0)]), (3, .val false [.int .i64 0])], [], 0⟩, .x (.exit 0) ⟨[(0, .val false [.seq (eL e_u8 a0)]), (3, .val false [.int .i64 o3_1]), (15, .val false [.bool false])], [], 0⟩)] rfl fd_54 (by kernel_rfl) ⟨A.len, (A.ltI_f c1), A.len, (A.ltI_f c2), (A.loop (gl_spec_NameOk_l0 a0 _ 0 _ ho3)), trivial⟩

theorem spec_NameOk_loop {a : List UInt8} (ha : a.length ≤ 2 ^ 20) : ∀ (d i m : Nat), i + d = a.length → d < m → ∃ z, L_spec_NameOk_l0 a m (i : Int) = some (if (a.drop i).all (inB 97 122) = true then .inr z else .inl false) := by
  intro d
  induction d with
  | zero =>
    intro i m hi hm
    obtain ⟨m, rfl, _⟩ := fuel hm
    exact ⟨_, by rw [L_spec_NameOk_l0, if_neg (by omega), List.drop_eq_nil_of_le (by omega)]; rfl⟩
  | succ d ih =>
    intro i m hi hm
    obtain ⟨m, rfl, hm'⟩ := fuel hm
    have hil : i < a.length := by omega
    rw [L_spec_NameOk_l0, if_pos (by omega), natO_nat, Option.bind_some, get_some hil, Option.bind_some, w64_succ (by omega), drop_cons hil, List.all_cons]
    by_cases h1 : ((a[i].toNat : Nat) : Int) < 97
    · exact ⟨0, by rw [if_pos h1, if_neg]; simp [inB]; omega⟩
    · rw [if_neg h1]
      by_cases h2 : (122 : Int) < ((a[i].toNat : Nat) : Int)
      · exact ⟨0, by rw [if_pos h2, if_neg]; simp [inB]; omega⟩
      · rw [if_neg h2, show inB 97 122 a[i] = true by simp [inB]; omega, Bool.true_and]
        exact ih (i + 1) m (by omega) (by omega)
def S_spec_NameOk (a0 : (List UInt8)) : Option Bool := if a0.length ≤ 2 ^ 20 then some (nameB a0) else none
theorem spec_spec_NameOk (a0 : (List UInt8)) (r : Bool) (h : S_spec_NameOk a0 = some r) : ∃ n, T_spec_NameOk n a0 = some r := by
  unfold S_spec_NameOk at h
  obtain ⟨ha, h⟩ := need_c h
  refine ⟨a0.length + 1, ?_⟩
  obtain ⟨z, hz⟩ := spec_NameOk_loop ha a0.length 0 (a0.length + 1) (by omega) (by omega)
  rw [show ((0 : Nat) : Int) = 0 from rfl, List.drop_zero] at hz
  unfold T_spec_NameOk
  rw [← h, hz]
  unfold nameB
  by_cases h1 : 1 ≤ a0.length
  · rw [if_neg (by omega)]
    by_cases hl : a0.length ≤ 8
    · rw [if_neg (by omega), decide_eq_true ⟨h1, hl⟩]
      cases a0.all (inB 97 122) <;> rfl
    · rw [if_pos (by omega), decide_eq_false (fun h => hl h.2)]; rfl
  · rw [if_pos (by omega), decide_eq_false (fun h => h1 h.1)]; rfl
theorem ok_spec_NameOk (a0 : (List UInt8)) (r : Bool) (h : S_spec_NameOk a0 = some r) : (mach cfg).call 54 [] [.val false [.seq (eL e_u8 a0)]] = some (.val false [.bool r], []) := by
  obtain ⟨n, hn⟩ := spec_spec_NameOk a0 r h
  exact g_spec_NameOk n a0 r hn
def S_spec_l2int (a0 : Int) : Option Bool :=
  if (-1000000000000) ≤ a0 then
    some (decide (a0 ≤ 1000000000000))
  else
    some false

set_option maxRecDepth 100000 in
theorem fd_107 : cfg.funcs 107 = some (bodyOf Try.f107, Try.f107.ntmps, Try.f107.results.toList) := fn_of Try.func107 (by kernel_rfl) (by kernel_rfl)
theorem ok_spec_l2int (a0 : Int) (r : Bool) (h : S_spec_l2int a0 = some r) : (mach cfg).call 107 [] [.val false [.int .i64 a0]] = some (.val false [.bool r], []) := by
  unfold S_spec_l2int at h
  by_cases c1 : (-1000000000000) ≤ a0
  · rw [if_pos c1] at h
    obtain rfl := Option.some.inj h
    exact call_way cfg [(.leI (-1000000000000) a0, .b true), (.leI a0 1000000000000, .b (decide (a0 ≤ 1000000000000)))] rfl fd_107 (by kernel_rfl) ⟨(A.leI_t c1), A.leI_d, trivial⟩
  · rw [if_neg c1] at h
    obtain rfl := Option.some.inj h
    exact call_way cfg [(.leI (-1000000000000) a0, .b false)] rfl fd_107 (by kernel_rfl) ⟨(A.leI_f c1), trivial⟩

end
end Go.Am.Try
