/- The functions of the program in plain Lean, and that the machine answers as they do; conditions at each theorem. -/
import Derived.Test.YtnhmhmjgeffboaaLP1
set_option linter.unusedVariables false
set_option linter.unusedSimpArgs false
namespace Go.Am.Try
open Go.Am Go.Proofs
set_option linter.unusedVariables false
set_option maxRecDepth 20000
set_option maxHeartbeats 2000000
noncomputable section
def S_laws_szEdgeS (a0 : (List GEdge)) (a1 : Int) : Option Int :=
  if (w64 (a1 - ((a0.length : Nat) : Int))) < 0 then
    some (-1)
  else
    some (w64 (a1 - ((a0.length : Nat) : Int)))

set_option maxRecDepth 100000 in
theorem fd_32 : cfg.funcs 32 = some (bodyOf Try.f32, Try.f32.ntmps, Try.f32.results.toList) := fn_of Try.func32 (by kernel_rfl) (by kernel_rfl)
theorem ok_laws_szEdgeS (a0 : (List GEdge)) (a1 : Int) (r : Int) (h : S_laws_szEdgeS a0 a1 = some r) : (mach cfg).call 32 [] [.val false [.seq (eL e_GEdge a0)], .val false [.int .i64 a1]] = some (.val false [.int .i64 r], []) := by
  unfold S_laws_szEdgeS at h
  by_cases c1 : (w64 (a1 - ((a0.length : Nat) : Int))) < 0
  · rw [if_pos c1] at h
    obtain rfl := Option.some.inj h
    exact call_way cfg [(.len (eL e_GEdge a0), .i ((a0.length : Nat) : Int)), (.sub .i64 a1 ((a0.length : Nat) : Int), .i (w64 (a1 - ((a0.length : Nat) : Int)))), (.ltI (w64 (a1 - ((a0.length : Nat) : Int))) 0, .b true)] rfl fd_32 (by kernel_rfl) ⟨A.len, rfl, (A.ltI_t c1), trivial⟩
  · rw [if_neg c1] at h
    obtain rfl := Option.some.inj h
    exact call_way cfg [(.len (eL e_GEdge a0), .i ((a0.length : Nat) : Int)), (.sub .i64 a1 ((a0.length : Nat) : Int), .i (w64 (a1 - ((a0.length : Nat) : Int)))), (.ltI (w64 (a1 - ((a0.length : Nat) : Int))) 0, .b false)] rfl fd_32 (by kernel_rfl) ⟨A.len, rfl, (A.ltI_f c1), trivial⟩

def S_laws_szGraph (a0 : GGraph) (a1 : Int) : Option Int :=
  (S_laws_szEdgeS a0.Edges a1).bind fun r1 =>
  if r1 < 0 then
    some (-1)
  else
    some r1

set_option maxRecDepth 100000 in
theorem fd_8 : cfg.funcs 8 = some (bodyOf Try.f8, Try.f8.ntmps, Try.f8.results.toList) := fn_of Try.func8 (by kernel_rfl) (by kernel_rfl)
theorem ok_laws_szGraph (a0 : GGraph) (a1 : Int) (r : Int) (h : S_laws_szGraph a0 a1 = some r) : (mach cfg).call 8 [] [.val true [.int .i64 a0.N, .seq (eL e_GEdge a0.Edges)], .val false [.int .i64 a1]] = some (.val false [.int .i64 r], []) := by
  unfold S_laws_szGraph at h
  obtain ⟨r1, hr1, h⟩ := Option.bind_eq_some_iff.1 h
  by_cases c2 : r1 < 0
  · rw [if_pos c2] at h
    obtain rfl := Option.some.inj h
    exact call_way cfg [(.call 32 [] [.val false [.seq (eL e_GEdge a0.Edges)], .val false [.int .i64 a1]], .r (.val false [.int .i64 r1]) []), (.ltI r1 0, .b true)] rfl fd_8 (by kernel_rfl) ⟨(A.call (ok_laws_szEdgeS a0.Edges a1 _ hr1)), (A.ltI_t c2), trivial⟩
  · rw [if_neg c2] at h
    obtain rfl := Option.some.inj h
    exact call_way cfg [(.call 32 [] [.val false [.seq (eL e_GEdge a0.Edges)], .val false [.int .i64 a1]], .r (.val false [.int .i64 r1]) []), (.ltI r1 0, .b false)] rfl fd_8 (by kernel_rfl) ⟨(A.call (ok_laws_szEdgeS a0.Edges a1 _ hr1)), (A.ltI_f c2), trivial⟩

def S_laws_toEdge (a0 : GEdge) : Option GEdge :=
  some a0

set_option maxRecDepth 100000 in
theorem fd_70 : cfg.funcs 70 = some (bodyOf Try.f70, Try.f70.ntmps, Try.f70.results.toList) := fn_of Try.func70 (by kernel_rfl) (by kernel_rfl)
theorem ok_laws_toEdge (a0 : GEdge) (r : GEdge) (h : S_laws_toEdge a0 = some r) : (mach cfg).call 70 [] [.val true [.int .i64 a0.From, .int .i64 a0.To]] = some (.val true [.int .i64 r.From, .int .i64 r.To], []) := by
  unfold S_laws_toEdge at h
  obtain rfl := Option.some.inj h
  exact call_way cfg [] rfl fd_70 (by kernel_rfl) trivial

def L_laws_toEdgeS_l0 (a0 : (List GEdge)) : Nat → Int → (List GEdge) → Option (Int × (List GEdge))
  | 0, _, _ => none
  | m + 1, v1, v2 =>
    if v1 < ((a0.length : Nat) : Int) then
      (natO v1).bind fun i2 =>
      (a0[i2]?).bind fun x3 =>
      (S_laws_toEdge x3).bind fun r4 =>
      (v2[i2]?).bind fun x5 =>
      L_laws_toEdgeS_l0 a0 m (w64 (v1 + 1)) (v2.set i2 r4)
    else
      some (v1, v2)

theorem gl_laws_toEdgeS_l0 (a0 : (List GEdge)) (m : Nat) : ∀ (v1 : Int) (v2 : (List GEdge)) (o : (Int × (List GEdge))), L_laws_toEdgeS_l0 a0 m v1 v2 = some o → (mach cfg).loop 34 (loopB Try.f34 0) ⟨[(0, .val false [.seq (eL e_GEdge a0)]), (3, .val false [.ref 0]), (4, .val false [.int .i64 v1])], [.obj 2 (eL e_GEdge v2)], 0⟩ = some (match o with | ⟨o_0, o_1⟩ => (.exit 0, (⟨[(0, .val false [.seq (eL e_GEdge a0)]), (3, .val false [.ref 0]), (4, .val false [.int .i64 o_0]), (11, .val false [.bool false])], [.obj 2 (eL e_GEdge o_1)], 0⟩ : S))) := by
  induction m with
  | zero => intro v1 v2 o h; cases h
  | succ m ih =>
    intro v1 v2 o h
    rw [L_laws_toEdgeS_l0] at h
    by_cases c1 : v1 < ((a0.length : Nat) : Int)
    · rw [if_pos c1] at h
      obtain ⟨i2, hi2, h⟩ := Option.bind_eq_some_iff.1 h
      obtain ⟨x3, hx3, h⟩ := Option.bind_eq_some_iff.1 h
      obtain ⟨r4, hr4, h⟩ := Option.bind_eq_some_iff.1 h
      obtain ⟨x5, hx5, h⟩ := Option.bind_eq_some_iff.1 h
      exact loop_on cfg [(.len (eL e_GEdge a0), .i ((a0.length : Nat) : Int)), (.ltI v1 ((a0.length : Nat) : Int), .b true), (.nat v1, .n i2), (.idx (eL e_GEdge a0) i2, .e [.int .i64 x3.From, .int .i64 x3.To]), (.call 70 [] [.val true [.int .i64 x3.From, .int .i64 x3.To]], .r (.val true [.int .i64 r4.From, .int .i64 r4.To]) []), (.nat v1, .n i2), (.idx (eL e_GEdge v2) i2, .e [.int .i64 x5.From, .int .i64 x5.To]), (.idx (eL e_GEdge v2) i2, .e [.int .i64 x5.From, .int .i64 x5.To]), (.setL (eL e_GEdge v2) i2 [.int .i64 r4.From, .int .i64 r4.To], .l (eL e_GEdge (v2.set i2 r4))), (.add .i64 v1 1, .i (w64 (v1 + 1)))] (by kernel_rfl) ⟨A.len, (A.ltI_t c1), (A.nat hi2), (A.idx hx3 (eq_GEdge x3)), (A.call (ok_laws_toEdge x3 _ hr4)), (A.nat hi2), (A.idx hx5 (eq_GEdge x5)), (A.idx hx5 (eq_GEdge x5)), (A.setL (eq_GEdge r4)), rfl, trivial⟩ (ih (w64 (v1 + 1)) (v2.set i2 r4) o h)
    · rw [if_neg c1] at h
      obtain rfl := Option.some.inj h
      exact loop_end cfg [(.len (eL e_GEdge a0), .i ((a0.length : Nat) : Int)), (.ltI v1 ((a0.length : Nat) : Int), .b false)] (by kernel_rfl) ⟨A.len, (A.ltI_f c1), trivial⟩ (by intro h; cases h)

def T_laws_toEdgeS (n : Nat) (a0 : (List GEdge)) : Option (List GEdge) :=
  (madeO 16 ((a0.length : Nat) : Int)).bind fun k1 =>
  (L_laws_toEdgeS_l0 a0 n 0 (List.replicate k1 (GEdge.mk 0 0))).bind fun ⟨o2_0, o2_1⟩ =>
  some o2_1

set_option maxRecDepth 100000 in
theorem fd_34 : cfg.funcs 34 = some (bodyOf Try.f34, Try.f34.ntmps, Try.f34.results.toList) := fn_of Try.func34 (by kernel_rfl) (by kernel_rfl)
theorem g_laws_toEdgeS (n : Nat) (a0 : (List GEdge)) (r : (List GEdge)) (h : T_laws_toEdgeS n a0 = some r) : (mach cfg).call 34 [] [.val false [.seq (eL e_GEdge a0)]] = some (.val false [.seq (eL e_GEdge r)], []) := by
  unfold T_laws_toEdgeS at h
  obtain ⟨k1, hk1, h⟩ := Option.bind_eq_some_iff.1 h
  obtain ⟨⟨o2_0, o2_1⟩, ho2, h⟩ := Option.bind_eq_some_iff.1 h
  try dsimp only at h
  obtain rfl := Option.some.inj h
  exact (call_way cfg (r := (.val false [.seq (viewL (eL e_GEdge o2_1))], [])) [(.len (eL e_GEdge a0), .i ((a0.length : Nat) : Int)), (.eqI ((a0.length : Nat) : Int) ((a0.length : Nat) : Int), .b true), (.made 16 ((a0.length : Nat) : Int), .n k1), (.rep k1 [.int .i64 0, .int .i64 0], .l (eL e_GEdge (List.replicate k1 (GEdge.mk 0 0)))), (.loop 34 (loopB Try.f34 0) ⟨[(0, .val false [.seq (eL e_GEdge a0)]), (3, .val false [.ref 0]), (4, .val false [.int .i64 0])], [.obj 2 (eL e_GEdge (List.replicate k1 (GEdge.mk 0 0)))], 0⟩, .x (.exit 0) ⟨[(0, .val false [.seq (eL e_GEdge a0)]), (3, .val false [.ref 0]), (4, .val false [.int .i64 o2_0]), (11, .val false [.bool false])], [.obj 2 (eL e_GEdge o2_1)], 0⟩)] rfl fd_34 (by kernel_rfl) ⟨A.len, (A.eqI_t rfl), (A.made hk1), (A.rep (eq_GEdge (GEdge.mk 0 0))), (A.loop (gl_laws_toEdgeS_l0 a0 _ 0 (List.replicate k1 (GEdge.mk 0 0)) _ ho2)), trivial⟩).trans (by simp only [viewL_eL E_GEdge])

theorem toEdgeS_loop {a : List GEdge} (ha : a.length ≤ 2 ^ 20) : ∀ (d i m : Nat) (v : List GEdge), i + d = a.length → d < m → Pre a v i → ∃ z, L_laws_toEdgeS_l0 a m (i : Int) v = some (z, a) := by
  intro d
  induction d with
  | zero =>
    intro i m v hi hm hp
    obtain ⟨m, rfl, _⟩ := fuel hm
    exact ⟨_, by rw [L_laws_toEdgeS_l0, if_neg (by omega), hp.done (by omega)]⟩
  | succ d ih =>
    intro i m v hi hm hp
    obtain ⟨m, rfl, hm'⟩ := fuel hm
    have hil : i < a.length := by omega
    rw [L_laws_toEdgeS_l0, if_pos (by omega), natO_nat, Option.bind_some, get_some hil, Option.bind_some]
    unfold S_laws_toEdge
    rw [Option.bind_some, get_some (by rw [hp.1]; exact hil), Option.bind_some, w64_succ (by omega)]
    exact ih (i + 1) m _ (by omega) (by omega) (hp.step hil)
def S_laws_toEdgeS (a0 : (List GEdge)) : Option (List GEdge) := if a0.length ≤ 2 ^ 20 then some a0 else none
theorem spec_laws_toEdgeS (a0 : (List GEdge)) (r : (List GEdge)) (h : S_laws_toEdgeS a0 = some r) : ∃ n, T_laws_toEdgeS n a0 = some r := by
  unfold S_laws_toEdgeS at h
  obtain ⟨ha, h⟩ := need_c h
  refine ⟨a0.length + 1, ?_⟩
  obtain ⟨z, hz⟩ := toEdgeS_loop ha a0.length 0 (a0.length + 1) (List.replicate a0.length (GEdge.mk 0 0)) (by omega) (by omega) (Pre.start (by simp))
  unfold T_laws_toEdgeS
  rw [made_ok ha (by decide), Option.bind_some, show (0 : Int) = ((0 : Nat) : Int) from rfl]
  exact (congrArg (fun x => Option.bind x _) hz).trans h
theorem ok_laws_toEdgeS (a0 : (List GEdge)) (r : (List GEdge)) (h : S_laws_toEdgeS a0 = some r) : (mach cfg).call 34 [] [.val false [.seq (eL e_GEdge a0)]] = some (.val false [.seq (eL e_GEdge r)], []) := by
  obtain ⟨n, hn⟩ := spec_laws_toEdgeS a0 r h
  exact g_laws_toEdgeS n a0 r hn
def S_laws_toGraph (a0 : GGraph) : Option GGraph :=
  (S_laws_toEdgeS a0.Edges).bind fun r1 =>
  some (GGraph.mk a0.N r1)

set_option maxRecDepth 100000 in
theorem fd_10 : cfg.funcs 10 = some (bodyOf Try.f10, Try.f10.ntmps, Try.f10.results.toList) := fn_of Try.func10 (by kernel_rfl) (by kernel_rfl)
theorem ok_laws_toGraph (a0 : GGraph) (r : GGraph) (h : S_laws_toGraph a0 = some r) : (mach cfg).call 10 [] [.val true [.int .i64 a0.N, .seq (eL e_GEdge a0.Edges)]] = some (.val true [.int .i64 r.N, .seq (eL e_GEdge r.Edges)], []) := by
  unfold S_laws_toGraph at h
  obtain ⟨r1, hr1, h⟩ := Option.bind_eq_some_iff.1 h
  obtain rfl := Option.some.inj h
  exact call_way cfg [(.call 34 [] [.val false [.seq (eL e_GEdge a0.Edges)]], .r (.val false [.seq (eL e_GEdge r1)]) [])] rfl fd_10 (by kernel_rfl) ⟨(A.call (ok_laws_toEdgeS a0.Edges _ hr1)), trivial⟩

def S_spec_l9less (a0 : GEdge) (a1 : GEdge) : Option Bool :=
  if a0.From < a1.From then
    some true
  else
    if a0.From = a1.From then
      some (decide (a0.To < a1.To))
    else
      some false

set_option maxRecDepth 100000 in
theorem fd_33 : cfg.funcs 33 = some (bodyOf Try.f33, Try.f33.ntmps, Try.f33.results.toList) := fn_of Try.func33 (by kernel_rfl) (by kernel_rfl)
theorem ok_spec_l9less (a0 : GEdge) (a1 : GEdge) (r : Bool) (h : S_spec_l9less a0 a1 = some r) : (mach cfg).call 33 [] [.val true [.int .i64 a0.From, .int .i64 a0.To], .val true [.int .i64 a1.From, .int .i64 a1.To]] = some (.val false [.bool r], []) := by
  unfold S_spec_l9less at h
  by_cases c1 : a0.From < a1.From
  · rw [if_pos c1] at h
    obtain rfl := Option.some.inj h
    exact call_way cfg [(.ltI a0.From a1.From, .b true)] rfl fd_33 (by kernel_rfl) ⟨(A.ltI_t c1), trivial⟩
  · rw [if_neg c1] at h
    by_cases c2 : a0.From = a1.From
    · rw [if_pos c2] at h
      obtain rfl := Option.some.inj h
      exact call_way cfg [(.ltI a0.From a1.From, .b false), (.eqI a0.From a1.From, .b true), (.ltI a0.To a1.To, .b (decide (a0.To < a1.To)))] rfl fd_33 (by kernel_rfl) ⟨(A.ltI_f c1), (A.eqI_t c2), A.ltI_d, trivial⟩
    · rw [if_neg c2] at h
      obtain rfl := Option.some.inj h
      exact call_way cfg [(.ltI a0.From a1.From, .b false), (.eqI a0.From a1.From, .b false)] rfl fd_33 (by kernel_rfl) ⟨(A.ltI_f c1), (A.eqI_f c2), trivial⟩

def L_spec_GraphOk_l0 (a0 : GGraph) : Nat → Int → Option (Bool ⊕ Int)
  | 0, _ => none
  | m + 1, v0 =>
    if v0 < ((a0.Edges.length : Nat) : Int) then
      (natO v0).bind fun i2 =>
      (a0.Edges[i2]?).bind fun x3 =>
      if x3.From < 0 then
        some (.inl false)
      else
        if a0.N ≤ x3.From then
          some (.inl false)
        else
          if x3.To < 0 then
            some (.inl false)
          else
            if a0.N ≤ x3.To then
              some (.inl false)
            else
              if 0 < v0 then
                (natO (w64 (v0 - 1))).bind fun i9 =>
                (a0.Edges[i9]?).bind fun x10 =>
                (S_spec_l9less x10 x3).bind fun r11 =>
                match r11 with
                | true =>
                  L_spec_GraphOk_l0 a0 m (w64 (v0 + 1))
                | false =>
                  some (.inl false)
              else
                L_spec_GraphOk_l0 a0 m (w64 (v0 + 1))
    else
      some (.inr v0)

theorem gl_spec_GraphOk_l0 (a0 : GGraph) (m : Nat) : ∀ (v0 : Int) (o : (Bool ⊕ Int)), L_spec_GraphOk_l0 a0 m v0 = some o → (mach cfg).loop 9 (loopB Try.f9 0) ⟨[(1, .val false [.ptr 0 0]), (3, .val false [.int .i64 v0])], [.var [.int .i64 a0.N, .seq (eL e_GEdge a0.Edges)]], 0⟩ = some (match o with | .inl o_0 => (.ret, (⟨[(2, .val false [.bool o_0])], [], 0⟩ : S)) | .inr (o_1) => (.exit 0, (⟨[(1, .val false [.ptr 0 0]), (3, .val false [.int .i64 o_1]), (23, .val false [.bool false])], [.var [.int .i64 a0.N, .seq (eL e_GEdge a0.Edges)]], 0⟩ : S))) := by
  induction m with
  | zero => intro v0 o h; cases h
  | succ m ih =>
    intro v0 o h
    rw [L_spec_GraphOk_l0] at h
    by_cases c1 : v0 < ((a0.Edges.length : Nat) : Int)
    · rw [if_pos c1] at h
      obtain ⟨i2, hi2, h⟩ := Option.bind_eq_some_iff.1 h
      obtain ⟨x3, hx3, h⟩ := Option.bind_eq_some_iff.1 h
      by_cases c4 : x3.From < 0
      · rw [if_pos c4] at h
        obtain rfl := Option.some.inj h
        exact loop_end cfg [(.len (eL e_GEdge a0.Edges), .i ((a0.Edges.length : Nat) : Int)), (.ltI v0 ((a0.Edges.length : Nat) : Int), .b true), (.nat v0, .n i2), (.idx (eL e_GEdge a0.Edges) i2, .e [.int .i64 x3.From, .int .i64 x3.To]), (.ltI x3.From 0, .b true)] (by kernel_rfl) ⟨A.len, (A.ltI_t c1), (A.nat hi2), (A.idx hx3 (eq_GEdge x3)), (A.ltI_t c4), trivial⟩ (by intro h; cases h)
      · rw [if_neg c4] at h
        by_cases c5 : a0.N ≤ x3.From
        · rw [if_pos c5] at h
          obtain rfl := Option.some.inj h
          exact loop_end cfg [(.len (eL e_GEdge a0.Edges), .i ((a0.Edges.length : Nat) : Int)), (.ltI v0 ((a0.Edges.length : Nat) : Int), .b true), (.nat v0, .n i2), (.idx (eL e_GEdge a0.Edges) i2, .e [.int .i64 x3.From, .int .i64 x3.To]), (.ltI x3.From 0, .b false), (.leI a0.N x3.From, .b true)] (by kernel_rfl) ⟨A.len, (A.ltI_t c1), (A.nat hi2), (A.idx hx3 (eq_GEdge x3)), (A.ltI_f c4), (A.leI_t c5), trivial⟩ (by intro h; cases h)
        · rw [if_neg c5] at h
          by_cases c6 : x3.To < 0
          · rw [if_pos c6] at h
            obtain rfl := Option.some.inj h
            exact loop_end cfg [(.len (eL e_GEdge a0.Edges), .i ((a0.Edges.length : Nat) : Int)), (.ltI v0 ((a0.Edges.length : Nat) : Int), .b true), (.nat v0, .n i2), (.idx (eL e_GEdge a0.Edges) i2, .e [.int .i64 x3.From, .int .i64 x3.To]), (.ltI x3.From 0, .b false), (.leI a0.N x3.From, .b false), (.ltI x3.To 0, .b true)] (by kernel_rfl) ⟨A.len, (A.ltI_t c1), (A.nat hi2), (A.idx hx3 (eq_GEdge x3)), (A.ltI_f c4), (A.leI_f c5), (A.ltI_t c6), trivial⟩ (by intro h; cases h)
          · rw [if_neg c6] at h
            by_cases c7 : a0.N ≤ x3.To
            · rw [if_pos c7] at h
              obtain rfl := Option.some.inj h
              exact loop_end cfg [(.len (eL e_GEdge a0.Edges), .i ((a0.Edges.length : Nat) : Int)), (.ltI v0 ((a0.Edges.length : Nat) : Int), .b true), (.nat v0, .n i2), (.idx (eL e_GEdge a0.Edges) i2, .e [.int .i64 x3.From, .int .i64 x3.To]), (.ltI x3.From 0, .b false), (.leI a0.N x3.From, .b false), (.ltI x3.To 0, .b false), (.leI a0.N x3.To, .b true)] (by kernel_rfl) ⟨A.len, (A.ltI_t c1), (A.nat hi2), (A.idx hx3 (eq_GEdge x3)), (A.ltI_f c4), (A.leI_f c5), (A.ltI_f c6), (A.leI_t c7), trivial⟩ (by intro h; cases h)
            · rw [if_neg c7] at h
              by_cases c8 : 0 < v0
              · rw [if_pos c8] at h
                obtain ⟨i9, hi9, h⟩ := Option.bind_eq_some_iff.1 h
                obtain ⟨x10, hx10, h⟩ := Option.bind_eq_some_iff.1 h
                obtain ⟨r11, hr11, h⟩ := Option.bind_eq_some_iff.1 h
                cases r11 with
                | true =>
                  try dsimp only at h
                  exact loop_on cfg [(.len (eL e_GEdge a0.Edges), .i ((a0.Edges.length : Nat) : Int)), (.ltI v0 ((a0.Edges.length : Nat) : Int), .b true), (.nat v0, .n i2), (.idx (eL e_GEdge a0.Edges) i2, .e [.int .i64 x3.From, .int .i64 x3.To]), (.ltI x3.From 0, .b false), (.leI a0.N x3.From, .b false), (.ltI x3.To 0, .b false), (.leI a0.N x3.To, .b false), (.ltI 0 v0, .b true), (.sub .i64 v0 1, .i (w64 (v0 - 1))), (.nat (w64 (v0 - 1)), .n i9), (.idx (eL e_GEdge a0.Edges) i9, .e [.int .i64 x10.From, .int .i64 x10.To]), (.call 33 [] [.val true [.int .i64 x10.From, .int .i64 x10.To], .val true [.int .i64 x3.From, .int .i64 x3.To]], .r (.val false [.bool true]) []), (.notB true, .b false), (.add .i64 v0 1, .i (w64 (v0 + 1)))] (by kernel_rfl) ⟨A.len, (A.ltI_t c1), (A.nat hi2), (A.idx hx3 (eq_GEdge x3)), (A.ltI_f c4), (A.leI_f c5), (A.ltI_f c6), (A.leI_f c7), (A.ltI_t c8), rfl, (A.nat hi9), (A.idx hx10 (eq_GEdge x10)), (A.call (ok_spec_l9less x10 x3 _ hr11)), rfl, rfl, trivial⟩ (ih (w64 (v0 + 1)) o h)
                | false =>
                  try dsimp only at h
                  obtain rfl := Option.some.inj h
                  exact loop_end cfg [(.len (eL e_GEdge a0.Edges), .i ((a0.Edges.length : Nat) : Int)), (.ltI v0 ((a0.Edges.length : Nat) : Int), .b true), (.nat v0, .n i2), (.idx (eL e_GEdge a0.Edges) i2, .e [.int .i64 x3.From, .int .i64 x3.To]), (.ltI x3.From 0, .b false), (.leI a0.N x3.From, .b false), (.ltI x3.To 0, .b false), (.leI a0.N x3.To, .b false), (.ltI 0 v0, .b true), (.sub .i64 v0 1, .i (w64 (v0 - 1))), (.nat (w64 (v0 - 1)), .n i9), (.idx (eL e_GEdge a0.Edges) i9, .e [.int .i64 x10.From, .int .i64 x10.To]), (.call 33 [] [.val true [.int .i64 x10.From, .int .i64 x10.To], .val true [.int .i64 x3.From, .int .i64 x3.To]], .r (.val false [.bool false]) []), (.notB false, .b true)] (by kernel_rfl) ⟨A.len, (A.ltI_t c1), (A.nat hi2), (A.idx hx3 (eq_GEdge x3)), (A.ltI_f c4), (A.leI_f c5), (A.ltI_f c6), (A.leI_f c7), (A.ltI_t c8), rfl, (A.nat hi9), (A.idx hx10 (eq_GEdge x10)), (A.call (ok_spec_l9less x10 x3 _ hr11)), rfl, trivial⟩ (by intro h; cases h)
              · rw [if_neg c8] at h
                exact loop_on cfg [(.len (eL e_GEdge a0.Edges), .i ((a0.Edges.length : Nat) : Int)), (.ltI v0 ((a0.Edges.length : Nat) : Int), .b true), (.nat v0, .n i2), (.idx (eL e_GEdge a0.Edges) i2, .e [.int .i64 x3.From, .int .i64 x3.To]), (.ltI x3.From 0, .b false), (.leI a0.N x3.From, .b false), (.ltI x3.To 0, .b false), (.leI a0.N x3.To, .b false), (.ltI 0 v0, .b false), (.add .i64 v0 1, .i (w64 (v0 + 1)))] (by kernel_rfl) ⟨A.len, (A.ltI_t c1), (A.nat hi2), (A.idx hx3 (eq_GEdge x3)), (A.ltI_f c4), (A.leI_f c5), (A.ltI_f c6), (A.leI_f c7), (A.ltI_f c8), rfl, trivial⟩ (ih (w64 (v0 + 1)) o h)
    · rw [if_neg c1] at h
      obtain rfl := Option.some.inj h
      exact loop_end cfg [(.len (eL e_GEdge a0.Edges), .i ((a0.Edges.length : Nat) : Int)), (.ltI v0 ((a0.Edges.length : Nat) : Int), .b false)] (by kernel_rfl) ⟨A.len, (A.ltI_f c1), trivial⟩ (by intro h; cases h)

def T_spec_GraphOk (n : Nat) (a0 : GGraph) : Option Bool :=
  if a0.N < 0 then
    some false
  else
    if 20 < a0.N then
      some false
    else
      if 400 < ((a0.Edges.length : Nat) : Int) then
        some false
      else
        (L_spec_GraphOk_l0 a0 n 0).bind fun o4 =>
        match o4 with
        | .inl o4_0 =>
          some o4_0
        | .inr (o4_1) =>
          some true

set_option maxRecDepth 100000 in
theorem fd_9 : cfg.funcs 9 = some (bodyOf Try.f9, Try.f9.ntmps, Try.f9.results.toList) := fn_of Try.func9 (by kernel_rfl) (by kernel_rfl)
theorem g_spec_GraphOk (n : Nat) (a0 : GGraph) (r : Bool) (h : T_spec_GraphOk n a0 = some r) : (mach cfg).call 9 [] [.val true [.int .i64 a0.N, .seq (eL e_GEdge a0.Edges)]] = some (.val false [.bool r], []) := by
  unfold T_spec_GraphOk at h
  by_cases c1 : a0.N < 0
  · rw [if_pos c1] at h
    obtain rfl := Option.some.inj h
    exact call_way cfg [(.ltI a0.N 0, .b true)] rfl fd_9 (by kernel_rfl) ⟨(A.ltI_t c1), trivial⟩
  · rw [if_neg c1] at h
    by_cases c2 : 20 < a0.N
    · rw [if_pos c2] at h
      obtain rfl := Option.some.inj h
      exact call_way cfg [(.ltI a0.N 0, .b false), (.ltI 20 a0.N, .b true)] rfl fd_9 (by kernel_rfl) ⟨(A.ltI_f c1), (A.ltI_t c2), trivial⟩
    · rw [if_neg c2] at h
      by_cases c3 : 400 < ((a0.Edges.length : Nat) : Int)
      · rw [if_pos c3] at h
        obtain rfl := Option.some.inj h
        exact call_way cfg [(.ltI a0.N 0, .b false), (.ltI 20 a0.N, .b false), (.len (eL e_GEdge a0.Edges), .i ((a0.Edges.length : Nat) : Int)), (.ltI 400 ((a0.Edges.length : Nat) : Int), .b true)] rfl fd_9 (by kernel_rfl) ⟨(A.ltI_f c1), (A.ltI_f c2), A.len, (A.ltI_t c3), trivial⟩
      · rw [if_neg c3] at h
        obtain ⟨o4, ho4, h⟩ := Option.bind_eq_some_iff.1 h
        rcases o4 with o4_0 | o4_1
        · try dsimp only at h
          obtain rfl := Option.some.inj h
          exact call_way cfg [(.ltI a0.N 0, .b false), (.ltI 20 a0.N, .b false), (.len (eL e_GEdge a0.Edges), .i ((a0.Edges.length : Nat) : Int)), (.ltI 400 ((a0.Edges.length : Nat) : Int), .b false), (.loop 9 (loopB Try.f9 0) ⟨[(1, .val false [.ptr 0 0]), (3, .val false [.int .i64 0])], [.var [.int .i64 a0.N, .seq (eL e_GEdge a0.Edges)]], 0⟩, .x (.ret) ⟨[(2, .val false [.bool o4_0])], [], 0⟩)] rfl fd_9 (by kernel_rfl) ⟨(A.ltI_f c1), (A.ltI_f c2), A.len, (A.ltI_f c3), (A.loop (gl_spec_GraphOk_l0 a0 _ 0 _ ho4)), trivial⟩
        · try dsimp only at h
          obtain rfl := Option.some.inj h
          exact call_way cfg [(.ltI a0.N 0, .b false), (.ltI 20 a0.N, .b false), (.len (eL e_GEdge a0.Edges), .i ((a0.Edges.length : Nat) : Int)), (.ltI 400 ((a0.Edges.length : Nat) : Int), .b false), (.loop 9 (loopB Try.f9 0) ⟨[(1, .val false [.ptr 0 0]), (3, .val false [.int .i64 0])], [.var [.int .i64 a0.N, .seq (eL e_GEdge a0.Edges)]], 0⟩, .x (.exit 0) ⟨[(1, .val false [.ptr 0 0]), (3, .val false [.int .i64 o4_1]), (23, .val false [.bool false])], [.var [.int .i64 a0.N, .seq (eL e_GEdge a0.Edges)]], 0⟩)] rfl fd_9 (by kernel_rfl) ⟨(A.ltI_f c1), (A.ltI_f c2), A.len, (A.ltI_f c3), (A.loop (gl_spec_GraphOk_l0 a0 _ 0 _ ho4)), trivial⟩

theorem specGraphOk_loop {g : GGraph} (ha : g.Edges.length ≤ 2 ^ 20) : ∀ (d i m : Nat), i + d = g.Edges.length → d < m → ∃ z, L_spec_GraphOk_l0 g m (i : Int) = some (if eAll (g.N - 1) g.Edges i d = true then .inr z else .inl false) := by
  intro d
  induction d with
  | zero =>
    intro i m hi hm
    obtain ⟨m, rfl, _⟩ := fuel hm
    exact ⟨_, by rw [L_spec_GraphOk_l0, if_neg (by omega)]; rfl⟩
  | succ d ih =>
    intro i m hi hm
    obtain ⟨m, rfl, hm'⟩ := fuel hm
    have hil : i < g.Edges.length := by omega
    rw [L_spec_GraphOk_l0, if_pos (by omega), natO_nat, Option.bind_some, get_some hil, Option.bind_some, eAll_succ]
    cases hb : eIn (g.N - 1) g.Edges[i] with
    | false =>
      have he : eOk (g.N - 1) g.Edges i = false := by
        unfold eOk; rw [get_some hil]; simp [hb]
      rw [he, Bool.false_and]
      have hn : ¬ (0 ≤ g.Edges[i].From ∧ g.Edges[i].From ≤ g.N - 1 ∧ 0 ≤ g.Edges[i].To ∧ g.Edges[i].To ≤ g.N - 1) := of_decide_eq_false hb
      refine ⟨0, ?_⟩
      rw [if_neg (show ¬ (false = true) by simp)]
      by_cases c1 : g.Edges[i].From < 0
      · rw [if_pos c1]
      · rw [if_neg c1]
        by_cases c2 : g.N ≤ g.Edges[i].From
        · rw [if_pos c2]
        · rw [if_neg c2]
          by_cases c3 : g.Edges[i].To < 0
          · rw [if_pos c3]
          · rw [if_neg c3, if_pos (by omega)]
    | true =>
      have hn : 0 ≤ g.Edges[i].From ∧ g.Edges[i].From ≤ g.N - 1 ∧ 0 ≤ g.Edges[i].To ∧ g.Edges[i].To ≤ g.N - 1 := of_decide_eq_true hb
      rw [if_neg (by omega), if_neg (by omega), if_neg (by omega), if_neg (by omega)]
      by_cases h0 : 0 < i
      · rw [if_pos (by omega), w64_pred (by omega) h0, natO_nat, Option.bind_some, get_some (show i - 1 < g.Edges.length by omega), Option.bind_some, eOk_eq hil h0, hb, Bool.true_and]
        have hl : S_spec_l9less (g.Edges[i - 1]'(by omega)) g.Edges[i] = some (eLess (g.Edges[i - 1]'(by omega)) g.Edges[i]) := by
          unfold S_spec_l9less eLess
          by_cases c1 : (g.Edges[i - 1]'(by omega)).From < g.Edges[i].From
          · rw [if_pos c1, decide_eq_true (.inl c1)]
          · rw [if_neg c1]
            by_cases c2 : (g.Edges[i - 1]'(by omega)).From = g.Edges[i].From
            · rw [if_pos c2]
              congr 1
              refine decide_eq_decide.2 ⟨fun h => .inr ⟨c2, h⟩, fun h => h.elim (fun h => (c1 h).elim) (·.2)⟩
            · rw [if_neg c2, decide_eq_false]
              rintro (h | h)
              · exact c1 h
              · exact c2 h.1
        rw [hl, Option.bind_some]
        cases eLess (g.Edges[i - 1]'(by omega)) g.Edges[i] with
        | true =>
          dsimp only
          rw [w64_succ (by omega), Bool.true_and]
          exact ih (i + 1) m (by omega) (by omega)
        | false => exact ⟨0, rfl⟩
      · obtain rfl : i = 0 := by omega
        rw [if_neg (by omega), eOk_zero hil, hb, Bool.true_and, w64_succ (by omega)]
        exact ih 1 m (by omega) (by omega)
def S_spec_GraphOk (a0 : GGraph) : Option Bool := if a0.Edges.length ≤ 2 ^ 20 then some (gok a0) else none
theorem spec_spec_GraphOk (a0 : GGraph) (r : Bool) (h : S_spec_GraphOk a0 = some r) : ∃ n, T_spec_GraphOk n a0 = some r := by
  unfold S_spec_GraphOk at h
  obtain ⟨ha, h⟩ := need_c h
  refine ⟨a0.Edges.length + 1, ?_⟩
  rw [← h]
  clear h
  obtain ⟨z, hz⟩ := specGraphOk_loop ha a0.Edges.length 0 (a0.Edges.length + 1) (by omega) (by omega)
  rw [show ((0 : Nat) : Int) = 0 from rfl] at hz
  unfold T_spec_GraphOk gok
  by_cases c : 0 ≤ a0.N ∧ a0.N ≤ 20 ∧ a0.Edges.length ≤ 400
  · rw [decide_eq_true c, if_neg (by omega), if_neg (by omega), if_neg (by omega), hz, Bool.true_and, Option.bind_some]
    cases eAll (a0.N - 1) a0.Edges 0 a0.Edges.length <;> rfl
  · rw [decide_eq_false c, Bool.false_and]
    by_cases c1 : a0.N < 0
    · rw [if_pos c1]
    · rw [if_neg c1]
      by_cases c2 : 20 < a0.N
      · rw [if_pos c2]
      · rw [if_neg c2, if_pos (by omega)]
theorem ok_spec_GraphOk (a0 : GGraph) (r : Bool) (h : S_spec_GraphOk a0 = some r) : (mach cfg).call 9 [] [.val true [.int .i64 a0.N, .seq (eL e_GEdge a0.Edges)]] = some (.val false [.bool r], []) := by
  obtain ⟨n, hn⟩ := spec_spec_GraphOk a0 r h
  exact g_spec_GraphOk n a0 r hn
def L_spec_l9reach_l0 (a1 : (List Int)) (a0 : GGraph) : Nat → Int → (List Bool) → Option (Int × (List Bool))
  | 0, _, _ => none
  | m + 1, v1, v3 =>
    if v1 < ((a1.length : Nat) : Int) then
      (natO v1).bind fun i2 =>
      (a1[i2]?).bind fun x3 =>
      (natO x3).bind fun i4 =>
      (v3[i4]?).bind fun x5 =>
      L_spec_l9reach_l0 a1 a0 m (w64 (v1 + 1)) (v3.set i4 true)
    else
      some (v1, v3)

theorem gl_spec_l9reach_l0 (a1 : (List Int)) (a0 : GGraph) (m : Nat) : ∀ (v1 : Int) (v3 : (List Bool)) (o : (Int × (List Bool))), L_spec_l9reach_l0 a1 a0 m v1 v3 = some o → (mach cfg).loop 73 (loopB Try.f73 0) ⟨[(1, .val false [.seq (eL e_int a1)]), (2, .val false [.ptr 0 0]), (5, .val false [.ref 1]), (6, .val false [.int .i64 v1])], [.var [.int .i64 a0.N, .seq (eL e_GEdge a0.Edges)], .obj 1 (eL e_bool v3)], 0⟩ = some (match o with | ⟨o_0, o_1⟩ => (.exit 0, (⟨[(1, .val false [.seq (eL e_int a1)]), (2, .val false [.ptr 0 0]), (5, .val false [.ref 1]), (6, .val false [.int .i64 o_0]), (17, .val false [.bool false])], [.var [.int .i64 a0.N, .seq (eL e_GEdge a0.Edges)], .obj 1 (eL e_bool o_1)], 0⟩ : S))) := by
  induction m with
  | zero => intro v1 v3 o h; cases h
  | succ m ih =>
    intro v1 v3 o h
    rw [L_spec_l9reach_l0] at h
    by_cases c1 : v1 < ((a1.length : Nat) : Int)
    · rw [if_pos c1] at h
      obtain ⟨i2, hi2, h⟩ := Option.bind_eq_some_iff.1 h
      obtain ⟨x3, hx3, h⟩ := Option.bind_eq_some_iff.1 h
      obtain ⟨i4, hi4, h⟩ := Option.bind_eq_some_iff.1 h
      obtain ⟨x5, hx5, h⟩ := Option.bind_eq_some_iff.1 h
      exact loop_on cfg [(.len (eL e_int a1), .i ((a1.length : Nat) : Int)), (.ltI v1 ((a1.length : Nat) : Int), .b true), (.nat v1, .n i2), (.idx (eL e_int a1) i2, .e [.int .i64 x3]), (.nat x3, .n i4), (.idx (eL e_bool v3) i4, .e [.bool x5]), (.idx (eL e_bool v3) i4, .e [.bool x5]), (.setL (eL e_bool v3) i4 [.bool true], .l (eL e_bool (v3.set i4 true))), (.add .i64 v1 1, .i (w64 (v1 + 1)))] (by kernel_rfl) ⟨A.len, (A.ltI_t c1), (A.nat hi2), (A.idx hx3 rfl), (A.nat hi4), (A.idx hx5 rfl), (A.idx hx5 rfl), (A.setL rfl), rfl, trivial⟩ (ih (w64 (v1 + 1)) (v3.set i4 true) o h)
    · rw [if_neg c1] at h
      obtain rfl := Option.some.inj h
      exact loop_end cfg [(.len (eL e_int a1), .i ((a1.length : Nat) : Int)), (.ltI v1 ((a1.length : Nat) : Int), .b false)] (by kernel_rfl) ⟨A.len, (A.ltI_f c1), trivial⟩ (by intro h; cases h)

def L_spec_l9reach_l2 (v0 : Int) (a0 : GGraph) : Nat → Int → (List Bool) → Option (Int × (List Bool))
  | 0, _, _ => none
  | m + 1, v1, v3 =>
    if v1 < ((a0.Edges.length : Nat) : Int) then
      (natO v1).bind fun i2 =>
      (a0.Edges[i2]?).bind fun x3 =>
      (natO x3.From).bind fun i4 =>
      (v3[i4]?).bind fun x5 =>
      match x5 with
      | true =>
        (natO x3.To).bind fun i7 =>
        (v3[i7]?).bind fun x8 =>
        L_spec_l9reach_l2 v0 a0 m (w64 (v1 + 1)) (v3.set i7 true)
      | false =>
        L_spec_l9reach_l2 v0 a0 m (w64 (v1 + 1)) v3
    else
      some (v1, v3)

theorem gl_spec_l9reach_l2 (v0 : Int) (a0 : GGraph) (m : Nat) : ∀ (v1 : Int) (v3 : (List Bool)) (o : (Int × (List Bool))), L_spec_l9reach_l2 v0 a0 m v1 v3 = some o → (mach cfg).loop 73 (loopB Try.f73 2) ⟨[(2, .val false [.ptr 0 0]), (5, .val false [.ref 1]), (7, .val false [.int .i64 v0]), (8, .val false [.int .i64 v1])], [.var [.int .i64 a0.N, .seq (eL e_GEdge a0.Edges)], .obj 1 (eL e_bool v3)], 0⟩ = some (match o with | ⟨o_0, o_1⟩ => (.exit 4, (⟨[(2, .val false [.ptr 0 0]), (5, .val false [.ref 1]), (7, .val false [.int .i64 v0]), (8, .val false [.int .i64 o_0]), (36, .val false [.bool false])], [.var [.int .i64 a0.N, .seq (eL e_GEdge a0.Edges)], .obj 1 (eL e_bool o_1)], 0⟩ : S))) := by
  induction m with
  | zero => intro v1 v3 o h; cases h
  | succ m ih =>
    intro v1 v3 o h
    rw [L_spec_l9reach_l2] at h
    by_cases c1 : v1 < ((a0.Edges.length : Nat) : Int)
    · rw [if_pos c1] at h
      obtain ⟨i2, hi2, h⟩ := Option.bind_eq_some_iff.1 h
      obtain ⟨x3, hx3, h⟩ := Option.bind_eq_some_iff.1 h
      obtain ⟨i4, hi4, h⟩ := Option.bind_eq_some_iff.1 h
      obtain ⟨x5, hx5, h⟩ := Option.bind_eq_some_iff.1 h
      cases x5 with
      | true =>
        try dsimp only at h
        obtain ⟨i7, hi7, h⟩ := Option.bind_eq_some_iff.1 h
        obtain ⟨x8, hx8, h⟩ := Option.bind_eq_some_iff.1 h
        exact loop_on cfg [(.len (eL e_GEdge a0.Edges), .i ((a0.Edges.length : Nat) : Int)), (.ltI v1 ((a0.Edges.length : Nat) : Int), .b true), (.nat v1, .n i2), (.idx (eL e_GEdge a0.Edges) i2, .e [.int .i64 x3.From, .int .i64 x3.To]), (.nat x3.From, .n i4), (.idx (eL e_bool v3) i4, .e [.bool true]), (.idx (eL e_bool v3) i4, .e [.bool true]), (.nat v1, .n i2), (.idx (eL e_GEdge a0.Edges) i2, .e [.int .i64 x3.From, .int .i64 x3.To]), (.nat x3.To, .n i7), (.idx (eL e_bool v3) i7, .e [.bool x8]), (.idx (eL e_bool v3) i7, .e [.bool x8]), (.setL (eL e_bool v3) i7 [.bool true], .l (eL e_bool (v3.set i7 true))), (.add .i64 v1 1, .i (w64 (v1 + 1)))] (by kernel_rfl) ⟨A.len, (A.ltI_t c1), (A.nat hi2), (A.idx hx3 (eq_GEdge x3)), (A.nat hi4), (A.idx hx5 rfl), (A.idx hx5 rfl), (A.nat hi2), (A.idx hx3 (eq_GEdge x3)), (A.nat hi7), (A.idx hx8 rfl), (A.idx hx8 rfl), (A.setL rfl), rfl, trivial⟩ (ih (w64 (v1 + 1)) (v3.set i7 true) o h)
      | false =>
        try dsimp only at h
        exact loop_on cfg [(.len (eL e_GEdge a0.Edges), .i ((a0.Edges.length : Nat) : Int)), (.ltI v1 ((a0.Edges.length : Nat) : Int), .b true), (.nat v1, .n i2), (.idx (eL e_GEdge a0.Edges) i2, .e [.int .i64 x3.From, .int .i64 x3.To]), (.nat x3.From, .n i4), (.idx (eL e_bool v3) i4, .e [.bool false]), (.idx (eL e_bool v3) i4, .e [.bool false]), (.add .i64 v1 1, .i (w64 (v1 + 1)))] (by kernel_rfl) ⟨A.len, (A.ltI_t c1), (A.nat hi2), (A.idx hx3 (eq_GEdge x3)), (A.nat hi4), (A.idx hx5 rfl), (A.idx hx5 rfl), rfl, trivial⟩ (ih (w64 (v1 + 1)) v3 o h)
    · rw [if_neg c1] at h
      obtain rfl := Option.some.inj h
      exact loop_end cfg [(.len (eL e_GEdge a0.Edges), .i ((a0.Edges.length : Nat) : Int)), (.ltI v1 ((a0.Edges.length : Nat) : Int), .b false)] (by kernel_rfl) ⟨A.len, (A.ltI_f c1), trivial⟩ (by intro h; cases h)

def L_spec_l9reach_l1 (n : Nat) (a0 : GGraph) : Nat → Int → (List Bool) → Option (Int × (List Bool))
  | 0, _, _ => none
  | m + 1, v0, v2 =>
    if v0 < a0.N then
      (L_spec_l9reach_l2 v0 a0 n 0 v2).bind fun ⟨o2_0, o2_1⟩ =>
      L_spec_l9reach_l1 n a0 m (w64 (v0 + 1)) o2_1
    else
      some (v0, v2)

theorem gl_spec_l9reach_l1 (n : Nat) (a0 : GGraph) (m : Nat) : ∀ (v0 : Int) (v2 : (List Bool)) (o : (Int × (List Bool))), L_spec_l9reach_l1 n a0 m v0 v2 = some o → (mach cfg).loop 73 (loopB Try.f73 1) ⟨[(2, .val false [.ptr 0 0]), (5, .val false [.ref 1]), (7, .val false [.int .i64 v0])], [.var [.int .i64 a0.N, .seq (eL e_GEdge a0.Edges)], .obj 1 (eL e_bool v2)], 0⟩ = some (match o with | ⟨o_0, o_1⟩ => (.exit 2, (⟨[(2, .val false [.ptr 0 0]), (5, .val false [.ref 1]), (7, .val false [.int .i64 o_0]), (29, .val false [.bool false])], [.var [.int .i64 a0.N, .seq (eL e_GEdge a0.Edges)], .obj 1 (eL e_bool o_1)], 0⟩ : S))) := by
  induction m with
  | zero => intro v0 v2 o h; cases h
  | succ m ih =>
    intro v0 v2 o h
    rw [L_spec_l9reach_l1] at h
    by_cases c1 : v0 < a0.N
    · rw [if_pos c1] at h
      obtain ⟨⟨o2_0, o2_1⟩, ho2, h⟩ := Option.bind_eq_some_iff.1 h
      try dsimp only at h
      exact loop_on cfg [(.ltI v0 a0.N, .b true), (.loop 73 (loopB Try.f73 2) ⟨[(2, .val false [.ptr 0 0]), (5, .val false [.ref 1]), (7, .val false [.int .i64 v0]), (8, .val false [.int .i64 0])], [.var [.int .i64 a0.N, .seq (eL e_GEdge a0.Edges)], .obj 1 (eL e_bool v2)], 0⟩, .x (.exit 4) ⟨[(2, .val false [.ptr 0 0]), (5, .val false [.ref 1]), (7, .val false [.int .i64 v0]), (8, .val false [.int .i64 o2_0]), (36, .val false [.bool false])], [.var [.int .i64 a0.N, .seq (eL e_GEdge a0.Edges)], .obj 1 (eL e_bool o2_1)], 0⟩), (.add .i64 v0 1, .i (w64 (v0 + 1)))] (by kernel_rfl) ⟨(A.ltI_t c1), (A.loop (gl_spec_l9reach_l2 v0 a0 _ 0 v2 _ ho2)), rfl, trivial⟩ (ih (w64 (v0 + 1)) o2_1 o h)
    · rw [if_neg c1] at h
      obtain rfl := Option.some.inj h
      exact loop_end cfg [(.ltI v0 a0.N, .b false)] (by kernel_rfl) ⟨(A.ltI_f c1), trivial⟩ (by intro h; cases h)

def L_spec_l9reach_l3 (a0 : GGraph) (v2 : (List Bool)) : Nat → Int → (List Int) → Option (Int × (List Int))
  | 0, _, _ => none
  | m + 1, v0, v3 =>
    if v0 < a0.N then
      (natO v0).bind fun i2 =>
      (v2[i2]?).bind fun x3 =>
      match x3 with
      | true =>
        if roomP 8 (v3.length + [v0].length) then
        L_spec_l9reach_l3 a0 v2 m (w64 (v0 + 1)) (v3 ++ [v0])
        else none
      | false =>
        L_spec_l9reach_l3 a0 v2 m (w64 (v0 + 1)) v3
    else
      some (v0, v3)

theorem gl_spec_l9reach_l3 (a0 : GGraph) (v2 : (List Bool)) (m : Nat) : ∀ (v0 : Int) (v3 : (List Int)) (o : (Int × (List Int))), L_spec_l9reach_l3 a0 v2 m v0 v3 = some o → (mach cfg).loop 73 (loopB Try.f73 3) ⟨[(2, .val false [.ptr 0 0]), (5, .val false [.ref 1]), (9, .val false [.ref 2]), (10, .val false [.int .i64 v0])], [.var [.int .i64 a0.N, .seq (eL e_GEdge a0.Edges)], .obj 1 (eL e_bool v2), .obj 1 (eL e_int v3)], 0⟩ = some (match o with | ⟨o_0, o_1⟩ => (.exit 6, (⟨[(2, .val false [.ptr 0 0]), (5, .val false [.ref 1]), (9, .val false [.ref 2]), (10, .val false [.int .i64 o_0]), (59, .val false [.bool false])], [.var [.int .i64 a0.N, .seq (eL e_GEdge a0.Edges)], .obj 1 (eL e_bool v2), .obj 1 (eL e_int o_1)], 0⟩ : S))) := by
  induction m with
  | zero => intro v0 v3 o h; cases h
  | succ m ih =>
    intro v0 v3 o h
    rw [L_spec_l9reach_l3] at h
    by_cases c1 : v0 < a0.N
    · rw [if_pos c1] at h
      obtain ⟨i2, hi2, h⟩ := Option.bind_eq_some_iff.1 h
      obtain ⟨x3, hx3, h⟩ := Option.bind_eq_some_iff.1 h
      cases x3 with
      | true =>
        try dsimp only at h
        obtain ⟨n5, h⟩ := need_some h
        exact loop_on cfg [(.ltI v0 a0.N, .b true), (.nat v0, .n i2), (.idx (eL e_bool v2) i2, .e [.bool true]), (.idx (eL e_bool v2) i2, .e [.bool true]), (.pl (eL e_int [v0]), .b true), (.room 8 (eL e_int v3) (eL e_int [v0]), .b true), (.uni 1 (eL e_int [v0]), .b true), (.app (eL e_int v3) (eL e_int [v0]), .l (eL e_int (v3 ++ [v0]))), (.add .i64 v0 1, .i (w64 (v0 + 1)))] (by kernel_rfl) ⟨(A.ltI_t c1), (A.nat hi2), (A.idx hx3 rfl), (A.idx hx3 rfl), (A.pl E_int), (A.room n5), (A.uni E_int), A.app, rfl, trivial⟩ (ih (w64 (v0 + 1)) (v3 ++ [v0]) o h)
      | false =>
        try dsimp only at h
        exact loop_on cfg [(.ltI v0 a0.N, .b true), (.nat v0, .n i2), (.idx (eL e_bool v2) i2, .e [.bool false]), (.idx (eL e_bool v2) i2, .e [.bool false]), (.add .i64 v0 1, .i (w64 (v0 + 1)))] (by kernel_rfl) ⟨(A.ltI_t c1), (A.nat hi2), (A.idx hx3 rfl), (A.idx hx3 rfl), rfl, trivial⟩ (ih (w64 (v0 + 1)) v3 o h)
    · rw [if_neg c1] at h
      obtain rfl := Option.some.inj h
      exact loop_end cfg [(.ltI v0 a0.N, .b false)] (by kernel_rfl) ⟨(A.ltI_f c1), trivial⟩ (by intro h; cases h)

def T_spec_l9reach (n : Nat) (a0 : GGraph) (a1 : (List Int)) : Option (List Int) :=
  (madeO 1 a0.N).bind fun k1 =>
  (L_spec_l9reach_l0 a1 a0 n 0 (List.replicate k1 false)).bind fun ⟨o2_0, o2_1⟩ =>
  (L_spec_l9reach_l1 n a0 n 0 o2_1).bind fun ⟨o3_0, o3_1⟩ =>
  (L_spec_l9reach_l3 a0 o3_1 n 0 []).bind fun ⟨o4_0, o4_1⟩ =>
  some o4_1

set_option maxRecDepth 100000 in
theorem fd_73 : cfg.funcs 73 = some (bodyOf Try.f73, Try.f73.ntmps, Try.f73.results.toList) := fn_of Try.func73 (by kernel_rfl) (by kernel_rfl)
theorem g_spec_l9reach (n : Nat) (a0 : GGraph) (a1 : (List Int)) (r : (List Int)) (h : T_spec_l9reach n a0 a1 = some r) : (mach cfg).call 73 [] [.val true [.int .i64 a0.N, .seq (eL e_GEdge a0.Edges)], .val false [.seq (eL e_int a1)]] = some (.val false [.seq (eL e_int r)], []) := by
  unfold T_spec_l9reach at h
  obtain ⟨k1, hk1, h⟩ := Option.bind_eq_some_iff.1 h
  obtain ⟨⟨o2_0, o2_1⟩, ho2, h⟩ := Option.bind_eq_some_iff.1 h
  try dsimp only at h
  obtain ⟨⟨o3_0, o3_1⟩, ho3, h⟩ := Option.bind_eq_some_iff.1 h
  try dsimp only at h
  obtain ⟨⟨o4_0, o4_1⟩, ho4, h⟩ := Option.bind_eq_some_iff.1 h
  try dsimp only at h
  obtain rfl := Option.some.inj h
  exact (call_way cfg (r := (.val false [.seq (viewL (eL e_int o4_1))], [])) [(.eqI a0.N a0.N, .b true), (.made 1 a0.N, .n k1), (.rep k1 [.bool false], .l (eL e_bool (List.replicate k1 false))), (.loop 73 (loopB Try.f73 0) ⟨[(1, .val false [.seq (eL e_int a1)]), (2, .val false [.ptr 0 0]), (5, .val false [.ref 1]), (6, .val false [.int .i64 0])], [.var [.int .i64 a0.N, .seq (eL e_GEdge a0.Edges)], .obj 1 (eL e_bool (List.replicate k1 false))], 0⟩, .x (.exit 0) ⟨[(1, .val false [.seq (eL e_int a1)]), (2, .val false [.ptr 0 0]), (5, .val false [.ref 1]), (6, .val false [.int .i64 o2_0]), (17, .val false [.bool false])], [.var [.int .i64 a0.N, .seq (eL e_GEdge a0.Edges)], .obj 1 (eL e_bool o2_1)], 0⟩), (.loop 73 (loopB Try.f73 1) ⟨[(2, .val false [.ptr 0 0]), (5, .val false [.ref 1]), (7, .val false [.int .i64 0])], [.var [.int .i64 a0.N, .seq (eL e_GEdge a0.Edges)], .obj 1 (eL e_bool o2_1)], 0⟩, .x (.exit 2) ⟨[(2, .val false [.ptr 0 0]), (5, .val false [.ref 1]), (7, .val false [.int .i64 o3_0]), (29, .val false [.bool false])], [.var [.int .i64 a0.N, .seq (eL e_GEdge a0.Edges)], .obj 1 (eL e_bool o3_1)], 0⟩), (.loop 73 (loopB Try.f73 3) ⟨[(2, .val false [.ptr 0 0]), (5, .val false [.ref 1]), (9, .val false [.ref 2]), (10, .val false [.int .i64 0])], [.var [.int .i64 a0.N, .seq (eL e_GEdge a0.Edges)], .obj 1 (eL e_bool o3_1), .obj 1 (eL e_int [])], 0⟩, .x (.exit 6) ⟨[(2, .val false [.ptr 0 0]), (5, .val false [.ref 1]), (9, .val false [.ref 2]), (10, .val false [.int .i64 o4_0]), (59, .val false [.bool false])], [.var [.int .i64 a0.N, .seq (eL e_GEdge a0.Edges)], .obj 1 (eL e_bool o3_1), .obj 1 (eL e_int o4_1)], 0⟩)] rfl fd_73 (by kernel_rfl) ⟨(A.eqI_t rfl), (A.made hk1), (A.rep rfl), (A.loop (gl_spec_l9reach_l0 a1 a0 _ 0 (List.replicate k1 false) _ ho2)), (A.loop (gl_spec_l9reach_l1 n a0 _ 0 o2_1 _ ho3)), (A.loop (gl_spec_l9reach_l3 a0 o3_1 _ 0 [] _ ho4)), trivial⟩).trans (by simp only [viewL_eL E_int])

def iniP (l : List Int) : Nat → Bool := fun j => l.any fun x => decide (x = (j : Int))
/-- One round over all edges. -/
def rnd : List GEdge → (Nat → Bool) → (Nat → Bool)
  | [], p => p
  | e :: l, p => rnd l (if p e.From.toNat = true then updA p e.To.toNat true else p)
def rnds (E : List GEdge) : Nat → (Nat → Bool) → (Nat → Bool)
  | 0, p => p
  | d + 1, p => rnds E d (rnd E p)
theorem reach_l0 {a1 : List Int} {g : GGraph} {k : Nat} (ha : a1.length ≤ 2 ^ 20) (hb : ∀ x ∈ a1, 0 ≤ x ∧ x < k) : ∀ (d i m : Nat) (p : Nat → Bool), i + d = a1.length → d < m → ∃ z, L_spec_l9reach_l0 a1 g m (i : Int) (mkL k p) = some (z, mkL k fun j => p j || iniP (a1.drop i) j) := by
  intro d
  induction d with
  | zero =>
    intro i m p hi hm
    obtain ⟨m, rfl, _⟩ := fuel hm
    refine ⟨_, by rw [L_spec_l9reach_l0, if_neg (by omega), List.drop_eq_nil_of_le (by omega)]; simp [iniP]; rfl⟩
  | succ d ih =>
    intro i m p hi hm
    obtain ⟨m, rfl, hm'⟩ := fuel hm
    have hil : i < a1.length := by omega
    have hx := hb _ (List.getElem_mem hil)
    rw [L_spec_l9reach_l0, if_pos (by omega), natO_nat, Option.bind_some, get_some hil, Option.bind_some, natO_pos hx.1, Option.bind_some, mkL_get (by omega), Option.bind_some, w64_succ (by omega), mkL_set]
    obtain ⟨z, hz⟩ := ih (i + 1) m (updA p a1[i].toNat true) (by omega) (by omega)
    refine ⟨z, ?_⟩
    rw [hz]
    congr 3
    funext j
    rw [drop_cons hil]
    unfold iniP updA
    rw [List.any_cons]
    by_cases hj : j = a1[i].toNat
    · rw [if_pos hj, decide_eq_true (by omega)]; simp
    · rw [if_neg hj, decide_eq_false (by omega), Bool.false_or]
theorem reach_l2 {g : GGraph} {k : Nat} {v0 : Int} (ha : g.Edges.length ≤ 2 ^ 20) (hE : GB k g.Edges) : ∀ (d i m : Nat) (p : Nat → Bool), i + d = g.Edges.length → d < m → ∃ z, L_spec_l9reach_l2 v0 g m (i : Int) (mkL k p) = some (z, mkL k (rnd (g.Edges.drop i) p)) := by
  intro d
  induction d with
  | zero =>
    intro i m p hi hm
    obtain ⟨m, rfl, _⟩ := fuel hm
    exact ⟨_, by rw [L_spec_l9reach_l2, if_neg (by omega), List.drop_eq_nil_of_le (by omega)]; rfl⟩
  | succ d ih =>
    intro i m p hi hm
    obtain ⟨m, rfl, hm'⟩ := fuel hm
    have hil : i < g.Edges.length := by omega
    have hx := hE _ (List.getElem_mem hil)
    rw [L_spec_l9reach_l2, if_pos (by omega), natO_nat, Option.bind_some, get_some hil, Option.bind_some, natO_pos hx.1, Option.bind_some, mkL_get (by omega), Option.bind_some, w64_succ (by omega), drop_cons hil, rnd]
    cases hp : p g.Edges[i].From.toNat with
    | true =>
      dsimp only
      rw [natO_pos hx.2.2.1, Option.bind_some, mkL_get (by omega), Option.bind_some, mkL_set, if_pos rfl]
      exact ih (i + 1) m _ (by omega) (by omega)
    | false =>
      dsimp only
      rw [if_neg (by simp)]
      exact ih (i + 1) m _ (by omega) (by omega)
theorem reach_l1 {g : GGraph} {k n : Nat} (hN : g.N = k) (hk : k ≤ 20) (ha : g.Edges.length ≤ 2 ^ 20) (hn : g.Edges.length < n) (hE : GB k g.Edges) : ∀ (d i m : Nat) (p : Nat → Bool), i + d = k → d < m → ∃ z, L_spec_l9reach_l1 n g m (i : Int) (mkL k p) = some (z, mkL k (rnds g.Edges d p)) := by
  intro d
  induction d with
  | zero =>
    intro i m p hi hm
    obtain ⟨m, rfl, _⟩ := fuel hm
    exact ⟨_, by rw [L_spec_l9reach_l1, if_neg (by omega)]; rfl⟩
  | succ d ih =>
    intro i m p hi hm
    obtain ⟨m, rfl, hm'⟩ := fuel hm
    obtain ⟨z, hz⟩ := reach_l2 (v0 := i) ha hE g.Edges.length 0 n p (by omega) hn
    rw [show ((0 : Nat) : Int) = 0 from rfl, List.drop_zero] at hz
    rw [L_spec_l9reach_l1, if_pos (by omega), hz, Option.bind_some, w64_succ (by omega)]
    exact ih (i + 1) m _ (by omega) (by omega)
def selP (i d : Nat) (p : Nat → Bool) : List Int := ((List.range' i d).filter p).map fun j => ((j : Nat) : Int)
theorem reach_l3 {g : GGraph} {k : Nat} (hN : g.N = k) (hk : k ≤ 20) {p : Nat → Bool} : ∀ (d i m : Nat) (acc : List Int), i + d = k → d < m → acc.length ≤ i → ∃ z, L_spec_l9reach_l3 g (mkL k p) m (i : Int) acc = some (z, acc ++ selP i d p) := by
  intro d
  induction d with
  | zero =>
    intro i m acc hi hm hacc
    obtain ⟨m, rfl, _⟩ := fuel hm
    exact ⟨_, by rw [L_spec_l9reach_l3, if_neg (by omega)]; simp [selP]; rfl⟩
  | succ d ih =>
    intro i m acc hi hm hacc
    obtain ⟨m, rfl, hm'⟩ := fuel hm
    rw [L_spec_l9reach_l3, if_pos (by omega), natO_nat, Option.bind_some, mkL_get (by omega), Option.bind_some, w64_succ (by omega)]
    unfold selP
    rw [List.range'_succ, List.filter_cons]
    cases hp : p i with
    | true =>
      dsimp only
      rw [if_pos (show roomP 8 (acc.length + [(i : Int)].length) from ⟨by simp [maxBytes]; omega, by simp; omega⟩)]
      obtain ⟨z, hz⟩ := ih (i + 1) m (acc ++ [(i : Int)]) (by omega) (by omega) (by simp; omega)
      refine ⟨z, ?_⟩
      rw [hz, if_pos rfl]
      simp [selP]
    | false =>
      dsimp only
      obtain ⟨z, hz⟩ := ih (i + 1) m acc (by omega) (by omega) (by omega)
      refine ⟨z, ?_⟩
      rw [hz, if_neg (by simp)]
      rfl
/-- What is asked of a graph and of those to begin with. -/
def rchC (g : GGraph) (l : List Int) : Prop := 0 ≤ g.N ∧ g.N ≤ 20 ∧ g.Edges.length ≤ 2 ^ 20 ∧ l.length ≤ 2 ^ 20 ∧ GB g.N g.Edges ∧ ∀ x ∈ l, 0 ≤ x ∧ x < g.N
open Classical in
noncomputable def S_spec_l9reach (a0 : GGraph) (a1 : (List Int)) : Option (List Int) := if rchC a0 a1 then some (selP 0 a0.N.toNat (rnds a0.Edges a0.N.toNat (iniP a1))) else none
theorem spec_spec_l9reach (a0 : GGraph) (a1 : (List Int)) (r : (List Int)) (h : S_spec_l9reach a0 a1 = some r) : ∃ n, T_spec_l9reach n a0 a1 = some r := by
  unfold S_spec_l9reach at h
  obtain ⟨⟨h1, h2, h3, h4, h5, h6⟩, h⟩ := need_c h
  obtain ⟨k, hk⟩ : ∃ k : Nat, a0.N = k := ⟨a0.N.toNat, by omega⟩
  have hk20 : k ≤ 20 := by omega
  rw [hk] at h5 h6 h
  rw [Int.toNat_natCast] at h
  refine ⟨a0.Edges.length + a1.length + 21, ?_⟩
  unfold T_spec_l9reach
  rw [hk, made_ok (by omega) (by decide), Option.bind_some, mkL_rep]
  obtain ⟨z0, e0⟩ := reach_l0 (g := a0) h4 h6 a1.length 0 (a0.Edges.length + a1.length + 21) (fun _ => false) (by omega) (by omega)
  obtain ⟨z1, e1⟩ := reach_l1 hk hk20 h3 (n := a0.Edges.length + a1.length + 21) (by omega) h5 k 0 (a0.Edges.length + a1.length + 21) (iniP a1) (by omega) (by omega)
  obtain ⟨z3, e3⟩ := reach_l3 hk hk20 (p := rnds a0.Edges k (iniP a1)) k 0 (a0.Edges.length + a1.length + 21) [] (by omega) (by omega) (by simp)
  rw [show ((0 : Nat) : Int) = 0 from rfl] at e0 e1 e3
  simp only [List.drop_zero, Bool.false_or] at e0
  have e0' : (fun j => iniP a1 j) = iniP a1 := rfl
  rw [e0, Option.bind_some]
  dsimp only
  rw [e1, Option.bind_some]
  dsimp only
  rw [e3, Option.bind_some]
  dsimp only
  rw [List.nil_append]
  exact h
theorem ok_spec_l9reach (a0 : GGraph) (a1 : (List Int)) (r : (List Int)) (h : S_spec_l9reach a0 a1 = some r) : (mach cfg).call 73 [] [.val true [.int .i64 a0.N, .seq (eL e_GEdge a0.Edges)], .val false [.seq (eL e_int a1)]] = some (.val false [.seq (eL e_int r)], []) := by
  obtain ⟨n, hn⟩ := spec_spec_l9reach a0 a1 r h
  exact g_spec_l9reach n a0 a1 r hn
def L_spec_l9leads_l0 (a1 : Int) (a2 : Int) (a3 : Int) (a0 : GGraph) (v5 : Int) : Nat → Int → (List Int) → (List GEdge) → Option (Int × (List Int) × (List GEdge))
  | 0, _, _, _ => none
  | m + 1, v3, v6, v7 =>
    if v3 < ((a0.Edges.length : Nat) : Int) then
      if v3 = a3 then
        L_spec_l9leads_l0 a1 a2 a3 a0 v5 m (w64 (v3 + 1)) v6 v7
      else
        (natO v3).bind fun i3 =>
        (a0.Edges[i3]?).bind fun x4 =>
        if roomP 16 (v7.length + [x4].length) then
        if x4.From = a1 then
          if roomP 8 (v6.length + [x4.To].length) then
          L_spec_l9leads_l0 a1 a2 a3 a0 v5 m (w64 (v3 + 1)) (v6 ++ [x4.To]) (v7 ++ [x4])
          else none
        else
          L_spec_l9leads_l0 a1 a2 a3 a0 v5 m (w64 (v3 + 1)) v6 (v7 ++ [x4])
        else none
    else
      some (v3, v6, v7)

theorem gl_spec_l9leads_l0 (a1 : Int) (a2 : Int) (a3 : Int) (a0 : GGraph) (v5 : Int) (m : Nat) : ∀ (v3 : Int) (v6 : (List Int)) (v7 : (List GEdge)) (o : (Int × (List Int) × (List GEdge))), L_spec_l9leads_l0 a1 a2 a3 a0 v5 m v3 v6 v7 = some o → (mach cfg).loop 37 (loopB Try.f37 0) ⟨[(1, .val false [.int .i64 a1]), (2, .val false [.int .i64 a2]), (3, .val false [.int .i64 a3]), (4, .val false [.ptr 0 0]), (9, .val false [.ptr 1 0]), (10, .val false [.ref 2]), (11, .val false [.int .i64 v3])], [.var [.int .i64 a0.N, .seq (eL e_GEdge a0.Edges)], .var [.int .i64 v5, .ref 3], .obj 1 (eL e_int v6), .obj 2 (eL e_GEdge v7)], 0⟩ = some (match o with | ⟨o_0, o_1, o_2⟩ => (.exit 0, (⟨[(1, .val false [.int .i64 a1]), (2, .val false [.int .i64 a2]), (3, .val false [.int .i64 a3]), (4, .val false [.ptr 0 0]), (9, .val false [.ptr 1 0]), (10, .val false [.ref 2]), (11, .val false [.int .i64 o_0]), (21, .val false [.bool false])], [.var [.int .i64 a0.N, .seq (eL e_GEdge a0.Edges)], .var [.int .i64 v5, .ref 3], .obj 1 (eL e_int o_1), .obj 2 (eL e_GEdge o_2)], 0⟩ : S))) := by
  induction m with
  | zero => intro v3 v6 v7 o h; cases h
  | succ m ih =>
    intro v3 v6 v7 o h
    rw [L_spec_l9leads_l0] at h
    by_cases c1 : v3 < ((a0.Edges.length : Nat) : Int)
    · rw [if_pos c1] at h
      by_cases c2 : v3 = a3
      · rw [if_pos c2] at h
        exact loop_on cfg [(.len (eL e_GEdge a0.Edges), .i ((a0.Edges.length : Nat) : Int)), (.ltI v3 ((a0.Edges.length : Nat) : Int), .b true), (.eqI v3 a3, .b true), (.add .i64 v3 1, .i (w64 (v3 + 1)))] (by kernel_rfl) ⟨A.len, (A.ltI_t c1), (A.eqI_t c2), rfl, trivial⟩ (ih (w64 (v3 + 1)) v6 v7 o h)
      · rw [if_neg c2] at h
        obtain ⟨i3, hi3, h⟩ := Option.bind_eq_some_iff.1 h
        obtain ⟨x4, hx4, h⟩ := Option.bind_eq_some_iff.1 h
        obtain ⟨n5, h⟩ := need_some h
        by_cases c6 : x4.From = a1
        · rw [if_pos c6] at h
          obtain ⟨n7, h⟩ := need_some h
          exact loop_on cfg [(.len (eL e_GEdge a0.Edges), .i ((a0.Edges.length : Nat) : Int)), (.ltI v3 ((a0.Edges.length : Nat) : Int), .b true), (.eqI v3 a3, .b false), (.nat v3, .n i3), (.idx (eL e_GEdge a0.Edges) i3, .e [.int .i64 x4.From, .int .i64 x4.To]), (.pl (eL e_GEdge [x4]), .b true), (.room 16 (eL e_GEdge v7) (eL e_GEdge [x4]), .b true), (.uni 2 (eL e_GEdge [x4]), .b true), (.app (eL e_GEdge v7) (eL e_GEdge [x4]), .l (eL e_GEdge (v7 ++ [x4]))), (.nat v3, .n i3), (.idx (eL e_GEdge a0.Edges) i3, .e [.int .i64 x4.From, .int .i64 x4.To]), (.eqI x4.From a1, .b true), (.nat v3, .n i3), (.idx (eL e_GEdge a0.Edges) i3, .e [.int .i64 x4.From, .int .i64 x4.To]), (.pl (eL e_int [x4.To]), .b true), (.room 8 (eL e_int v6) (eL e_int [x4.To]), .b true), (.uni 1 (eL e_int [x4.To]), .b true), (.app (eL e_int v6) (eL e_int [x4.To]), .l (eL e_int (v6 ++ [x4.To]))), (.add .i64 v3 1, .i (w64 (v3 + 1)))] (by kernel_rfl) ⟨A.len, (A.ltI_t c1), (A.eqI_f c2), (A.nat hi3), (A.idx hx4 (eq_GEdge x4)), (A.pl E_GEdge), (A.room n5), (A.uni E_GEdge), A.app, (A.nat hi3), (A.idx hx4 (eq_GEdge x4)), (A.eqI_t c6), (A.nat hi3), (A.idx hx4 (eq_GEdge x4)), (A.pl E_int), (A.room n7), (A.uni E_int), A.app, rfl, trivial⟩ (ih (w64 (v3 + 1)) (v6 ++ [x4.To]) (v7 ++ [x4]) o h)
        · rw [if_neg c6] at h
          exact loop_on cfg [(.len (eL e_GEdge a0.Edges), .i ((a0.Edges.length : Nat) : Int)), (.ltI v3 ((a0.Edges.length : Nat) : Int), .b true), (.eqI v3 a3, .b false), (.nat v3, .n i3), (.idx (eL e_GEdge a0.Edges) i3, .e [.int .i64 x4.From, .int .i64 x4.To]), (.pl (eL e_GEdge [x4]), .b true), (.room 16 (eL e_GEdge v7) (eL e_GEdge [x4]), .b true), (.uni 2 (eL e_GEdge [x4]), .b true), (.app (eL e_GEdge v7) (eL e_GEdge [x4]), .l (eL e_GEdge (v7 ++ [x4]))), (.nat v3, .n i3), (.idx (eL e_GEdge a0.Edges) i3, .e [.int .i64 x4.From, .int .i64 x4.To]), (.eqI x4.From a1, .b false), (.add .i64 v3 1, .i (w64 (v3 + 1)))] (by kernel_rfl) ⟨A.len, (A.ltI_t c1), (A.eqI_f c2), (A.nat hi3), (A.idx hx4 (eq_GEdge x4)), (A.pl E_GEdge), (A.room n5), (A.uni E_GEdge), A.app, (A.nat hi3), (A.idx hx4 (eq_GEdge x4)), (A.eqI_f c6), rfl, trivial⟩ (ih (w64 (v3 + 1)) v6 (v7 ++ [x4]) o h)
    · rw [if_neg c1] at h
      obtain rfl := Option.some.inj h
      exact loop_end cfg [(.len (eL e_GEdge a0.Edges), .i ((a0.Edges.length : Nat) : Int)), (.ltI v3 ((a0.Edges.length : Nat) : Int), .b false)] (by kernel_rfl) ⟨A.len, (A.ltI_f c1), trivial⟩ (by intro h; cases h)

def L_spec_l9leads_l1 (a2 : Int) (v1 : (List Int)) : Nat → Int → Option (Bool ⊕ Int)
  | 0, _ => none
  | m + 1, v2 =>
    if v2 < ((v1.length : Nat) : Int) then
      (natO v2).bind fun i2 =>
      (v1[i2]?).bind fun x3 =>
      if x3 = a2 then
        some (.inl true)
      else
        L_spec_l9leads_l1 a2 v1 m (w64 (v2 + 1))
    else
      some (.inr v2)

theorem gl_spec_l9leads_l1 (a2 : Int) (v1 : (List Int)) (m : Nat) : ∀ (v2 : Int) (o : (Bool ⊕ Int)), L_spec_l9leads_l1 a2 v1 m v2 = some o → (mach cfg).loop 37 (loopB Try.f37 1) ⟨[(2, .val false [.int .i64 a2]), (12, .val false [.seq (eL e_int v1)]), (13, .val false [.int .i64 v2])], [], 0⟩ = some (match o with | .inl o_0 => (.ret, (⟨[(8, .val false [.bool o_0])], [], 0⟩ : S)) | .inr (o_1) => (.exit 2, (⟨[(2, .val false [.int .i64 a2]), (12, .val false [.seq (eL e_int v1)]), (13, .val false [.int .i64 o_1]), (60, .val false [.bool false])], [], 0⟩ : S))) := by
  induction m with
  | zero => intro v2 o h; cases h
  | succ m ih =>
    intro v2 o h
    rw [L_spec_l9leads_l1] at h
    by_cases c1 : v2 < ((v1.length : Nat) : Int)
    · rw [if_pos c1] at h
      obtain ⟨i2, hi2, h⟩ := Option.bind_eq_some_iff.1 h
      obtain ⟨x3, hx3, h⟩ := Option.bind_eq_some_iff.1 h
      by_cases c4 : x3 = a2
      · rw [if_pos c4] at h
        obtain rfl := Option.some.inj h
        exact loop_end cfg [(.len (eL e_int v1), .i ((v1.length : Nat) : Int)), (.ltI v2 ((v1.length : Nat) : Int), .b true), (.nat v2, .n i2), (.idx (eL e_int v1) i2, .e [.int .i64 x3]), (.eqI x3 a2, .b true)] (by kernel_rfl) ⟨A.len, (A.ltI_t c1), (A.nat hi2), (A.idx hx3 rfl), (A.eqI_t c4), trivial⟩ (by intro h; cases h)
      · rw [if_neg c4] at h
        exact loop_on cfg [(.len (eL e_int v1), .i ((v1.length : Nat) : Int)), (.ltI v2 ((v1.length : Nat) : Int), .b true), (.nat v2, .n i2), (.idx (eL e_int v1) i2, .e [.int .i64 x3]), (.eqI x3 a2, .b false), (.add .i64 v2 1, .i (w64 (v2 + 1)))] (by kernel_rfl) ⟨A.len, (A.ltI_t c1), (A.nat hi2), (A.idx hx3 rfl), (A.eqI_f c4), rfl, trivial⟩ (ih (w64 (v2 + 1)) o h)
    · rw [if_neg c1] at h
      obtain rfl := Option.some.inj h
      exact loop_end cfg [(.len (eL e_int v1), .i ((v1.length : Nat) : Int)), (.ltI v2 ((v1.length : Nat) : Int), .b false)] (by kernel_rfl) ⟨A.len, (A.ltI_f c1), trivial⟩ (by intro h; cases h)

def T_spec_l9leads (n : Nat) (a0 : GGraph) (a1 : Int) (a2 : Int) (a3 : Int) : Option Bool :=
  (L_spec_l9leads_l0 a1 a2 a3 a0 a0.N n 0 [] []).bind fun ⟨o1_0, o1_1, o1_2⟩ =>
  (S_spec_l9reach (GGraph.mk a0.N o1_2) o1_1).bind fun r2 =>
  (L_spec_l9leads_l1 a2 r2 n 0).bind fun o3 =>
  match o3 with
  | .inl o3_0 =>
    some o3_0
  | .inr (o3_1) =>
    some false

set_option maxRecDepth 100000 in
theorem fd_37 : cfg.funcs 37 = some (bodyOf Try.f37, Try.f37.ntmps, Try.f37.results.toList) := fn_of Try.func37 (by kernel_rfl) (by kernel_rfl)
theorem g_spec_l9leads (n : Nat) (a0 : GGraph) (a1 : Int) (a2 : Int) (a3 : Int) (r : Bool) (h : T_spec_l9leads n a0 a1 a2 a3 = some r) : (mach cfg).call 37 [] [.val true [.int .i64 a0.N, .seq (eL e_GEdge a0.Edges)], .val false [.int .i64 a1], .val false [.int .i64 a2], .val false [.int .i64 a3]] = some (.val false [.bool r], []) := by
  unfold T_spec_l9leads at h
  obtain ⟨⟨o1_0, o1_1, o1_2⟩, ho1, h⟩ := Option.bind_eq_some_iff.1 h
  try dsimp only at h
  obtain ⟨r2, hr2, h⟩ := Option.bind_eq_some_iff.1 h
  obtain ⟨o3, ho3, h⟩ := Option.bind_eq_some_iff.1 h
  rcases o3 with o3_0 | o3_1
  · try dsimp only at h
    obtain rfl := Option.some.inj h
    exact call_way cfg [(.loop 37 (loopB Try.f37 0) ⟨[(1, .val false [.int .i64 a1]), (2, .val false [.int .i64 a2]), (3, .val false [.int .i64 a3]), (4, .val false [.ptr 0 0]), (9, .val false [.ptr 1 0]), (10, .val false [.ref 2]), (11, .val false [.int .i64 0])], [.var [.int .i64 a0.N, .seq (eL e_GEdge a0.Edges)], .var [.int .i64 a0.N, .ref 3], .obj 1 (eL e_int []), .obj 2 (eL e_GEdge [])], 0⟩, .x (.exit 0) ⟨[(1, .val false [.int .i64 a1]), (2, .val false [.int .i64 a2]), (3, .val false [.int .i64 a3]), (4, .val false [.ptr 0 0]), (9, .val false [.ptr 1 0]), (10, .val false [.ref 2]), (11, .val false [.int .i64 o1_0]), (21, .val false [.bool false])], [.var [.int .i64 a0.N, .seq (eL e_GEdge a0.Edges)], .var [.int .i64 a0.N, .ref 3], .obj 1 (eL e_int o1_1), .obj 2 (eL e_GEdge o1_2)], 0⟩), (.view (eL e_GEdge o1_2), .l (eL e_GEdge o1_2)), (.view (eL e_int o1_1), .l (eL e_int o1_1)), (.call 73 [] [.val true [.int .i64 a0.N, .seq (eL e_GEdge o1_2)], .val false [.seq (eL e_int o1_1)]], .r (.val false [.seq (eL e_int r2)]) []), (.loop 37 (loopB Try.f37 1) ⟨[(2, .val false [.int .i64 a2]), (12, .val false [.seq (eL e_int r2)]), (13, .val false [.int .i64 0])], [], 0⟩, .x (.ret) ⟨[(8, .val false [.bool o3_0])], [], 0⟩)] rfl fd_37 (by kernel_rfl) ⟨(A.loop (gl_spec_l9leads_l0 a1 a2 a3 a0 a0.N _ 0 [] [] _ ho1)), (A.view E_GEdge), (A.view E_int), (A.call (ok_spec_l9reach (GGraph.mk a0.N o1_2) o1_1 _ hr2)), (A.loop (gl_spec_l9leads_l1 a2 r2 _ 0 _ ho3)), trivial⟩
  · try dsimp only at h
    obtain rfl := Option.some.inj h
    exact call_way cfg [(.loop 37 (loopB Try.f37 0) ⟨[(1, .val false [.int .i64 a1]), (2, .val false [.int .i64 a2]), (3, .val false [.int .i64 a3]), (4, .val false [.ptr 0 0]), (9, .val false [.ptr 1 0]), (10, .val false [.ref 2]), (11, .val false [.int .i64 0])], [.var [.int .i64 a0.N, .seq (eL e_GEdge a0.Edges)], .var [.int .i64 a0.N, .ref 3], .obj 1 (eL e_int []), .obj 2 (eL e_GEdge [])], 0⟩, .x (.exit 0) ⟨[(1, .val false [.int .i64 a1]), (2, .val false [.int .i64 a2]), (3, .val false [.int .i64 a3]), (4, .val false [.ptr 0 0]), (9, .val false [.ptr 1 0]), (10, .val false [.ref 2]), (11, .val false [.int .i64 o1_0]), (21, .val false [.bool false])], [.var [.int .i64 a0.N, .seq (eL e_GEdge a0.Edges)], .var [.int .i64 a0.N, .ref 3], .obj 1 (eL e_int o1_1), .obj 2 (eL e_GEdge o1_2)], 0⟩), (.view (eL e_GEdge o1_2), .l (eL e_GEdge o1_2)), (.view (eL e_int o1_1), .l (eL e_int o1_1)), (.call 73 [] [.val true [.int .i64 a0.N, .seq (eL e_GEdge o1_2)], .val false [.seq (eL e_int o1_1)]], .r (.val false [.seq (eL e_int r2)]) []), (.loop 37 (loopB Try.f37 1) ⟨[(2, .val false [.int .i64 a2]), (12, .val false [.seq (eL e_int r2)]), (13, .val false [.int .i64 0])], [], 0⟩, .x (.exit 2) ⟨[(2, .val false [.int .i64 a2]), (12, .val false [.seq (eL e_int r2)]), (13, .val false [.int .i64 o3_1]), (60, .val false [.bool false])], [], 0⟩)] rfl fd_37 (by kernel_rfl) ⟨(A.loop (gl_spec_l9leads_l0 a1 a2 a3 a0 a0.N _ 0 [] [] _ ho1)), (A.view E_GEdge), (A.view E_int), (A.call (ok_spec_l9reach (GGraph.mk a0.N o1_2) o1_1 _ hr2)), (A.loop (gl_spec_l9leads_l1 a2 r2 _ 0 _ ho3)), trivial⟩

def nextL (a : Int) (l : List GEdge) : List Int := (l.filter fun e => decide (e.From = a)).map GEdge.To
theorem leads_l0 {a b : Int} {g : GGraph} {v5 : Int} (ha : g.Edges.length ≤ 2 ^ 20) : ∀ (d i m : Nat) (x : List Int) (y : List GEdge), i + d = g.Edges.length → d < m → x.length ≤ i → y.length ≤ i →
    ∃ z, L_spec_l9leads_l0 a b (-1) g v5 m (i : Int) x y = some (z, x ++ nextL a (g.Edges.drop i), y ++ g.Edges.drop i) := by
  intro d
  induction d with
  | zero =>
    intro i m x y hi hm hx hy
    obtain ⟨m, rfl, _⟩ := fuel hm
    refine ⟨(i : Int), ?_⟩
    rw [L_spec_l9leads_l0, if_neg (by omega), List.drop_eq_nil_of_le (by omega)]
    simp [nextL]
  | succ d ih =>
    intro i m x y hi hm hx hy
    obtain ⟨m, rfl, hm'⟩ := fuel hm
    have hil : i < g.Edges.length := by omega
    rw [L_spec_l9leads_l0, if_pos (by omega), if_neg (by omega), natO_nat, Option.bind_some, get_some hil, Option.bind_some, if_pos (show roomP 16 (y.length + [g.Edges[i]].length) from ⟨by simp [maxBytes]; omega, by simp; omega⟩), w64_succ (by omega), drop_cons hil]
    unfold nextL
    rw [List.filter_cons]
    by_cases c : g.Edges[i].From = a
    · rw [if_pos c, if_pos (show roomP 8 (x.length + [g.Edges[i].To].length) from ⟨by simp [maxBytes]; omega, by simp; omega⟩), if_pos (decide_eq_true c)]
      obtain ⟨z, hz⟩ := ih (i + 1) m (x ++ [g.Edges[i].To]) (y ++ [g.Edges[i]]) (by omega) (by omega) (by simp; omega) (by simp; omega)
      refine ⟨z, ?_⟩
      rw [hz]
      simp [nextL]
    · rw [if_neg c, if_neg (by rw [decide_eq_false c]; simp)]
      obtain ⟨z, hz⟩ := ih (i + 1) m x (y ++ [g.Edges[i]]) (by omega) (by omega) (by omega) (by simp; omega)
      refine ⟨z, ?_⟩
      rw [hz]
      simp [nextL]
theorem leads_l1 {b : Int} {l : List Int} (ha : l.length ≤ 2 ^ 20) : ∀ (d i m : Nat), i + d = l.length → d < m → ∃ z, L_spec_l9leads_l1 b l m (i : Int) = some (if ((l.drop i).any fun x => decide (x = b)) = true then .inl true else .inr z) := by
  intro d
  induction d with
  | zero =>
    intro i m hi hm
    obtain ⟨m, rfl, _⟩ := fuel hm
    exact ⟨_, by rw [L_spec_l9leads_l1, if_neg (by omega), List.drop_eq_nil_of_le (by omega)]; rfl⟩
  | succ d ih =>
    intro i m hi hm
    obtain ⟨m, rfl, hm'⟩ := fuel hm
    have hil : i < l.length := by omega
    rw [L_spec_l9leads_l1, if_pos (by omega), natO_nat, Option.bind_some, get_some hil, Option.bind_some, drop_cons hil, List.any_cons]
    by_cases c : l[i] = b
    · rw [if_pos c, decide_eq_true c]; exact ⟨0, rfl⟩
    · rw [if_neg c, decide_eq_false c, Bool.false_or, w64_succ (by omega)]
      exact ih (i + 1) m (by omega) (by omega)
theorem nextL_len (a : Int) (l : List GEdge) : (nextL a l).length ≤ l.length := by unfold nextL; rw [List.length_map]; exact List.length_filter_le _ _
theorem selP_len (i d : Nat) (p : Nat → Bool) : (selP i d p).length ≤ d := by
  unfold selP; rw [List.length_map]; exact Nat.le_trans (List.length_filter_le _ _) (by simp)
open Classical in
noncomputable def S_spec_l9leads (a0 : GGraph) (a1 : Int) (a2 : Int) (a3 : Int) : Option Bool := if a3 = -1 ∧ 0 ≤ a0.N ∧ a0.N ≤ 20 ∧ a0.Edges.length ≤ 2 ^ 20 ∧ GB a0.N a0.Edges then some ((selP 0 a0.N.toNat (rnds a0.Edges a0.N.toNat (iniP (nextL a1 a0.Edges)))).any fun x => decide (x = a2)) else none
theorem spec_spec_l9leads (a0 : GGraph) (a1 : Int) (a2 : Int) (a3 : Int) (r : Bool) (h : S_spec_l9leads a0 a1 a2 a3 = some r) : ∃ n, T_spec_l9leads n a0 a1 a2 a3 = some r := by
  unfold S_spec_l9leads at h
  obtain ⟨⟨rfl, h1, h2, h3, h4⟩, h'⟩ := need_c h
  clear h
  have h := h'
  clear h'
  have hnl := nextL_len a1 a0.Edges
  have hsl := selP_len 0 a0.N.toNat (rnds a0.Edges a0.N.toNat (iniP (nextL a1 a0.Edges)))
  refine ⟨a0.Edges.length + 22, ?_⟩
  obtain ⟨z0, e0⟩ := leads_l0 (a := a1) (b := a2) (v5 := a0.N) h3 a0.Edges.length 0 (a0.Edges.length + 22) [] [] (by omega) (by omega) (by simp) (by simp)
  obtain ⟨z1, e1⟩ := leads_l1 (b := a2) (l := selP 0 a0.N.toNat (rnds a0.Edges a0.N.toNat (iniP (nextL a1 a0.Edges)))) (by omega) _ 0 (a0.Edges.length + 22) (Nat.zero_add _) (by omega)
  rw [show ((0 : Nat) : Int) = 0 from rfl, List.drop_zero] at e0 e1
  rw [List.nil_append, List.nil_append] at e0
  unfold T_spec_l9leads
  rw [e0, Option.bind_some]
  dsimp only
  unfold S_spec_l9reach
  have hc : rchC (GGraph.mk a0.N a0.Edges) (nextL a1 a0.Edges) := by
    refine ⟨h1, h2, h3, by omega, h4, fun x hx => ?_⟩
    unfold nextL at hx
    obtain ⟨e, he, rfl⟩ := List.mem_map.1 hx
    have := h4 e ((List.mem_filter.1 he).1)
    exact ⟨this.2.2.1, this.2.2.2⟩
  rw [if_pos hc, Option.bind_some]
  rw [show (GGraph.mk a0.N a0.Edges).N = a0.N from rfl, show (GGraph.mk a0.N a0.Edges).Edges = a0.Edges from rfl, e1, Option.bind_some, ← h]
  cases ((selP 0 a0.N.toNat (rnds a0.Edges a0.N.toNat (iniP (nextL a1 a0.Edges)))).any fun x => decide (x = a2)) <;> rfl
theorem ok_spec_l9leads (a0 : GGraph) (a1 : Int) (a2 : Int) (a3 : Int) (r : Bool) (h : S_spec_l9leads a0 a1 a2 a3 = some r) : (mach cfg).call 37 [] [.val true [.int .i64 a0.N, .seq (eL e_GEdge a0.Edges)], .val false [.int .i64 a1], .val false [.int .i64 a2], .val false [.int .i64 a3]] = some (.val false [.bool r], []) := by
  obtain ⟨n, hn⟩ := spec_spec_l9leads a0 a1 a2 a3 r h
  exact g_spec_l9leads n a0 a1 a2 a3 r hn
def S_spec_Leads (a0 : GGraph) (a1 : Int) (a2 : Int) : Option Bool :=
  (S_spec_GraphOk a0).bind fun r1 =>
  match r1 with
  | true =>
    if 0 ≤ a1 then
      if a1 < a0.N then
        if 0 ≤ a2 then
          if a2 < a0.N then
            (S_spec_l9leads a0 a1 a2 (-1)).bind fun r7 =>
            some r7
          else
            some false
        else
          some false
      else
        some false
    else
      some false
  | false =>
    some false

set_option maxRecDepth 100000 in
theorem fd_13 : cfg.funcs 13 = some (bodyOf Try.f13, Try.f13.ntmps, Try.f13.results.toList) := fn_of Try.func13 (by kernel_rfl) (by kernel_rfl)
theorem ok_spec_Leads (a0 : GGraph) (a1 : Int) (a2 : Int) (r : Bool) (h : S_spec_Leads a0 a1 a2 = some r) : (mach cfg).call 13 [] [.val true [.int .i64 a0.N, .seq (eL e_GEdge a0.Edges)], .val false [.int .i64 a1], .val false [.int .i64 a2]] = some (.val false [.bool r], []) := by
  unfold S_spec_Leads at h
  obtain ⟨r1, hr1, h⟩ := Option.bind_eq_some_iff.1 h
  cases r1 with
  | true =>
    try dsimp only at h
    by_cases c3 : 0 ≤ a1
    · rw [if_pos c3] at h
      by_cases c4 : a1 < a0.N
      · rw [if_pos c4] at h
        by_cases c5 : 0 ≤ a2
        · rw [if_pos c5] at h
          by_cases c6 : a2 < a0.N
          · rw [if_pos c6] at h
            obtain ⟨r7, hr7, h⟩ := Option.bind_eq_some_iff.1 h
            obtain rfl := Option.some.inj h
            exact call_way cfg [(.call 9 [] [.val true [.int .i64 a0.N, .seq (eL e_GEdge a0.Edges)]], .r (.val false [.bool true]) []), (.leI 0 a1, .b true), (.ltI a1 a0.N, .b true), (.leI 0 a2, .b true), (.ltI a2 a0.N, .b true), (.call 37 [] [.val true [.int .i64 a0.N, .seq (eL e_GEdge a0.Edges)], .val false [.int .i64 a1], .val false [.int .i64 a2], .val false [.int .i64 (-1)]], .r (.val false [.bool r7]) [])] rfl fd_13 (by kernel_rfl) ⟨(A.call (ok_spec_GraphOk a0 _ hr1)), (A.leI_t c3), (A.ltI_t c4), (A.leI_t c5), (A.ltI_t c6), (A.call (ok_spec_l9leads a0 a1 a2 (-1) _ hr7)), trivial⟩
          · rw [if_neg c6] at h
            obtain rfl := Option.some.inj h
            exact call_way cfg [(.call 9 [] [.val true [.int .i64 a0.N, .seq (eL e_GEdge a0.Edges)]], .r (.val false [.bool true]) []), (.leI 0 a1, .b true), (.ltI a1 a0.N, .b true), (.leI 0 a2, .b true), (.ltI a2 a0.N, .b false)] rfl fd_13 (by kernel_rfl) ⟨(A.call (ok_spec_GraphOk a0 _ hr1)), (A.leI_t c3), (A.ltI_t c4), (A.leI_t c5), (A.ltI_f c6), trivial⟩
        · rw [if_neg c5] at h
          obtain rfl := Option.some.inj h
          exact call_way cfg [(.call 9 [] [.val true [.int .i64 a0.N, .seq (eL e_GEdge a0.Edges)]], .r (.val false [.bool true]) []), (.leI 0 a1, .b true), (.ltI a1 a0.N, .b true), (.leI 0 a2, .b false)] rfl fd_13 (by kernel_rfl) ⟨(A.call (ok_spec_GraphOk a0 _ hr1)), (A.leI_t c3), (A.ltI_t c4), (A.leI_f c5), trivial⟩
      · rw [if_neg c4] at h
        obtain rfl := Option.some.inj h
        exact call_way cfg [(.call 9 [] [.val true [.int .i64 a0.N, .seq (eL e_GEdge a0.Edges)]], .r (.val false [.bool true]) []), (.leI 0 a1, .b true), (.ltI a1 a0.N, .b false)] rfl fd_13 (by kernel_rfl) ⟨(A.call (ok_spec_GraphOk a0 _ hr1)), (A.leI_t c3), (A.ltI_f c4), trivial⟩
    · rw [if_neg c3] at h
      obtain rfl := Option.some.inj h
      exact call_way cfg [(.call 9 [] [.val true [.int .i64 a0.N, .seq (eL e_GEdge a0.Edges)]], .r (.val false [.bool true]) []), (.leI 0 a1, .b false)] rfl fd_13 (by kernel_rfl) ⟨(A.call (ok_spec_GraphOk a0 _ hr1)), (A.leI_f c3), trivial⟩
  | false =>
    try dsimp only at h
    obtain rfl := Option.some.inj h
    exact call_way cfg [(.call 9 [] [.val true [.int .i64 a0.N, .seq (eL e_GEdge a0.Edges)]], .r (.val false [.bool false]) [])] rfl fd_13 (by kernel_rfl) ⟨(A.call (ok_spec_GraphOk a0 _ hr1)), trivial⟩

def S_impl_in (a0 : Int) (a1 : Int) (a2 : Int) : Option Bool :=
  if a1 ≤ a0 then
    some (decide (a0 ≤ a2))
  else
    some false

set_option maxRecDepth 100000 in
theorem fd_38 : cfg.funcs 38 = some (bodyOf Try.f38, Try.f38.ntmps, Try.f38.results.toList) := fn_of Try.func38 (by kernel_rfl) (by kernel_rfl)
theorem ok_impl_in (a0 : Int) (a1 : Int) (a2 : Int) (r : Bool) (h : S_impl_in a0 a1 a2 = some r) : (mach cfg).call 38 [] [.val false [.int .i64 a0], .val false [.int .i64 a1], .val false [.int .i64 a2]] = some (.val false [.bool r], []) := by
  unfold S_impl_in at h
  by_cases c1 : a1 ≤ a0
  · rw [if_pos c1] at h
    obtain rfl := Option.some.inj h
    exact call_way cfg [(.leI a1 a0, .b true), (.leI a0 a2, .b (decide (a0 ≤ a2)))] rfl fd_38 (by kernel_rfl) ⟨(A.leI_t c1), A.leI_d, trivial⟩
  · rw [if_neg c1] at h
    obtain rfl := Option.some.inj h
    exact call_way cfg [(.leI a1 a0, .b false)] rfl fd_38 (by kernel_rfl) ⟨(A.leI_f c1), trivial⟩

def S_cmp_isNaN_int (a0 : Int) : Option Bool :=
  some false

set_option maxRecDepth 100000 in
theorem fd_113 : cfg.funcs 113 = some (bodyOf Try.f113, Try.f113.ntmps, Try.f113.results.toList) := fn_of Try.func113 (by kernel_rfl) (by kernel_rfl)
theorem ok_cmp_isNaN_int (a0 : Int) (r : Bool) (h : S_cmp_isNaN_int a0 = some r) : (mach cfg).call 113 [] [.val false [.int .i64 a0]] = some (.val false [.bool r], []) := by
  unfold S_cmp_isNaN_int at h
  obtain rfl := Option.some.inj h
  exact call_way cfg [(.eqI a0 a0, .b true), (.notB true, .b false)] rfl fd_113 (by kernel_rfl) ⟨(A.eqI_t (by omega)), rfl, trivial⟩

def S_cmp_Compare_int (a0 : Int) (a1 : Int) : Option Int :=
  (S_cmp_isNaN_int a0).bind fun r1 =>
  (S_cmp_isNaN_int a1).bind fun r2 =>
  match r1 with
  | true =>
    match r2 with
    | true =>
      some 0
    | false =>
      some (-1)
  | false =>
    match r2 with
    | true =>
      some 1
    | false =>
      if a0 < a1 then
        some (-1)
      else
        if a1 < a0 then
          some 1
        else
          some 0

set_option maxRecDepth 100000 in
theorem fd_98 : cfg.funcs 98 = some (bodyOf Try.f98, Try.f98.ntmps, Try.f98.results.toList) := fn_of Try.func98 (by kernel_rfl) (by kernel_rfl)
theorem ok_cmp_Compare_int (a0 : Int) (a1 : Int) (r : Int) (h : S_cmp_Compare_int a0 a1 = some r) : (mach cfg).call 98 [] [.val false [.int .i64 a0], .val false [.int .i64 a1]] = some (.val false [.int .i64 r], []) := by
  unfold S_cmp_Compare_int at h
  obtain ⟨r1, hr1, h⟩ := Option.bind_eq_some_iff.1 h
  obtain ⟨r2, hr2, h⟩ := Option.bind_eq_some_iff.1 h
  cases r1 with
  | true =>
    try dsimp only at h
    cases r2 with
    | true =>
      try dsimp only at h
      obtain rfl := Option.some.inj h
      exact call_way cfg [(.call 113 [] [.val false [.int .i64 a0]], .r (.val false [.bool true]) []), (.call 113 [] [.val false [.int .i64 a1]], .r (.val false [.bool true]) [])] rfl fd_98 (by kernel_rfl) ⟨(A.call (ok_cmp_isNaN_int a0 _ hr1)), (A.call (ok_cmp_isNaN_int a1 _ hr2)), trivial⟩
    | false =>
      try dsimp only at h
      obtain rfl := Option.some.inj h
      exact call_way cfg [(.call 113 [] [.val false [.int .i64 a0]], .r (.val false [.bool true]) []), (.call 113 [] [.val false [.int .i64 a1]], .r (.val false [.bool false]) [])] rfl fd_98 (by kernel_rfl) ⟨(A.call (ok_cmp_isNaN_int a0 _ hr1)), (A.call (ok_cmp_isNaN_int a1 _ hr2)), trivial⟩
  | false =>
    try dsimp only at h
    cases r2 with
    | true =>
      try dsimp only at h
      obtain rfl := Option.some.inj h
      exact call_way cfg [(.call 113 [] [.val false [.int .i64 a0]], .r (.val false [.bool false]) []), (.call 113 [] [.val false [.int .i64 a1]], .r (.val false [.bool true]) [])] rfl fd_98 (by kernel_rfl) ⟨(A.call (ok_cmp_isNaN_int a0 _ hr1)), (A.call (ok_cmp_isNaN_int a1 _ hr2)), trivial⟩
    | false =>
      try dsimp only at h
      by_cases c5 : a0 < a1
      · rw [if_pos c5] at h
        obtain rfl := Option.some.inj h
        exact call_way cfg [(.call 113 [] [.val false [.int .i64 a0]], .r (.val false [.bool false]) []), (.call 113 [] [.val false [.int .i64 a1]], .r (.val false [.bool false]) []), (.ltI a0 a1, .b true)] rfl fd_98 (by kernel_rfl) ⟨(A.call (ok_cmp_isNaN_int a0 _ hr1)), (A.call (ok_cmp_isNaN_int a1 _ hr2)), (A.ltI_t c5), trivial⟩
      · rw [if_neg c5] at h
        by_cases c6 : a1 < a0
        · rw [if_pos c6] at h
          obtain rfl := Option.some.inj h
          exact call_way cfg [(.call 113 [] [.val false [.int .i64 a0]], .r (.val false [.bool false]) []), (.call 113 [] [.val false [.int .i64 a1]], .r (.val false [.bool false]) []), (.ltI a0 a1, .b false), (.ltI a1 a0, .b true)] rfl fd_98 (by kernel_rfl) ⟨(A.call (ok_cmp_isNaN_int a0 _ hr1)), (A.call (ok_cmp_isNaN_int a1 _ hr2)), (A.ltI_f c5), (A.ltI_t c6), trivial⟩
        · rw [if_neg c6] at h
          obtain rfl := Option.some.inj h
          exact call_way cfg [(.call 113 [] [.val false [.int .i64 a0]], .r (.val false [.bool false]) []), (.call 113 [] [.val false [.int .i64 a1]], .r (.val false [.bool false]) []), (.ltI a0 a1, .b false), (.ltI a1 a0, .b false)] rfl fd_98 (by kernel_rfl) ⟨(A.call (ok_cmp_isNaN_int a0 _ hr1)), (A.call (ok_cmp_isNaN_int a1 _ hr2)), (A.ltI_f c5), (A.ltI_f c6), trivial⟩

def L_cmp_Or_int_l0 (v0 : Int) (a0 : (List Int)) (v2 : Int) : Nat → Int → Option (Int ⊕ Int)
  | 0, _ => none
  | m + 1, v3 =>
    if v3 < v2 then
      (natO v3).bind fun i2 =>
      (a0[i2]?).bind fun x3 =>
      if x3 = v0 then
        L_cmp_Or_int_l0 v0 a0 v2 m (w64 (v3 + 1))
      else
        some (.inl x3)
    else
      some (.inr v3)

theorem gl_cmp_Or_int_l0 (v0 : Int) (a0 : (List Int)) (v2 : Int) (m : Nat) : ∀ (v3 : Int) (o : (Int ⊕ Int)), L_cmp_Or_int_l0 v0 a0 v2 m v3 = some o → (mach cfg).loop 97 (loopB Try.f97 0) ⟨[(3, .val false [.int .i64 v0]), (6, .val false [.seq (eL e_int a0)]), (7, .val false [.int .i64 v2]), (8, .val false [.int .i64 v3])], [], 0⟩ = some (match o with | .inl o_0 => (.ret, (⟨[(2, .val false [.int .i64 o_0])], [], 0⟩ : S)) | .inr (o_1) => (.exit 0, (⟨[(3, .val false [.int .i64 v0]), (6, .val false [.seq (eL e_int a0)]), (7, .val false [.int .i64 v2]), (8, .val false [.int .i64 o_1]), (9, .val false [.bool false])], [], 0⟩ : S))) := by
  induction m with
  | zero => intro v3 o h; cases h
  | succ m ih =>
    intro v3 o h
    rw [L_cmp_Or_int_l0] at h
    by_cases c1 : v3 < v2
    · rw [if_pos c1] at h
      obtain ⟨i2, hi2, h⟩ := Option.bind_eq_some_iff.1 h
      obtain ⟨x3, hx3, h⟩ := Option.bind_eq_some_iff.1 h
      by_cases c4 : x3 = v0
      · rw [if_pos c4] at h
        exact loop_on cfg [(.ltI v3 v2, .b true), (.nat v3, .n i2), (.idx (eL e_int a0) i2, .e [.int .i64 x3]), (.eqI x3 v0, .b true), (.notB true, .b false), (.add .i64 v3 1, .i (w64 (v3 + 1)))] (by kernel_rfl) ⟨(A.ltI_t c1), (A.nat hi2), (A.idx hx3 rfl), (A.eqI_t c4), rfl, rfl, trivial⟩ (ih (w64 (v3 + 1)) o h)
      · rw [if_neg c4] at h
        obtain rfl := Option.some.inj h
        exact loop_end cfg [(.ltI v3 v2, .b true), (.nat v3, .n i2), (.idx (eL e_int a0) i2, .e [.int .i64 x3]), (.eqI x3 v0, .b false), (.notB false, .b true)] (by kernel_rfl) ⟨(A.ltI_t c1), (A.nat hi2), (A.idx hx3 rfl), (A.eqI_f c4), rfl, trivial⟩ (by intro h; cases h)
    · rw [if_neg c1] at h
      obtain rfl := Option.some.inj h
      exact loop_end cfg [(.ltI v3 v2, .b false)] (by kernel_rfl) ⟨(A.ltI_f c1), trivial⟩ (by intro h; cases h)

def T_cmp_Or_int (n : Nat) (a0 : (List Int)) : Option Int :=
  (L_cmp_Or_int_l0 0 a0 ((a0.length : Nat) : Int) n 0).bind fun o1 =>
  match o1 with
  | .inl o1_0 =>
    some o1_0
  | .inr (o1_1) =>
    some 0

set_option maxRecDepth 100000 in
theorem fd_97 : cfg.funcs 97 = some (bodyOf Try.f97, Try.f97.ntmps, Try.f97.results.toList) := fn_of Try.func97 (by kernel_rfl) (by kernel_rfl)
theorem g_cmp_Or_int (n : Nat) (a0 : (List Int)) (r : Int) (h : T_cmp_Or_int n a0 = some r) : (mach cfg).call 97 [] [.val false [.seq (eL e_int a0)]] = some (.val false [.int .i64 r], []) := by
  unfold T_cmp_Or_int at h
  obtain ⟨o1, ho1, h⟩ := Option.bind_eq_some_iff.1 h
  rcases o1 with o1_0 | o1_1
  · try dsimp only at h
    obtain rfl := Option.some.inj h
    exact call_way cfg [(.len (eL e_int a0), .i ((a0.length : Nat) : Int)), (.loop 97 (loopB Try.f97 0) ⟨[(3, .val false [.int .i64 0]), (6, .val false [.seq (eL e_int a0)]), (7, .val false [.int .i64 ((a0.length : Nat) : Int)]), (8, .val false [.int .i64 0])], [], 0⟩, .x (.ret) ⟨[(2, .val false [.int .i64 o1_0])], [], 0⟩)] rfl fd_97 (by kernel_rfl) ⟨A.len, (A.loop (gl_cmp_Or_int_l0 0 a0 ((a0.length : Nat) : Int) _ 0 _ ho1)), trivial⟩
  · try dsimp only at h
    obtain rfl := Option.some.inj h
    exact call_way cfg [(.len (eL e_int a0), .i ((a0.length : Nat) : Int)), (.loop 97 (loopB Try.f97 0) ⟨[(3, .val false [.int .i64 0]), (6, .val false [.seq (eL e_int a0)]), (7, .val false [.int .i64 ((a0.length : Nat) : Int)]), (8, .val false [.int .i64 0])], [], 0⟩, .x (.exit 0) ⟨[(3, .val false [.int .i64 0]), (6, .val false [.seq (eL e_int a0)]), (7, .val false [.int .i64 ((a0.length : Nat) : Int)]), (8, .val false [.int .i64 o1_1]), (9, .val false [.bool false])], [], 0⟩)] rfl fd_97 (by kernel_rfl) ⟨A.len, (A.loop (gl_cmp_Or_int_l0 0 a0 ((a0.length : Nat) : Int) _ 0 _ ho1)), trivial⟩

/-- The first one that is not nought. -/
def orI : List Int → Int
  | [] => 0
  | x :: l => if x = 0 then orI l else x
theorem cmpOr_loop {a : List Int} (ha : a.length ≤ 2 ^ 20) : ∀ (d i m : Nat), i + d = a.length → d < m → ∃ z, L_cmp_Or_int_l0 0 a ((a.length : Nat) : Int) m (i : Int) = some z ∧ (match z with | .inl x => x | .inr _ => 0) = orI (a.drop i) := by
  intro d
  induction d with
  | zero =>
    intro i m hi hm
    obtain ⟨m, rfl, _⟩ := fuel hm
    refine ⟨.inr i, by rw [L_cmp_Or_int_l0, if_neg (by omega)], ?_⟩
    rw [List.drop_eq_nil_of_le (by omega)]; rfl
  | succ d ih =>
    intro i m hi hm
    obtain ⟨m, rfl, hm'⟩ := fuel hm
    have hil : i < a.length := by omega
    rw [L_cmp_Or_int_l0, if_pos (by omega), natO_nat, Option.bind_some, get_some hil, Option.bind_some, drop_cons hil, orI]
    by_cases h : a[i] = 0
    · rw [if_pos h, if_pos h, w64_succ (by omega)]
      exact ih (i + 1) m (by omega) (by omega)
    · rw [if_neg h, if_neg h]
      exact ⟨_, rfl, rfl⟩
def S_cmp_Or_int (a0 : (List Int)) : Option Int := if a0.length ≤ 2 ^ 20 then some (orI a0) else none
theorem spec_cmp_Or_int (a0 : (List Int)) (r : Int) (h : S_cmp_Or_int a0 = some r) : ∃ n, T_cmp_Or_int n a0 = some r := by
  unfold S_cmp_Or_int at h
  obtain ⟨ha, h⟩ := need_c h
  obtain ⟨z, h1, h2⟩ := cmpOr_loop ha a0.length 0 (a0.length + 1) (by omega) (by omega)
  refine ⟨a0.length + 1, ?_⟩
  unfold T_cmp_Or_int
  rw [show (0 : Int) = ((0 : Nat) : Int) from rfl]
  rw [List.drop_zero] at h2
  refine (congrArg (fun x => Option.bind x _) h1).trans ?_
  rw [Option.bind_some, ← h, ← h2]
  cases z <;> rfl
theorem ok_cmp_Or_int (a0 : (List Int)) (r : Int) (h : S_cmp_Or_int a0 = some r) : (mach cfg).call 97 [] [.val false [.seq (eL e_int a0)]] = some (.val false [.int .i64 r], []) := by
  obtain ⟨n, hn⟩ := spec_cmp_Or_int a0 r h
  exact g_cmp_Or_int n a0 r hn
def S_impl_compareEdges (a0 : GEdge) (a1 : GEdge) : Option Int :=
  (S_cmp_Compare_int a0.From a1.From).bind fun r1 =>
  (S_cmp_Compare_int a0.To a1.To).bind fun r2 =>
  (S_cmp_Or_int [r1, r2]).bind fun r3 =>
  some r3

set_option maxRecDepth 100000 in
theorem fd_71 : cfg.funcs 71 = some (bodyOf Try.f71, Try.f71.ntmps, Try.f71.results.toList) := fn_of Try.func71 (by kernel_rfl) (by kernel_rfl)
theorem ok_impl_compareEdges (a0 : GEdge) (a1 : GEdge) (r : Int) (h : S_impl_compareEdges a0 a1 = some r) : (mach cfg).call 71 [] [.val true [.int .i64 a0.From, .int .i64 a0.To], .val true [.int .i64 a1.From, .int .i64 a1.To]] = some (.val false [.int .i64 r], []) := by
  unfold S_impl_compareEdges at h
  obtain ⟨r1, hr1, h⟩ := Option.bind_eq_some_iff.1 h
  obtain ⟨r2, hr2, h⟩ := Option.bind_eq_some_iff.1 h
  obtain ⟨r3, hr3, h⟩ := Option.bind_eq_some_iff.1 h
  obtain rfl := Option.some.inj h
  exact call_way cfg [(.call 98 [] [.val false [.int .i64 a0.From], .val false [.int .i64 a1.From]], .r (.val false [.int .i64 r1]) []), (.call 98 [] [.val false [.int .i64 a0.To], .val false [.int .i64 a1.To]], .r (.val false [.int .i64 r2]) []), (.view (eL e_int [r1, r2]), .l (eL e_int [r1, r2])), (.call 97 [] [.val false [.seq (eL e_int [r1, r2])]], .r (.val false [.int .i64 r3]) [])] rfl fd_71 (by kernel_rfl) ⟨(A.call (ok_cmp_Compare_int a0.From a1.From _ hr1)), (A.call (ok_cmp_Compare_int a0.To a1.To _ hr2)), (A.view E_int), (A.call (ok_cmp_Or_int [r1, r2] _ hr3)), trivial⟩

def L_impl_isGraph_l0 (v0 : (List GEdge)) (v1 : Int) (a0 : GGraph) : Nat → Int → Option (Bool ⊕ Int)
  | 0, _ => none
  | m + 1, v2 =>
    if v2 < v1 then
      (natO v2).bind fun i2 =>
      (v0[i2]?).bind fun x3 =>
      (S_impl_in x3.From 0 (w64 (a0.N - 1))).bind fun r4 =>
      match r4 with
      | true =>
        (S_impl_in x3.To 0 (w64 (a0.N - 1))).bind fun r6 =>
        match r6 with
        | true =>
          if 0 < v2 then
            (natO (w64 (v2 - 1))).bind fun i9 =>
            (a0.Edges[i9]?).bind fun x10 =>
            (S_impl_compareEdges x10 x3).bind fun r11 =>
            if 0 ≤ r11 then
              some (.inl false)
            else
              L_impl_isGraph_l0 v0 v1 a0 m (w64 (v2 + 1))
          else
            L_impl_isGraph_l0 v0 v1 a0 m (w64 (v2 + 1))
        | false =>
          some (.inl false)
      | false =>
        some (.inl false)
    else
      some (.inr v2)

theorem gl_impl_isGraph_l0 (v0 : (List GEdge)) (v1 : Int) (a0 : GGraph) (m : Nat) : ∀ (v2 : Int) (o : (Bool ⊕ Int)), L_impl_isGraph_l0 v0 v1 a0 m v2 = some o → (mach cfg).loop 35 (loopB Try.f35 0) ⟨[(1, .val false [.ptr 0 0]), (6, .val false [.seq (eL e_GEdge v0)]), (7, .val false [.int .i64 v1]), (8, .val false [.int .i64 v2])], [.var [.int .i64 a0.N, .seq (eL e_GEdge a0.Edges)]], 0⟩ = some (match o with | .inl o_0 => (.ret, (⟨[(2, .val false [.bool o_0])], [], 0⟩ : S)) | .inr (o_1) => (.exit 0, (⟨[(1, .val false [.ptr 0 0]), (6, .val false [.seq (eL e_GEdge v0)]), (7, .val false [.int .i64 v1]), (8, .val false [.int .i64 o_1]), (9, .val false [.bool false])], [.var [.int .i64 a0.N, .seq (eL e_GEdge a0.Edges)]], 0⟩ : S))) := by
  induction m with
  | zero => intro v2 o h; cases h
  | succ m ih =>
    intro v2 o h
    rw [L_impl_isGraph_l0] at h
    by_cases c1 : v2 < v1
    · rw [if_pos c1] at h
      obtain ⟨i2, hi2, h⟩ := Option.bind_eq_some_iff.1 h
      obtain ⟨x3, hx3, h⟩ := Option.bind_eq_some_iff.1 h
      obtain ⟨r4, hr4, h⟩ := Option.bind_eq_some_iff.1 h
      cases r4 with
      | true =>
        try dsimp only at h
        obtain ⟨r6, hr6, h⟩ := Option.bind_eq_some_iff.1 h
        cases r6 with
        | true =>
          try dsimp only at h
          by_cases c8 : 0 < v2
          · rw [if_pos c8] at h
            obtain ⟨i9, hi9, h⟩ := Option.bind_eq_some_iff.1 h
            obtain ⟨x10, hx10, h⟩ := Option.bind_eq_some_iff.1 h
            obtain ⟨r11, hr11, h⟩ := Option.bind_eq_some_iff.1 h
            by_cases c12 : 0 ≤ r11
            · rw [if_pos c12] at h
              obtain rfl := Option.some.inj h
              exact loop_end cfg [(.ltI v2 v1, .b true), (.nat v2, .n i2), (.idx (eL e_GEdge v0) i2, .e [.int .i64 x3.From, .int .i64 x3.To]), (.sub .i64 a0.N 1, .i (w64 (a0.N - 1))), (.call 38 [] [.val false [.int .i64 x3.From], .val false [.int .i64 0], .val false [.int .i64 (w64 (a0.N - 1))]], .r (.val false [.bool true]) []), (.notB true, .b false), (.sub .i64 a0.N 1, .i (w64 (a0.N - 1))), (.call 38 [] [.val false [.int .i64 x3.To], .val false [.int .i64 0], .val false [.int .i64 (w64 (a0.N - 1))]], .r (.val false [.bool true]) []), (.notB true, .b false), (.ltI 0 v2, .b true), (.sub .i64 v2 1, .i (w64 (v2 - 1))), (.nat (w64 (v2 - 1)), .n i9), (.idx (eL e_GEdge a0.Edges) i9, .e [.int .i64 x10.From, .int .i64 x10.To]), (.call 71 [] [.val true [.int .i64 x10.From, .int .i64 x10.To], .val true [.int .i64 x3.From, .int .i64 x3.To]], .r (.val false [.int .i64 r11]) []), (.leI 0 r11, .b true)] (by kernel_rfl) ⟨(A.ltI_t c1), (A.nat hi2), (A.idx hx3 (eq_GEdge x3)), rfl, (A.call (ok_impl_in x3.From 0 (w64 (a0.N - 1)) _ hr4)), rfl, rfl, (A.call (ok_impl_in x3.To 0 (w64 (a0.N - 1)) _ hr6)), rfl, (A.ltI_t c8), rfl, (A.nat hi9), (A.idx hx10 (eq_GEdge x10)), (A.call (ok_impl_compareEdges x10 x3 _ hr11)), (A.leI_t c12), trivial⟩ (by intro h; cases h)
            · rw [if_neg c12] at h
              exact loop_on cfg [(.ltI v2 v1, .b true), (.nat v2, .n i2), (.idx (eL e_GEdge v0) i2, .e [.int .i64 x3.From, .int .i64 x3.To]), (.sub .i64 a0.N 1, .i (w64 (a0.N - 1))), (.call 38 [] [.val false [.int .i64 x3.From], .val false [.int .i64 0], .val false [.int .i64 (w64 (a0.N - 1))]], .r (.val false [.bool true]) []), (.notB true, .b false), (.sub .i64 a0.N 1, .i (w64 (a0.N - 1))), (.call 38 [] [.val false [.int .i64 x3.To], .val false [.int .i64 0], .val false [.int .i64 (w64 (a0.N - 1))]], .r (.val false [.bool true]) []), (.notB true, .b false), (.ltI 0 v2, .b true), (.sub .i64 v2 1, .i (w64 (v2 - 1))), (.nat (w64 (v2 - 1)), .n i9), (.idx (eL e_GEdge a0.Edges) i9, .e [.int .i64 x10.From, .int .i64 x10.To]), (.call 71 [] [.val true [.int .i64 x10.From, .int .i64 x10.To], .val true [.int .i64 x3.From, .int .i64 x3.To]], .r (.val false [.int .i64 r11]) []), (.leI 0 r11, .b false), (.add .i64 v2 1, .i (w64 (v2 + 1)))] (by kernel_rfl) ⟨(A.ltI_t c1), (A.nat hi2), (A.idx hx3 (eq_GEdge x3)), rfl, (A.call (ok_impl_in x3.From 0 (w64 (a0.N - 1)) _ hr4)), rfl, rfl, (A.call (ok_impl_in x3.To 0 (w64 (a0.N - 1)) _ hr6)), rfl, (A.ltI_t c8), rfl, (A.nat hi9), (A.idx hx10 (eq_GEdge x10)), (A.call (ok_impl_compareEdges x10 x3 _ hr11)), (A.leI_f c12), rfl, trivial⟩ (ih (w64 (v2 + 1)) o h)
          · rw [if_neg c8] at h
            exact loop_on cfg [(.ltI v2 v1, .b true), (.nat v2, .n i2), (.idx (eL e_GEdge v0) i2, .e [.int .i64 x3.From, .int .i64 x3.To]), (.sub .i64 a0.N 1, .i (w64 (a0.N - 1))), (.call 38 [] [.val false [.int .i64 x3.From], .val false [.int .i64 0], .val false [.int .i64 (w64 (a0.N - 1))]], .r (.val false [.bool true]) []), (.notB true, .b false), (.sub .i64 a0.N 1, .i (w64 (a0.N - 1))), (.call 38 [] [.val false [.int .i64 x3.To], .val false [.int .i64 0], .val false [.int .i64 (w64 (a0.N - 1))]], .r (.val false [.bool true]) []), (.notB true, .b false), (.ltI 0 v2, .b false), (.add .i64 v2 1, .i (w64 (v2 + 1)))] (by kernel_rfl) ⟨(A.ltI_t c1), (A.nat hi2), (A.idx hx3 (eq_GEdge x3)), rfl, (A.call (ok_impl_in x3.From 0 (w64 (a0.N - 1)) _ hr4)), rfl, rfl, (A.call (ok_impl_in x3.To 0 (w64 (a0.N - 1)) _ hr6)), rfl, (A.ltI_f c8), rfl, trivial⟩ (ih (w64 (v2 + 1)) o h)
        | false =>
          try dsimp only at h
          obtain rfl := Option.some.inj h
          exact loop_end cfg [(.ltI v2 v1, .b true), (.nat v2, .n i2), (.idx (eL e_GEdge v0) i2, .e [.int .i64 x3.From, .int .i64 x3.To]), (.sub .i64 a0.N 1, .i (w64 (a0.N - 1))), (.call 38 [] [.val false [.int .i64 x3.From], .val false [.int .i64 0], .val false [.int .i64 (w64 (a0.N - 1))]], .r (.val false [.bool true]) []), (.notB true, .b false), (.sub .i64 a0.N 1, .i (w64 (a0.N - 1))), (.call 38 [] [.val false [.int .i64 x3.To], .val false [.int .i64 0], .val false [.int .i64 (w64 (a0.N - 1))]], .r (.val false [.bool false]) []), (.notB false, .b true)] (by kernel_rfl) ⟨(A.ltI_t c1), (A.nat hi2), (A.idx hx3 (eq_GEdge x3)), rfl, (A.call (ok_impl_in x3.From 0 (w64 (a0.N - 1)) _ hr4)), rfl, rfl, (A.call (ok_impl_in x3.To 0 (w64 (a0.N - 1)) _ hr6)), rfl, trivial⟩ (by intro h; cases h)
      | false =>
        try dsimp only at h
        obtain rfl := Option.some.inj h
        exact loop_end cfg [(.ltI v2 v1, .b true), (.nat v2, .n i2), (.idx (eL e_GEdge v0) i2, .e [.int .i64 x3.From, .int .i64 x3.To]), (.sub .i64 a0.N 1, .i (w64 (a0.N - 1))), (.call 38 [] [.val false [.int .i64 x3.From], .val false [.int .i64 0], .val false [.int .i64 (w64 (a0.N - 1))]], .r (.val false [.bool false]) []), (.notB false, .b true)] (by kernel_rfl) ⟨(A.ltI_t c1), (A.nat hi2), (A.idx hx3 (eq_GEdge x3)), rfl, (A.call (ok_impl_in x3.From 0 (w64 (a0.N - 1)) _ hr4)), rfl, trivial⟩ (by intro h; cases h)
    · rw [if_neg c1] at h
      obtain rfl := Option.some.inj h
      exact loop_end cfg [(.ltI v2 v1, .b false)] (by kernel_rfl) ⟨(A.ltI_f c1), trivial⟩ (by intro h; cases h)

def T_impl_isGraph (n : Nat) (a0 : GGraph) : Option Bool :=
  (L_impl_isGraph_l0 a0.Edges ((a0.Edges.length : Nat) : Int) a0 n 0).bind fun o1 =>
  match o1 with
  | .inl o1_0 =>
    some o1_0
  | .inr (o1_1) =>
    (S_impl_in a0.N 0 20).bind fun r2 =>
    match r2 with
    | true =>
      some (decide (((a0.Edges.length : Nat) : Int) ≤ 400))
    | false =>
      some false

set_option maxRecDepth 100000 in
theorem fd_35 : cfg.funcs 35 = some (bodyOf Try.f35, Try.f35.ntmps, Try.f35.results.toList) := fn_of Try.func35 (by kernel_rfl) (by kernel_rfl)
theorem g_impl_isGraph (n : Nat) (a0 : GGraph) (r : Bool) (h : T_impl_isGraph n a0 = some r) : (mach cfg).call 35 [] [.val true [.int .i64 a0.N, .seq (eL e_GEdge a0.Edges)]] = some (.val false [.bool r], []) := by
  unfold T_impl_isGraph at h
  obtain ⟨o1, ho1, h⟩ := Option.bind_eq_some_iff.1 h
  rcases o1 with o1_0 | o1_1
  · try dsimp only at h
    obtain rfl := Option.some.inj h
    exact call_way cfg [(.len (eL e_GEdge a0.Edges), .i ((a0.Edges.length : Nat) : Int)), (.loop 35 (loopB Try.f35 0) ⟨[(1, .val false [.ptr 0 0]), (6, .val false [.seq (eL e_GEdge a0.Edges)]), (7, .val false [.int .i64 ((a0.Edges.length : Nat) : Int)]), (8, .val false [.int .i64 0])], [.var [.int .i64 a0.N, .seq (eL e_GEdge a0.Edges)]], 0⟩, .x (.ret) ⟨[(2, .val false [.bool o1_0])], [], 0⟩)] rfl fd_35 (by kernel_rfl) ⟨A.len, (A.loop (gl_impl_isGraph_l0 a0.Edges ((a0.Edges.length : Nat) : Int) a0 _ 0 _ ho1)), trivial⟩
  · try dsimp only at h
    obtain ⟨r2, hr2, h⟩ := Option.bind_eq_some_iff.1 h
    cases r2 with
    | true =>
      try dsimp only at h
      obtain rfl := Option.some.inj h
      exact call_way cfg [(.len (eL e_GEdge a0.Edges), .i ((a0.Edges.length : Nat) : Int)), (.loop 35 (loopB Try.f35 0) ⟨[(1, .val false [.ptr 0 0]), (6, .val false [.seq (eL e_GEdge a0.Edges)]), (7, .val false [.int .i64 ((a0.Edges.length : Nat) : Int)]), (8, .val false [.int .i64 0])], [.var [.int .i64 a0.N, .seq (eL e_GEdge a0.Edges)]], 0⟩, .x (.exit 0) ⟨[(1, .val false [.ptr 0 0]), (6, .val false [.seq (eL e_GEdge a0.Edges)]), (7, .val false [.int .i64 ((a0.Edges.length : Nat) : Int)]), (8, .val false [.int .i64 o1_1]), (9, .val false [.bool false])], [.var [.int .i64 a0.N, .seq (eL e_GEdge a0.Edges)]], 0⟩), (.call 38 [] [.val false [.int .i64 a0.N], .val false [.int .i64 0], .val false [.int .i64 20]], .r (.val false [.bool true]) []), (.len (eL e_GEdge a0.Edges), .i ((a0.Edges.length : Nat) : Int)), (.leI ((a0.Edges.length : Nat) : Int) 400, .b (decide (((a0.Edges.length : Nat) : Int) ≤ 400)))] rfl fd_35 (by kernel_rfl) ⟨A.len, (A.loop (gl_impl_isGraph_l0 a0.Edges ((a0.Edges.length : Nat) : Int) a0 _ 0 _ ho1)), (A.call (ok_impl_in a0.N 0 20 _ hr2)), A.len, A.leI_d, trivial⟩
    | false =>
      try dsimp only at h
      obtain rfl := Option.some.inj h
      exact call_way cfg [(.len (eL e_GEdge a0.Edges), .i ((a0.Edges.length : Nat) : Int)), (.loop 35 (loopB Try.f35 0) ⟨[(1, .val false [.ptr 0 0]), (6, .val false [.seq (eL e_GEdge a0.Edges)]), (7, .val false [.int .i64 ((a0.Edges.length : Nat) : Int)]), (8, .val false [.int .i64 0])], [.var [.int .i64 a0.N, .seq (eL e_GEdge a0.Edges)]], 0⟩, .x (.exit 0) ⟨[(1, .val false [.ptr 0 0]), (6, .val false [.seq (eL e_GEdge a0.Edges)]), (7, .val false [.int .i64 ((a0.Edges.length : Nat) : Int)]), (8, .val false [.int .i64 o1_1]), (9, .val false [.bool false])], [.var [.int .i64 a0.N, .seq (eL e_GEdge a0.Edges)]], 0⟩), (.call 38 [] [.val false [.int .i64 a0.N], .val false [.int .i64 0], .val false [.int .i64 20]], .r (.val false [.bool false]) [])] rfl fd_35 (by kernel_rfl) ⟨A.len, (A.loop (gl_impl_isGraph_l0 a0.Edges ((a0.Edges.length : Nat) : Int) a0 _ 0 _ ho1)), (A.call (ok_impl_in a0.N 0 20 _ hr2)), trivial⟩

theorem implCmpE (a b : GEdge) : ∃ r, S_impl_compareEdges a b = some r ∧ (0 ≤ r ↔ eLess a b = false) := by
  unfold S_impl_compareEdges S_cmp_Compare_int S_cmp_isNaN_int S_cmp_Or_int
  simp only [Option.bind_some]
  by_cases c1 : a.From < b.From
  · rw [if_pos c1]
    have he : eLess a b = true := decide_eq_true (.inl c1)
    rw [he]
    by_cases c3 : a.To < b.To
    · rw [if_pos c3]; exact ⟨_, rfl, by simp [orI]⟩
    · rw [if_neg c3]
      by_cases c4 : b.To < a.To
      · rw [if_pos c4]; exact ⟨_, rfl, by simp [orI]⟩
      · rw [if_neg c4]; exact ⟨_, rfl, by simp [orI]⟩
  · rw [if_neg c1]
    by_cases c2 : b.From < a.From
    · rw [if_pos c2]
      have he : eLess a b = false := decide_eq_false (by omega)
      rw [he]
      by_cases c3 : a.To < b.To
      · rw [if_pos c3]; exact ⟨_, rfl, by simp [orI]⟩
      · rw [if_neg c3]
        by_cases c4 : b.To < a.To
        · rw [if_pos c4]; exact ⟨_, rfl, by simp [orI]⟩
        · rw [if_neg c4]; exact ⟨_, rfl, by simp [orI]⟩
    · rw [if_neg c2]
      by_cases c3 : a.To < b.To
      · rw [if_pos c3]
        have he : eLess a b = true := decide_eq_true (by omega)
        rw [he]; exact ⟨_, rfl, by simp [orI]⟩
      · rw [if_neg c3]
        have he : eLess a b = false := decide_eq_false (by omega)
        rw [he]
        by_cases c4 : b.To < a.To
        · rw [if_pos c4]; exact ⟨_, rfl, by simp [orI]⟩
        · rw [if_neg c4]; exact ⟨_, rfl, by simp [orI]⟩
theorem implIn (a b c : Int) : S_impl_in a b c = some (decide (b ≤ a ∧ a ≤ c)) := by
  unfold S_impl_in
  by_cases h : b ≤ a
  · rw [if_pos h]; congr 1; exact decide_eq_decide.2 ⟨fun x => ⟨h, x⟩, fun x => x.2⟩
  · rw [if_neg h, decide_eq_false (fun x => h x.1)]
theorem implIsGraph_loop {g : GGraph} (ha : g.Edges.length ≤ 2 ^ 20) : ∀ (d i m : Nat), i + d = g.Edges.length → d < m → ∃ z, L_impl_isGraph_l0 g.Edges ((g.Edges.length : Nat) : Int) g m (i : Int) = some (if eAll (w64 (g.N - 1)) g.Edges i d = true then .inr z else .inl false) := by
  intro d
  induction d with
  | zero =>
    intro i m hi hm
    obtain ⟨m, rfl, _⟩ := fuel hm
    exact ⟨_, by rw [L_impl_isGraph_l0, if_neg (by omega)]; rfl⟩
  | succ d ih =>
    intro i m hi hm
    obtain ⟨m, rfl, hm'⟩ := fuel hm
    have hil : i < g.Edges.length := by omega
    rw [L_impl_isGraph_l0, if_pos (by omega), natO_nat, Option.bind_some, get_some hil, Option.bind_some, eAll_succ]
    generalize w64 (g.N - 1) = K at *
    rw [implIn, Option.bind_some]
    have hx : eOk K g.Edges i = (decide (0 ≤ g.Edges[i].From ∧ g.Edges[i].From ≤ K) && (decide (0 ≤ g.Edges[i].To ∧ g.Edges[i].To ≤ K) && (decide (i = 0) || match g.Edges[i - 1]? with | some p => eLess p g.Edges[i] | none => false))) := by
      unfold eOk
      rw [get_some hil]
      unfold eIn
      rw [← Bool.and_assoc, ← Bool.decide_and]
      dsimp only
      congr 1
      exact decide_eq_decide.2 ⟨fun h => ⟨⟨h.1, h.2.1⟩, h.2.2⟩, fun h => ⟨h.1.1, h.1.2, h.2⟩⟩
    rw [hx]
    cases decide (0 ≤ g.Edges[i].From ∧ g.Edges[i].From ≤ K) with
    | false => exact ⟨0, rfl⟩
    | true =>
      dsimp only
      rw [implIn, Option.bind_some, Bool.true_and]
      cases decide (0 ≤ g.Edges[i].To ∧ g.Edges[i].To ≤ K) with
      | false => exact ⟨0, rfl⟩
      | true =>
        dsimp only
        rw [Bool.true_and]
        by_cases h0 : 0 < i
        · have hk : (match g.Edges[i - 1]? with | some p => eLess p g.Edges[i] | none => false) = eLess (g.Edges[i - 1]'(by omega)) g.Edges[i] := by rw [get_some (show i - 1 < g.Edges.length by omega)]
          rw [hk, if_pos (by omega), w64_pred (by omega) h0, natO_nat, Option.bind_some, get_some (show i - 1 < g.Edges.length by omega), Option.bind_some, decide_eq_false (by omega), Bool.false_or]
          obtain ⟨r, h1, h2⟩ := implCmpE (g.Edges[i - 1]'(by omega)) g.Edges[i]
          rw [h1, Option.bind_some]
          rcases Bool.eq_false_or_eq_true (eLess (g.Edges[i - 1]'(by omega)) g.Edges[i]) with he | he
          · rw [if_neg (fun h => by have := h2.1 h; rw [he] at this; cases this), w64_succ (by omega)]
            simp only [he, Bool.true_and]
            exact ih (i + 1) m (by omega) (by omega)
          · rw [if_pos (h2.2 he)]
            simp only [he, Bool.false_and]
            exact ⟨0, rfl⟩
        · obtain rfl : i = 0 := by omega
          rw [if_neg (by omega), w64_succ (by omega)]
          exact ih 1 m (by omega) (by omega)
def S_impl_isGraph (a0 : GGraph) : Option Bool := if a0.Edges.length ≤ 2 ^ 20 then some (gok a0) else none
theorem spec_impl_isGraph (a0 : GGraph) (r : Bool) (h : S_impl_isGraph a0 = some r) : ∃ n, T_impl_isGraph n a0 = some r := by
  unfold S_impl_isGraph at h
  obtain ⟨ha, h⟩ := need_c h
  refine ⟨a0.Edges.length + 1, ?_⟩
  rw [← h]
  clear h
  obtain ⟨z, hz⟩ := implIsGraph_loop ha a0.Edges.length 0 (a0.Edges.length + 1) (by omega) (by omega)
  rw [show ((0 : Nat) : Int) = 0 from rfl] at hz
  unfold T_impl_isGraph gok
  rw [hz, Option.bind_some]
  by_cases c : 0 ≤ a0.N ∧ a0.N ≤ 20
  · rw [w64_id (by omega) (by omega)]
    cases eAll (a0.N - 1) a0.Edges 0 a0.Edges.length with
    | false => rw [Bool.and_false]; rfl
    | true =>
      rw [if_pos rfl]
      dsimp only
      rw [implIn, decide_eq_true c, Option.bind_some, Bool.and_true]
      dsimp only
      congr 1
      refine decide_eq_decide.2 ⟨fun h => ⟨c.1, c.2, by omega⟩, fun h => by omega⟩
  · have hf : decide (0 ≤ a0.N ∧ a0.N ≤ 20 ∧ a0.Edges.length ≤ 400) = false := decide_eq_false fun h => c ⟨h.1, h.2.1⟩
    rw [hf, Bool.false_and]
    cases eAll (w64 (a0.N - 1)) a0.Edges 0 a0.Edges.length with
    | false => rfl
    | true =>
      rw [if_pos rfl]
      dsimp only
      rw [implIn, decide_eq_false c, Option.bind_some]
theorem ok_impl_isGraph (a0 : GGraph) (r : Bool) (h : S_impl_isGraph a0 = some r) : (mach cfg).call 35 [] [.val true [.int .i64 a0.N, .seq (eL e_GEdge a0.Edges)]] = some (.val false [.bool r], []) := by
  obtain ⟨n, hn⟩ := spec_impl_isGraph a0 r h
  exact g_impl_isGraph n a0 r hn
end
end Go.Am.Try
