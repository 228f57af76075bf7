/- The functions of the program in plain Lean, and that the machine answers as they do; conditions at each theorem. -/
import Derived.Test.YtnhmhmjgeffboaaLG1
set_option linter.unusedVariables false
set_option linter.unusedSimpArgs false
namespace Go.Am.Try
open Go.Am Go.Proofs
set_option linter.unusedVariables false
set_option maxRecDepth 20000
set_option maxHeartbeats 2000000
noncomputable section
def L_impl_Graph_ways_l1 (v0 : Int) (v1 : (List GEdge)) (v2 : Int) (a0 : GGraph) (v5 : (Nat → Bool)) : Nat → Int → (Nat → Bool) → (List Int) → Option ((Nat → Bool) × (List Int))
  | 0, _, _, _ => none
  | m + 1, v3, v6, v7 =>
    if v3 < v2 then
      (natO v3).bind fun i2 =>
      (v1[i2]?).bind fun x3 =>
      if x3.From = v0 then
        (natO x3.To).bind fun i5 =>
        if ((i5 : Nat) : Int) < 20 then
        match (v6 i5) with
        | true =>
          L_impl_Graph_ways_l1 v0 v1 v2 a0 v5 m (w64 (v3 + 1)) v6 v7
        | false =>
          if roomP 8 (v7.length + [x3.To].length) then
          L_impl_Graph_ways_l1 v0 v1 v2 a0 v5 m (w64 (v3 + 1)) (updA v6 i5 true) (v7 ++ [x3.To])
          else none
        else none
      else
        L_impl_Graph_ways_l1 v0 v1 v2 a0 v5 m (w64 (v3 + 1)) v6 v7
    else
      some (v6, v7)

theorem gl_impl_Graph_ways_l1 (v0 : Int) (v1 : (List GEdge)) (v2 : Int) (a0 : GGraph) (v5 : (Nat → Bool)) (m : Nat) : ∀ (v3 : Int) (v6 : (Nat → Bool)) (v7 : (List Int)) (o : ((Nat → Bool) × (List Int))), L_impl_Graph_ways_l1 v0 v1 v2 a0 v5 m v3 v6 v7 = some o → (mach cfg).loop 39 (loopB Try.f39 1) ⟨[(2, .val false [.ptr 0 0]), (4, .val false [.ptr 1 0]), (5, .val false [.ptr 2 0]), (6, .val false [.ref 3]), (7, .val false [.int .i64 v0]), (22, .val false [.seq (eL e_GEdge v1)]), (23, .val false [.int .i64 v2]), (24, .val false [.int .i64 v3])], [.var [.int .i64 a0.N, .seq (eL e_GEdge a0.Edges)], .var [.bool (v5 0), .bool (v5 1), .bool (v5 2), .bool (v5 3), .bool (v5 4), .bool (v5 5), .bool (v5 6), .bool (v5 7), .bool (v5 8), .bool (v5 9), .bool (v5 10), .bool (v5 11), .bool (v5 12), .bool (v5 13), .bool (v5 14), .bool (v5 15), .bool (v5 16), .bool (v5 17), .bool (v5 18), .bool (v5 19)], .var [.bool (v6 0), .bool (v6 1), .bool (v6 2), .bool (v6 3), .bool (v6 4), .bool (v6 5), .bool (v6 6), .bool (v6 7), .bool (v6 8), .bool (v6 9), .bool (v6 10), .bool (v6 11), .bool (v6 12), .bool (v6 13), .bool (v6 14), .bool (v6 15), .bool (v6 16), .bool (v6 17), .bool (v6 18), .bool (v6 19)], .obj 1 (eL e_int v7)], 0⟩ = some (match o with | ⟨o_0, o_1⟩ => (.exit 2, (⟨[(2, .val false [.ptr 0 0]), (4, .val false [.ptr 1 0]), (5, .val false [.ptr 2 0]), (6, .val false [.ref 3])], [.var [.int .i64 a0.N, .seq (eL e_GEdge a0.Edges)], .var [.bool (v5 0), .bool (v5 1), .bool (v5 2), .bool (v5 3), .bool (v5 4), .bool (v5 5), .bool (v5 6), .bool (v5 7), .bool (v5 8), .bool (v5 9), .bool (v5 10), .bool (v5 11), .bool (v5 12), .bool (v5 13), .bool (v5 14), .bool (v5 15), .bool (v5 16), .bool (v5 17), .bool (v5 18), .bool (v5 19)], .var [.bool (o_0 0), .bool (o_0 1), .bool (o_0 2), .bool (o_0 3), .bool (o_0 4), .bool (o_0 5), .bool (o_0 6), .bool (o_0 7), .bool (o_0 8), .bool (o_0 9), .bool (o_0 10), .bool (o_0 11), .bool (o_0 12), .bool (o_0 13), .bool (o_0 14), .bool (o_0 15), .bool (o_0 16), .bool (o_0 17), .bool (o_0 18), .bool (o_0 19)], .obj 1 (eL e_int o_1)], 0⟩ : S))) := by
  induction m with
  | zero => intro v3 v6 v7 o h; cases h
  | succ m ih =>
    intro v3 v6 v7 o h
    rw [L_impl_Graph_ways_l1] at h
    by_cases c1 : v3 < v2
    · rw [if_pos c1] at h
      obtain ⟨i2, hi2, h⟩ := Option.bind_eq_some_iff.1 h
      obtain ⟨x3, hx3, h⟩ := Option.bind_eq_some_iff.1 h
      by_cases c4 : x3.From = v0
      · rw [if_pos c4] at h
        obtain ⟨i5, hi5, h⟩ := Option.bind_eq_some_iff.1 h
        obtain ⟨n6, h⟩ := need_some h
        cases c7 : (v6 i5) with
        | true =>
          rw [c7] at h
          try dsimp only at h
          exact loop_on cfg [(.ltI v3 v2, .b true), (.nat v3, .n i2), (.idx (eL e_GEdge v1) i2, .e [.int .i64 x3.From, .int .i64 x3.To]), (.eqI x3.From v0, .b true), (.nat x3.To, .n i5), (.ltI ((i5 : Nat) : Int) ((20 : Nat) : Int), .b true), (.subA [.bool (v6 0), .bool (v6 1), .bool (v6 2), .bool (v6 3), .bool (v6 4), .bool (v6 5), .bool (v6 6), .bool (v6 7), .bool (v6 8), .bool (v6 9), .bool (v6 10), .bool (v6 11), .bool (v6 12), .bool (v6 13), .bool (v6 14), .bool (v6 15), .bool (v6 16), .bool (v6 17), .bool (v6 18), .bool (v6 19)] i5 1 0 1, .e [.bool true]), (.notB true, .b false), (.add .i64 v3 1, .i (w64 (v3 + 1)))] (by kernel_rfl) ⟨(A.ltI_t c1), (A.nat hi2), (A.idx hx3 (eq_GEdge x3)), (A.eqI_t c4), (A.nat hi5), (A.ltI_t n6), ((A.sub_b (n := 20) (a := v6) n6).trans (by rw [c7])), rfl, rfl, trivial⟩ (ih (w64 (v3 + 1)) v6 v7 o h)
        | false =>
          rw [c7] at h
          try dsimp only at h
          obtain ⟨n8, h⟩ := need_some h
          exact loop_on cfg [(.ltI v3 v2, .b true), (.nat v3, .n i2), (.idx (eL e_GEdge v1) i2, .e [.int .i64 x3.From, .int .i64 x3.To]), (.eqI x3.From v0, .b true), (.nat x3.To, .n i5), (.ltI ((i5 : Nat) : Int) ((20 : Nat) : Int), .b true), (.subA [.bool (v6 0), .bool (v6 1), .bool (v6 2), .bool (v6 3), .bool (v6 4), .bool (v6 5), .bool (v6 6), .bool (v6 7), .bool (v6 8), .bool (v6 9), .bool (v6 10), .bool (v6 11), .bool (v6 12), .bool (v6 13), .bool (v6 14), .bool (v6 15), .bool (v6 16), .bool (v6 17), .bool (v6 18), .bool (v6 19)] i5 1 0 1, .e [.bool false]), (.notB false, .b true), (.nat x3.To, .n i5), (.ltI ((i5 : Nat) : Int) ((20 : Nat) : Int), .b true), (.putA [.bool (v6 0), .bool (v6 1), .bool (v6 2), .bool (v6 3), .bool (v6 4), .bool (v6 5), .bool (v6 6), .bool (v6 7), .bool (v6 8), .bool (v6 9), .bool (v6 10), .bool (v6 11), .bool (v6 12), .bool (v6 13), .bool (v6 14), .bool (v6 15), .bool (v6 16), .bool (v6 17), .bool (v6 18), .bool (v6 19)] i5 1 0 [.bool true], .e [.bool ((updA v6 i5 true) 0), .bool ((updA v6 i5 true) 1), .bool ((updA v6 i5 true) 2), .bool ((updA v6 i5 true) 3), .bool ((updA v6 i5 true) 4), .bool ((updA v6 i5 true) 5), .bool ((updA v6 i5 true) 6), .bool ((updA v6 i5 true) 7), .bool ((updA v6 i5 true) 8), .bool ((updA v6 i5 true) 9), .bool ((updA v6 i5 true) 10), .bool ((updA v6 i5 true) 11), .bool ((updA v6 i5 true) 12), .bool ((updA v6 i5 true) 13), .bool ((updA v6 i5 true) 14), .bool ((updA v6 i5 true) 15), .bool ((updA v6 i5 true) 16), .bool ((updA v6 i5 true) 17), .bool ((updA v6 i5 true) 18), .bool ((updA v6 i5 true) 19)]), (.pl (eL e_int [x3.To]), .b true), (.room 8 (eL e_int v7) (eL e_int [x3.To]), .b true), (.uni 1 (eL e_int [x3.To]), .b true), (.app (eL e_int v7) (eL e_int [x3.To]), .l (eL e_int (v7 ++ [x3.To]))), (.add .i64 v3 1, .i (w64 (v3 + 1)))] (by kernel_rfl) ⟨(A.ltI_t c1), (A.nat hi2), (A.idx hx3 (eq_GEdge x3)), (A.eqI_t c4), (A.nat hi5), (A.ltI_t n6), ((A.sub_b (n := 20) (a := v6) n6).trans (by rw [c7])), rfl, (A.nat hi5), (A.ltI_t n6), (A.put_b (n := 20) (a := v6) n6), (A.pl E_int), (A.room n8), (A.uni E_int), A.app, rfl, trivial⟩ (ih (w64 (v3 + 1)) (updA v6 i5 true) (v7 ++ [x3.To]) o h)
      · rw [if_neg c4] at h
        exact loop_on cfg [(.ltI v3 v2, .b true), (.nat v3, .n i2), (.idx (eL e_GEdge v1) i2, .e [.int .i64 x3.From, .int .i64 x3.To]), (.eqI x3.From v0, .b false), (.add .i64 v3 1, .i (w64 (v3 + 1)))] (by kernel_rfl) ⟨(A.ltI_t c1), (A.nat hi2), (A.idx hx3 (eq_GEdge x3)), (A.eqI_f c4), rfl, trivial⟩ (ih (w64 (v3 + 1)) v6 v7 o h)
    · rw [if_neg c1] at h
      obtain rfl := Option.some.inj h
      exact loop_end cfg [(.ltI v3 v2, .b false)] (by kernel_rfl) ⟨(A.ltI_f c1), trivial⟩ (by intro h; cases h)

def L_impl_Graph_ways_l0 (n : Nat) (a0 : GGraph) (v1 : (Nat → Bool)) : Nat → (Nat → Bool) → (List Int) → Option (Nat → Bool)
  | 0, _, _ => none
  | m + 1, v2, v3 =>
    if 0 < ((v3.length : Nat) : Int) then
      (v3[0]?).bind fun x2 =>
      (cutO v3 (some 1) none).bind fun s3 =>
      (L_impl_Graph_ways_l1 x2 a0.Edges ((a0.Edges.length : Nat) : Int) a0 v1 n 0 v2 s3).bind fun ⟨o4_0, o4_1⟩ =>
      L_impl_Graph_ways_l0 n a0 v1 m o4_0 o4_1
    else
      some v2

theorem gl_impl_Graph_ways_l0 (n : Nat) (a0 : GGraph) (v1 : (Nat → Bool)) (m : Nat) : ∀ (v2 : (Nat → Bool)) (v3 : (List Int)) (o : (Nat → Bool)), L_impl_Graph_ways_l0 n a0 v1 m v2 v3 = some o → (mach cfg).loop 39 (loopB Try.f39 0) ⟨[(2, .val false [.ptr 0 0]), (4, .val false [.ptr 1 0]), (5, .val false [.ptr 2 0]), (6, .val false [.ref 3])], [.var [.int .i64 a0.N, .seq (eL e_GEdge a0.Edges)], .var [.bool (v1 0), .bool (v1 1), .bool (v1 2), .bool (v1 3), .bool (v1 4), .bool (v1 5), .bool (v1 6), .bool (v1 7), .bool (v1 8), .bool (v1 9), .bool (v1 10), .bool (v1 11), .bool (v1 12), .bool (v1 13), .bool (v1 14), .bool (v1 15), .bool (v1 16), .bool (v1 17), .bool (v1 18), .bool (v1 19)], .var [.bool (v2 0), .bool (v2 1), .bool (v2 2), .bool (v2 3), .bool (v2 4), .bool (v2 5), .bool (v2 6), .bool (v2 7), .bool (v2 8), .bool (v2 9), .bool (v2 10), .bool (v2 11), .bool (v2 12), .bool (v2 13), .bool (v2 14), .bool (v2 15), .bool (v2 16), .bool (v2 17), .bool (v2 18), .bool (v2 19)], .obj 1 (eL e_int v3)], 0⟩ = some (match o with | o => (.exit 0, (⟨[(4, .val false [.ptr 0 0]), (5, .val false [.ptr 1 0])], [.var [.bool (v1 0), .bool (v1 1), .bool (v1 2), .bool (v1 3), .bool (v1 4), .bool (v1 5), .bool (v1 6), .bool (v1 7), .bool (v1 8), .bool (v1 9), .bool (v1 10), .bool (v1 11), .bool (v1 12), .bool (v1 13), .bool (v1 14), .bool (v1 15), .bool (v1 16), .bool (v1 17), .bool (v1 18), .bool (v1 19)], .var [.bool (o 0), .bool (o 1), .bool (o 2), .bool (o 3), .bool (o 4), .bool (o 5), .bool (o 6), .bool (o 7), .bool (o 8), .bool (o 9), .bool (o 10), .bool (o 11), .bool (o 12), .bool (o 13), .bool (o 14), .bool (o 15), .bool (o 16), .bool (o 17), .bool (o 18), .bool (o 19)]], 0⟩ : S))) := by
  induction m with
  | zero => intro v2 v3 o h; cases h
  | succ m ih =>
    intro v2 v3 o h
    rw [L_impl_Graph_ways_l0] at h
    by_cases c1 : 0 < ((v3.length : Nat) : Int)
    · rw [if_pos c1] at h
      obtain ⟨x2, hx2, h⟩ := Option.bind_eq_some_iff.1 h
      obtain ⟨s3, hs3, h⟩ := Option.bind_eq_some_iff.1 h
      obtain ⟨⟨o4_0, o4_1⟩, ho4, h⟩ := Option.bind_eq_some_iff.1 h
      try dsimp only at h
      exact loop_on cfg [(.len (eL e_int v3), .i ((v3.length : Nat) : Int)), (.ltI 0 ((v3.length : Nat) : Int), .b true), (.nat 0, .n 0), (.idx (eL e_int v3) 0, .e [.int .i64 x2]), (.idx (eL e_int v3) 0, .e [.int .i64 x2]), (.nat 1, .n 1), (.cut (eL e_int v3) (some 1) none, .l (eL e_int s3)), (.len (eL e_GEdge a0.Edges), .i ((a0.Edges.length : Nat) : Int)), (.loop 39 (loopB Try.f39 1) ⟨[(2, .val false [.ptr 0 0]), (4, .val false [.ptr 1 0]), (5, .val false [.ptr 2 0]), (6, .val false [.ref 3]), (7, .val false [.int .i64 x2]), (22, .val false [.seq (eL e_GEdge a0.Edges)]), (23, .val false [.int .i64 ((a0.Edges.length : Nat) : Int)]), (24, .val false [.int .i64 0])], [.var [.int .i64 a0.N, .seq (eL e_GEdge a0.Edges)], .var [.bool (v1 0), .bool (v1 1), .bool (v1 2), .bool (v1 3), .bool (v1 4), .bool (v1 5), .bool (v1 6), .bool (v1 7), .bool (v1 8), .bool (v1 9), .bool (v1 10), .bool (v1 11), .bool (v1 12), .bool (v1 13), .bool (v1 14), .bool (v1 15), .bool (v1 16), .bool (v1 17), .bool (v1 18), .bool (v1 19)], .var [.bool (v2 0), .bool (v2 1), .bool (v2 2), .bool (v2 3), .bool (v2 4), .bool (v2 5), .bool (v2 6), .bool (v2 7), .bool (v2 8), .bool (v2 9), .bool (v2 10), .bool (v2 11), .bool (v2 12), .bool (v2 13), .bool (v2 14), .bool (v2 15), .bool (v2 16), .bool (v2 17), .bool (v2 18), .bool (v2 19)], .obj 1 (eL e_int s3)], 0⟩, .x (.exit 2) ⟨[(2, .val false [.ptr 0 0]), (4, .val false [.ptr 1 0]), (5, .val false [.ptr 2 0]), (6, .val false [.ref 3])], [.var [.int .i64 a0.N, .seq (eL e_GEdge a0.Edges)], .var [.bool (v1 0), .bool (v1 1), .bool (v1 2), .bool (v1 3), .bool (v1 4), .bool (v1 5), .bool (v1 6), .bool (v1 7), .bool (v1 8), .bool (v1 9), .bool (v1 10), .bool (v1 11), .bool (v1 12), .bool (v1 13), .bool (v1 14), .bool (v1 15), .bool (v1 16), .bool (v1 17), .bool (v1 18), .bool (v1 19)], .var [.bool (o4_0 0), .bool (o4_0 1), .bool (o4_0 2), .bool (o4_0 3), .bool (o4_0 4), .bool (o4_0 5), .bool (o4_0 6), .bool (o4_0 7), .bool (o4_0 8), .bool (o4_0 9), .bool (o4_0 10), .bool (o4_0 11), .bool (o4_0 12), .bool (o4_0 13), .bool (o4_0 14), .bool (o4_0 15), .bool (o4_0 16), .bool (o4_0 17), .bool (o4_0 18), .bool (o4_0 19)], .obj 1 (eL e_int o4_1)], 0⟩)] (by kernel_rfl) ⟨A.len, (A.ltI_t c1), rfl, (A.idx hx2 rfl), (A.idx hx2 rfl), rfl, (A.cut hs3), A.len, (A.loop (gl_impl_Graph_ways_l1 x2 a0.Edges ((a0.Edges.length : Nat) : Int) a0 v1 _ 0 v2 s3 _ ho4)), trivial⟩ (ih o4_0 o4_1 o h)
    · rw [if_neg c1] at h
      obtain rfl := Option.some.inj h
      exact loop_end cfg [(.len (eL e_int v3), .i ((v3.length : Nat) : Int)), (.ltI 0 ((v3.length : Nat) : Int), .b false)] (by kernel_rfl) ⟨A.len, (A.ltI_f c1), trivial⟩ (by intro h; cases h)

def T_impl_Graph_ways (n : Nat) (a0 : GGraph) (a1 : Int) : Option (Nat → Bool) :=
  (L_impl_Graph_ways_l0 n a0 (fun _ => false) n (fun _ => false) [a1]).bind fun o1 =>
  some o1

set_option maxRecDepth 100000 in
theorem fd_39 : cfg.funcs 39 = some (bodyOf Try.f39, Try.f39.ntmps, Try.f39.results.toList) := fn_of Try.func39 (by kernel_rfl) (by kernel_rfl)
theorem g_impl_Graph_ways (n : Nat) (a0 : GGraph) (a1 : Int) (r : (Nat → Bool)) (h : T_impl_Graph_ways n a0 a1 = some r) : (mach cfg).call 39 [] [.val true [.int .i64 a0.N, .seq (eL e_GEdge a0.Edges)], .val false [.int .i64 a1]] = some (.val true [.bool (r 0), .bool (r 1), .bool (r 2), .bool (r 3), .bool (r 4), .bool (r 5), .bool (r 6), .bool (r 7), .bool (r 8), .bool (r 9), .bool (r 10), .bool (r 11), .bool (r 12), .bool (r 13), .bool (r 14), .bool (r 15), .bool (r 16), .bool (r 17), .bool (r 18), .bool (r 19)], []) := by
  unfold T_impl_Graph_ways at h
  obtain ⟨o1, ho1, h⟩ := Option.bind_eq_some_iff.1 h
  obtain rfl := Option.some.inj h
  exact call_way cfg [(.loop 39 (loopB Try.f39 0) ⟨[(2, .val false [.ptr 0 0]), (4, .val false [.ptr 1 0]), (5, .val false [.ptr 2 0]), (6, .val false [.ref 3])], [.var [.int .i64 a0.N, .seq (eL e_GEdge a0.Edges)], .var [.bool ((fun _ => false) 0), .bool ((fun _ => false) 1), .bool ((fun _ => false) 2), .bool ((fun _ => false) 3), .bool ((fun _ => false) 4), .bool ((fun _ => false) 5), .bool ((fun _ => false) 6), .bool ((fun _ => false) 7), .bool ((fun _ => false) 8), .bool ((fun _ => false) 9), .bool ((fun _ => false) 10), .bool ((fun _ => false) 11), .bool ((fun _ => false) 12), .bool ((fun _ => false) 13), .bool ((fun _ => false) 14), .bool ((fun _ => false) 15), .bool ((fun _ => false) 16), .bool ((fun _ => false) 17), .bool ((fun _ => false) 18), .bool ((fun _ => false) 19)], .var [.bool ((fun _ => false) 0), .bool ((fun _ => false) 1), .bool ((fun _ => false) 2), .bool ((fun _ => false) 3), .bool ((fun _ => false) 4), .bool ((fun _ => false) 5), .bool ((fun _ => false) 6), .bool ((fun _ => false) 7), .bool ((fun _ => false) 8), .bool ((fun _ => false) 9), .bool ((fun _ => false) 10), .bool ((fun _ => false) 11), .bool ((fun _ => false) 12), .bool ((fun _ => false) 13), .bool ((fun _ => false) 14), .bool ((fun _ => false) 15), .bool ((fun _ => false) 16), .bool ((fun _ => false) 17), .bool ((fun _ => false) 18), .bool ((fun _ => false) 19)], .obj 1 (eL e_int [a1])], 0⟩, .x (.exit 0) ⟨[(4, .val false [.ptr 0 0]), (5, .val false [.ptr 1 0])], [.var [.bool ((fun _ => false) 0), .bool ((fun _ => false) 1), .bool ((fun _ => false) 2), .bool ((fun _ => false) 3), .bool ((fun _ => false) 4), .bool ((fun _ => false) 5), .bool ((fun _ => false) 6), .bool ((fun _ => false) 7), .bool ((fun _ => false) 8), .bool ((fun _ => false) 9), .bool ((fun _ => false) 10), .bool ((fun _ => false) 11), .bool ((fun _ => false) 12), .bool ((fun _ => false) 13), .bool ((fun _ => false) 14), .bool ((fun _ => false) 15), .bool ((fun _ => false) 16), .bool ((fun _ => false) 17), .bool ((fun _ => false) 18), .bool ((fun _ => false) 19)], .var [.bool (o1 0), .bool (o1 1), .bool (o1 2), .bool (o1 3), .bool (o1 4), .bool (o1 5), .bool (o1 6), .bool (o1 7), .bool (o1 8), .bool (o1 9), .bool (o1 10), .bool (o1 11), .bool (o1 12), .bool (o1 13), .bool (o1 14), .bool (o1 15), .bool (o1 16), .bool (o1 17), .bool (o1 18), .bool (o1 19)]], 0⟩)] rfl fd_39 (by kernel_rfl) ⟨(A.loop (gl_impl_Graph_ways_l0 n a0 (fun _ => false) _ (fun _ => false) [a1] _ ho1)), trivial⟩

/-- What one vertex adds: its ends that are new. -/
def wst (x : Int) : List GEdge → (Nat → Bool) × List Int → (Nat → Bool) × List Int
  | [], s => s
  | e :: l, s => wst x l (if e.From = x then (if s.1 e.To.toNat = true then s else (updA s.1 e.To.toNat true, s.2 ++ [e.To])) else s)
theorem updA_mono {p : Nat → Bool} {i j : Nat} (h : p j = true) : updA p i true j = true := by
  unfold updA
  split
  · rfl
  · exact h
theorem wst_mono {x : Int} : ∀ (l : List GEdge) (s : (Nat → Bool) × List Int) (j : Nat), s.1 j = true → (wst x l s).1 j = true := by
  intro l
  induction l with
  | nil => intro s j h; exact h
  | cons e l ih =>
    intro s j h
    rw [wst]
    refine ih _ j ?_
    split
    · split
      · exact h
      · exact updA_mono h
    · exact h
theorem wst_sub {x : Int} : ∀ (l : List GEdge) (s : (Nat → Bool) × List Int) (t : Int), t ∈ s.2 → t ∈ (wst x l s).2 := by
  intro l
  induction l with
  | nil => intro s t h; exact h
  | cons e l ih =>
    intro s t h
    rw [wst]
    refine ih _ t ?_
    split
    · split
      · exact h
      · exact List.mem_append.2 (.inl h)
    · exact h
theorem wst_does {x : Int} : ∀ (l : List GEdge) (s : (Nat → Bool) × List Int), ∀ e ∈ l, e.From = x → (wst x l s).1 e.To.toNat = true := by
  intro l
  induction l with
  | nil => intro s e he; cases he
  | cons e0 l ih =>
    intro s e he hx
    rw [wst]
    rcases List.mem_cons.1 he with rfl | he
    · refine wst_mono l _ _ ?_
      rw [if_pos hx]
      split
      · assumption
      · unfold updA; simp
    · exact ih _ e he hx
theorem wst_new {x : Int} : ∀ (l : List GEdge) (s : (Nat → Bool) × List Int) (j : Nat), (wst x l s).1 j = true → s.1 j = true ∨ ∃ e ∈ l, e.From = x ∧ e.To.toNat = j ∧ e.To ∈ (wst x l s).2 := by
  intro l
  induction l with
  | nil => intro s j h; exact .inl h
  | cons e l ih =>
    intro s j h
    rw [wst] at h ⊢
    rcases ih _ j h with h1 | ⟨e', h1, h2, h3, h4⟩
    · by_cases c : e.From = x
      · rw [if_pos c] at h1
        by_cases c2 : s.1 e.To.toNat = true
        · rw [if_pos c2] at h1; exact .inl h1
        · rw [if_neg c2] at h1
          unfold updA at h1
          simp only at h1
          split at h1
          · rename_i hj
            refine .inr ⟨e, by simp, c, hj.symm, wst_sub l _ _ ?_⟩
            rw [if_pos c, if_neg c2]
            simp
          · exact .inl h1
      · rw [if_neg c] at h1; exact .inl h1
    · exact .inr ⟨e', by simp [h1], h2, h3, h4⟩
theorem wst_todo {x : Int} : ∀ (l : List GEdge) (s : (Nat → Bool) × List Int) (t : Int), t ∈ (wst x l s).2 → t ∈ s.2 ∨ ∃ e ∈ l, e.From = x ∧ e.To = t := by
  intro l
  induction l with
  | nil => intro s t h; exact .inl h
  | cons e l ih =>
    intro s t h
    rw [wst] at h
    rcases ih _ t h with h1 | ⟨e', h1, h2⟩
    · by_cases c : e.From = x
      · rw [if_pos c] at h1
        by_cases c2 : s.1 e.To.toNat = true
        · rw [if_pos c2] at h1; exact .inl h1
        · rw [if_neg c2] at h1
          rcases List.mem_append.1 h1 with h1 | h1
          · exact .inl h1
          · simp at h1; exact .inr ⟨e, by simp, c, h1.symm⟩
      · rw [if_neg c] at h1; exact .inl h1
    · exact .inr ⟨e', by simp [h1], h2⟩
theorem wst_meas {x : Int} : ∀ (l : List GEdge) (s : (Nat → Bool) × List Int), GB 20 l → (wst x l s).2.length + (20 - cnt (wst x l s).1 20) = s.2.length + (20 - cnt s.1 20) := by
  intro l
  induction l with
  | nil => intro s _; rfl
  | cons e l ih =>
    intro s hE
    rw [wst, ih _ fun e he => hE e (by simp [he])]
    have hb := hE e (by simp)
    by_cases c : e.From = x
    · rw [if_pos c]
      by_cases c2 : s.1 e.To.toNat = true
      · rw [if_pos c2]
      · rw [if_neg c2]
        have h1 := cnt_upd (p := s.1) (k := 20) (i := e.To.toNat) (by omega) (by simpa using c2)
        have h2 := cnt_le (updA s.1 e.To.toNat true) 20
        simp only [List.length_append, List.length_cons, List.length_nil]
        rw [h1] at h2 ⊢
        omega
    · rw [if_neg c]
theorem ways_l1 {x : Int} {g a0 : GGraph} {v5 : Nat → Bool} (ha : g.Edges.length ≤ 400) (hE : GB 20 g.Edges) : ∀ (d i m : Nat) (p : Nat → Bool) (t : List Int), i + d = g.Edges.length → d < m → t.length + (20 - cnt p 20) ≤ 21 →
    L_impl_Graph_ways_l1 x g.Edges ((g.Edges.length : Nat) : Int) a0 v5 m (i : Int) p t = some (wst x (g.Edges.drop i) (p, t)) := by
  intro d
  induction d with
  | zero =>
    intro i m p t hi hm ht
    obtain ⟨m, rfl, _⟩ := fuel hm
    rw [L_impl_Graph_ways_l1, if_neg (by omega), List.drop_eq_nil_of_le (by omega)]; rfl
  | succ d ih =>
    intro i m p t hi hm ht
    obtain ⟨m, rfl, hm'⟩ := fuel hm
    have hil : i < g.Edges.length := by omega
    have hb := hE _ (List.getElem_mem hil)
    rw [L_impl_Graph_ways_l1, if_pos (by omega), natO_nat, Option.bind_some, get_some hil, Option.bind_some, drop_cons hil, wst]
    by_cases c : g.Edges[i].From = x
    · rw [if_pos c, if_pos c, natO_pos hb.2.2.1, Option.bind_some, if_pos (by omega)]
      dsimp only
      rcases Bool.eq_false_or_eq_true (p g.Edges[i].To.toNat) with hp | hp
      · simp only [hp, if_true]
        rw [w64_succ (by omega)]
        exact ih (i + 1) m p t (by omega) (by omega) ht
      · simp only [hp, Bool.false_eq_true, if_false]
        rw [if_pos (show roomP 8 (t.length + [g.Edges[i].To].length) from ⟨by simp [maxBytes]; omega, by simp; omega⟩), w64_succ (by omega)]
        refine ih (i + 1) m _ _ (by omega) (by omega) ?_
        have h1 := cnt_upd (p := p) (k := 20) (i := g.Edges[i].To.toNat) (by omega) hp
        have h2 := cnt_le (updA p g.Edges[i].To.toNat true) 20
        simp only [List.length_append, List.length_cons, List.length_nil]
        rw [h1] at h2 ⊢
        omega
    · rw [if_neg c, if_neg c, w64_succ (by omega)]
      exact ih (i + 1) m p t (by omega) (by omega) ht
structure WI (E : List GEdge) (a : Int) (p : Nat → Bool) (t : List Int) : Prop where
  sound : ∀ j : Nat, p j = true → Way E a (j : Int)
  todo : ∀ x ∈ t, x = a ∨ Way E a x
  closed : ∀ v : Int, (v = a ∨ ∃ j : Nat, p j = true ∧ (j : Int) = v) → v ∈ t ∨ ∀ e ∈ E, e.From = v → p e.To.toNat = true
theorem WI.step {E : List GEdge} {a x : Int} {p : Nat → Bool} {t : List Int} (hE : GB 20 E) (h : WI E a p (x :: t)) : WI E a (wst x E (p, t)).1 (wst x E (p, t)).2 := by
  have way : ∀ e ∈ E, e.From = x → Way E a e.To := fun e he hx => by
    rcases h.todo x (by simp) with rfl | hw
    · exact .one ⟨e, he, hx, rfl⟩
    · exact .more hw ⟨e, he, hx, rfl⟩
  refine ⟨fun j hj => ?_, fun y hy => ?_, fun v hv => ?_⟩
  · rcases wst_new E _ j hj with h1 | ⟨e, he, hx, hj, _⟩
    · exact h.sound j h1
    · have hb := hE e he
      have := way e he hx
      rw [show (j : Int) = e.To by omega]; exact this
  · rcases wst_todo E _ y hy with h1 | ⟨e, he, hx, rfl⟩
    · exact h.todo y (by simp only [List.mem_cons]; exact .inr h1)
    · exact .inr (way e he hx)
  · have old : (v = a ∨ ∃ j : Nat, p j = true ∧ (j : Int) = v) → v ∈ (wst x E (p, t)).2 ∨ ∀ e ∈ E, e.From = v → (wst x E (p, t)).1 e.To.toNat = true := fun ho => by
      rcases h.closed v ho with h1 | h1
      · rcases List.mem_cons.1 h1 with rfl | h1
        · exact .inr fun e he hx => wst_does E _ e he hx
        · exact .inl (wst_sub E _ v h1)
      · exact .inr fun e he hx => wst_mono E _ _ (h1 e he hx)
    rcases hv with hv | ⟨j, hj, hjv⟩
    · exact old (.inl hv)
    · rcases wst_new E _ j hj with h1 | ⟨e, he, hx, hj2, hm⟩
      · exact old (.inr ⟨j, h1, hjv⟩)
      · have hb := hE e he
        left
        rw [show v = e.To by omega]; exact hm
theorem ways_l0 {a : Int} {g : GGraph} {n : Nat} {v1 : Nat → Bool} (ha : g.Edges.length ≤ 400) (hn : g.Edges.length < n) (hE : GB 20 g.Edges) : ∀ (F : Nat) (p : Nat → Bool) (t : List Int) (m : Nat), t.length + (20 - cnt p 20) = F → F ≤ 21 → F < m → WI g.Edges a p t →
    ∃ q, L_impl_Graph_ways_l0 n g v1 m p t = some q ∧ ∀ j : Nat, q j = true ↔ Way g.Edges a (j : Int) := by
  intro F
  induction F with
  | zero =>
    intro p t m hF hF2 hm hI
    obtain ⟨m, rfl, _⟩ := fuel hm
    have : t = [] := List.eq_nil_of_length_eq_zero (by omega)
    subst this
    refine ⟨p, by rw [L_impl_Graph_ways_l0, if_neg (by simp)], fun j => ⟨hI.sound j, fun h => ?_⟩⟩
    have key : ∀ v w, Way g.Edges v w → v = a → p w.toNat = true := fun v w hw => by
      induction hw with
      | one h =>
        intro hv
        obtain ⟨e, he, h1, rfl⟩ := h
        exact ((hI.closed a (.inl rfl)).resolve_left (by simp)) e he (h1.trans hv)
      | more hw h ih =>
        intro hv
        have hu := ih hv
        obtain ⟨e, he, h1, rfl⟩ := h
        have hb := hw.bound hE
        exact ((hI.closed e.From (.inr ⟨_, hu, by omega⟩)).resolve_left (by simp)) e he rfl
    have := key a j h rfl
    simpa using this
  | succ F ih =>
    intro p t m hF hF2 hm hI
    obtain ⟨m, rfl, hm'⟩ := fuel hm
    cases t with
    | nil =>
      refine ⟨p, by rw [L_impl_Graph_ways_l0, if_neg (by simp)], fun j => ⟨hI.sound j, fun h => ?_⟩⟩
      have key : ∀ v w, Way g.Edges v w → v = a → p w.toNat = true := fun v w hw => by
        induction hw with
        | one h =>
          intro hv
          obtain ⟨e, he, h1, rfl⟩ := h
          exact ((hI.closed a (.inl rfl)).resolve_left (by simp)) e he (h1.trans hv)
        | more hw h ih =>
          intro hv
          have hu := ih hv
          obtain ⟨e, he, h1, rfl⟩ := h
          have hb := hw.bound hE
          exact ((hI.closed e.From (.inr ⟨_, hu, by omega⟩)).resolve_left (by simp)) e he rfl
      have := key a j h rfl
      simpa using this
    | cons x t =>
      rw [L_impl_Graph_ways_l0, if_pos (by simp)]
      rw [show (x :: t)[0]? = some x from rfl, Option.bind_some]
      have hc : cutO (x :: t) (some 1) none = some t := by
        unfold cutO bound
        simp
      rw [hc, Option.bind_some]
      simp only [List.length_cons] at hF
      have h1 := ways_l1 (x := x) (a0 := g) (v5 := v1) ha hE g.Edges.length 0 n p t (by omega) hn (by omega)
      rw [show ((0 : Nat) : Int) = 0 from rfl, List.drop_zero] at h1
      rw [h1, Option.bind_some]
      have hm1 := wst_meas (x := x) g.Edges (p, t) hE
      simp only at hm1
      exact ih _ _ m (by omega) (by omega) (by omega) (hI.step hE)
open Classical in
noncomputable def S_impl_Graph_ways (a0 : GGraph) (a1 : Int) : Option (Nat → Bool) := if GB 20 a0.Edges ∧ a0.Edges.length ≤ 400 then some (fun j => decide (Way a0.Edges a1 (j : Int))) else none
open Classical in
theorem spec_impl_Graph_ways (a0 : GGraph) (a1 : Int) (r : (Nat → Bool)) (h : S_impl_Graph_ways a0 a1 = some r) : ∃ n, T_impl_Graph_ways n a0 a1 = some r := by
  unfold S_impl_Graph_ways at h
  obtain ⟨⟨h1, h2⟩, h⟩ := need_c h
  refine ⟨a0.Edges.length + 22, ?_⟩
  have hc : cnt (fun _ => false) 20 = 0 := by decide
  obtain ⟨q, e, hq⟩ := ways_l0 (a := a1) (n := a0.Edges.length + 22) (v1 := fun _ => false) h2 (by omega) h1 21 (fun _ => false) [a1] (a0.Edges.length + 22) (by rw [hc]; rfl) (by omega) (by omega)
    ⟨fun j hj => by simp at hj, fun x hx => by simp at hx; exact .inl hx, fun v hv => by
      rcases hv with rfl | ⟨j, hj, _⟩
      · left; simp
      · cases hj⟩
  unfold T_impl_Graph_ways
  rw [e, Option.bind_some, ← h]
  congr 1
  funext j
  rcases Bool.eq_false_or_eq_true (q j) with hj | hj
  · rw [hj, decide_eq_true ((hq j).1 hj)]
  · rw [hj, decide_eq_false fun hw => by rw [(hq j).2 hw] at hj; cases hj]
theorem ok_impl_Graph_ways (a0 : GGraph) (a1 : Int) (r : (Nat → Bool)) (h : S_impl_Graph_ways a0 a1 = some r) : (mach cfg).call 39 [] [.val true [.int .i64 a0.N, .seq (eL e_GEdge a0.Edges)], .val false [.int .i64 a1]] = some (.val true [.bool (r 0), .bool (r 1), .bool (r 2), .bool (r 3), .bool (r 4), .bool (r 5), .bool (r 6), .bool (r 7), .bool (r 8), .bool (r 9), .bool (r 10), .bool (r 11), .bool (r 12), .bool (r 13), .bool (r 14), .bool (r 15), .bool (r 16), .bool (r 17), .bool (r 18), .bool (r 19)], []) := by
  obtain ⟨n, hn⟩ := spec_impl_Graph_ways a0 a1 r h
  exact g_impl_Graph_ways n a0 a1 r hn
def S_impl_Leads (a0 : GGraph) (a1 : Int) (a2 : Int) : Option Bool :=
  (S_impl_isGraph a0).bind fun r1 =>
  match r1 with
  | true =>
    (S_impl_in a1 0 (w64 (a0.N - 1))).bind fun r3 =>
    match r3 with
    | true =>
      (S_impl_in a2 0 (w64 (a0.N - 1))).bind fun r5 =>
      match r5 with
      | true =>
        (S_impl_Graph_ways a0 a1).bind fun r7 =>
        (natO a2).bind fun i8 =>
        if ((i8 : Nat) : Int) < 20 then
        some (r7 i8)
        else none
      | false =>
        some false
    | false =>
      some false
  | false =>
    some false

set_option maxRecDepth 100000 in
theorem fd_14 : cfg.funcs 14 = some (bodyOf Try.f14, Try.f14.ntmps, Try.f14.results.toList) := fn_of Try.func14 (by kernel_rfl) (by kernel_rfl)
theorem ok_impl_Leads (a0 : GGraph) (a1 : Int) (a2 : Int) (r : Bool) (h : S_impl_Leads a0 a1 a2 = some r) : (mach cfg).call 14 [] [.val true [.int .i64 a0.N, .seq (eL e_GEdge a0.Edges)], .val false [.int .i64 a1], .val false [.int .i64 a2]] = some (.val false [.bool r], []) := by
  unfold S_impl_Leads at h
  obtain ⟨r1, hr1, h⟩ := Option.bind_eq_some_iff.1 h
  cases r1 with
  | true =>
    try dsimp only at h
    obtain ⟨r3, hr3, h⟩ := Option.bind_eq_some_iff.1 h
    cases r3 with
    | true =>
      try dsimp only at h
      obtain ⟨r5, hr5, h⟩ := Option.bind_eq_some_iff.1 h
      cases r5 with
      | true =>
        try dsimp only at h
        obtain ⟨r7, hr7, h⟩ := Option.bind_eq_some_iff.1 h
        obtain ⟨i8, hi8, h⟩ := Option.bind_eq_some_iff.1 h
        obtain ⟨n9, h⟩ := need_some h
        obtain rfl := Option.some.inj h
        exact call_way cfg [(.call 35 [] [.val true [.int .i64 a0.N, .seq (eL e_GEdge a0.Edges)]], .r (.val false [.bool true]) []), (.sub .i64 a0.N 1, .i (w64 (a0.N - 1))), (.call 38 [] [.val false [.int .i64 a1], .val false [.int .i64 0], .val false [.int .i64 (w64 (a0.N - 1))]], .r (.val false [.bool true]) []), (.sub .i64 a0.N 1, .i (w64 (a0.N - 1))), (.call 38 [] [.val false [.int .i64 a2], .val false [.int .i64 0], .val false [.int .i64 (w64 (a0.N - 1))]], .r (.val false [.bool true]) []), (.call 39 [] [.val true [.int .i64 a0.N, .seq (eL e_GEdge a0.Edges)], .val false [.int .i64 a1]], .r (.val true [.bool (r7 0), .bool (r7 1), .bool (r7 2), .bool (r7 3), .bool (r7 4), .bool (r7 5), .bool (r7 6), .bool (r7 7), .bool (r7 8), .bool (r7 9), .bool (r7 10), .bool (r7 11), .bool (r7 12), .bool (r7 13), .bool (r7 14), .bool (r7 15), .bool (r7 16), .bool (r7 17), .bool (r7 18), .bool (r7 19)]) []), (.nat a2, .n i8), (.ltI ((i8 : Nat) : Int) ((20 : Nat) : Int), .b true), (.subA [.bool (r7 0), .bool (r7 1), .bool (r7 2), .bool (r7 3), .bool (r7 4), .bool (r7 5), .bool (r7 6), .bool (r7 7), .bool (r7 8), .bool (r7 9), .bool (r7 10), .bool (r7 11), .bool (r7 12), .bool (r7 13), .bool (r7 14), .bool (r7 15), .bool (r7 16), .bool (r7 17), .bool (r7 18), .bool (r7 19)] i8 1 0 1, .e [.bool (r7 i8)])] rfl fd_14 (by kernel_rfl) ⟨(A.call (ok_impl_isGraph a0 _ hr1)), rfl, (A.call (ok_impl_in a1 0 (w64 (a0.N - 1)) _ hr3)), rfl, (A.call (ok_impl_in a2 0 (w64 (a0.N - 1)) _ hr5)), (A.call (ok_impl_Graph_ways a0 a1 _ hr7)), (A.nat hi8), (A.ltI_t n9), (A.sub_b (n := 20) (a := r7) n9), trivial⟩
      | false =>
        try dsimp only at h
        obtain rfl := Option.some.inj h
        exact call_way cfg [(.call 35 [] [.val true [.int .i64 a0.N, .seq (eL e_GEdge a0.Edges)]], .r (.val false [.bool true]) []), (.sub .i64 a0.N 1, .i (w64 (a0.N - 1))), (.call 38 [] [.val false [.int .i64 a1], .val false [.int .i64 0], .val false [.int .i64 (w64 (a0.N - 1))]], .r (.val false [.bool true]) []), (.sub .i64 a0.N 1, .i (w64 (a0.N - 1))), (.call 38 [] [.val false [.int .i64 a2], .val false [.int .i64 0], .val false [.int .i64 (w64 (a0.N - 1))]], .r (.val false [.bool false]) [])] rfl fd_14 (by kernel_rfl) ⟨(A.call (ok_impl_isGraph a0 _ hr1)), rfl, (A.call (ok_impl_in a1 0 (w64 (a0.N - 1)) _ hr3)), rfl, (A.call (ok_impl_in a2 0 (w64 (a0.N - 1)) _ hr5)), trivial⟩
    | false =>
      try dsimp only at h
      obtain rfl := Option.some.inj h
      exact call_way cfg [(.call 35 [] [.val true [.int .i64 a0.N, .seq (eL e_GEdge a0.Edges)]], .r (.val false [.bool true]) []), (.sub .i64 a0.N 1, .i (w64 (a0.N - 1))), (.call 38 [] [.val false [.int .i64 a1], .val false [.int .i64 0], .val false [.int .i64 (w64 (a0.N - 1))]], .r (.val false [.bool false]) [])] rfl fd_14 (by kernel_rfl) ⟨(A.call (ok_impl_isGraph a0 _ hr1)), rfl, (A.call (ok_impl_in a1 0 (w64 (a0.N - 1)) _ hr3)), trivial⟩
  | false =>
    try dsimp only at h
    obtain rfl := Option.some.inj h
    exact call_way cfg [(.call 35 [] [.val true [.int .i64 a0.N, .seq (eL e_GEdge a0.Edges)]], .r (.val false [.bool false]) [])] rfl fd_14 (by kernel_rfl) ⟨(A.call (ok_impl_isGraph a0 _ hr1)), trivial⟩

def S_laws_eqEdge (a0 : GEdge) (a1 : GEdge) : Option Bool :=
  if a0.From = a1.From then
    if a0.To = a1.To then
      some true
    else
      some false
  else
    some false

set_option maxRecDepth 100000 in
theorem fd_72 : cfg.funcs 72 = some (bodyOf Try.f72, Try.f72.ntmps, Try.f72.results.toList) := fn_of Try.func72 (by kernel_rfl) (by kernel_rfl)
theorem ok_laws_eqEdge (a0 : GEdge) (a1 : GEdge) (r : Bool) (h : S_laws_eqEdge a0 a1 = some r) : (mach cfg).call 72 [] [.val true [.int .i64 a0.From, .int .i64 a0.To], .val true [.int .i64 a1.From, .int .i64 a1.To]] = some (.val false [.bool r], []) := by
  unfold S_laws_eqEdge at h
  by_cases c1 : a0.From = a1.From
  · rw [if_pos c1] at h
    by_cases c2 : a0.To = a1.To
    · rw [if_pos c2] at h
      obtain rfl := Option.some.inj h
      exact call_way cfg [(.eqI a0.From a1.From, .b true), (.notB true, .b false), (.eqI a0.To a1.To, .b true), (.notB true, .b false)] rfl fd_72 (by kernel_rfl) ⟨(A.eqI_t c1), rfl, (A.eqI_t c2), rfl, trivial⟩
    · rw [if_neg c2] at h
      obtain rfl := Option.some.inj h
      exact call_way cfg [(.eqI a0.From a1.From, .b true), (.notB true, .b false), (.eqI a0.To a1.To, .b false), (.notB false, .b true)] rfl fd_72 (by kernel_rfl) ⟨(A.eqI_t c1), rfl, (A.eqI_f c2), rfl, trivial⟩
  · rw [if_neg c1] at h
    obtain rfl := Option.some.inj h
    exact call_way cfg [(.eqI a0.From a1.From, .b false), (.notB false, .b true)] rfl fd_72 (by kernel_rfl) ⟨(A.eqI_f c1), rfl, trivial⟩

def L_laws_eqEdgeS_l0 (a0 : (List GEdge)) (a1 : (List GEdge)) : Nat → Int → Option (Bool ⊕ Int)
  | 0, _ => none
  | m + 1, v2 =>
    if v2 < ((a0.length : Nat) : Int) then
      (natO v2).bind fun i2 =>
      (a0[i2]?).bind fun x3 =>
      (a1[i2]?).bind fun x4 =>
      (S_laws_eqEdge x3 x4).bind fun r5 =>
      match r5 with
      | true =>
        L_laws_eqEdgeS_l0 a0 a1 m (w64 (v2 + 1))
      | false =>
        some (.inl false)
    else
      some (.inr v2)

theorem gl_laws_eqEdgeS_l0 (a0 : (List GEdge)) (a1 : (List GEdge)) (m : Nat) : ∀ (v2 : Int) (o : (Bool ⊕ Int)), L_laws_eqEdgeS_l0 a0 a1 m v2 = some o → (mach cfg).loop 36 (loopB Try.f36 0) ⟨[(0, .val false [.seq (eL e_GEdge a0)]), (1, .val false [.seq (eL e_GEdge a1)]), (5, .val false [.int .i64 v2])], [], 0⟩ = some (match o with | .inl o_0 => (.ret, (⟨[(4, .val false [.bool o_0])], [], 0⟩ : S)) | .inr (o_1) => (.exit 0, (⟨[(0, .val false [.seq (eL e_GEdge a0)]), (1, .val false [.seq (eL e_GEdge a1)]), (5, .val false [.int .i64 o_1]), (14, .val false [.bool false])], [], 0⟩ : S))) := by
  induction m with
  | zero => intro v2 o h; cases h
  | succ m ih =>
    intro v2 o h
    rw [L_laws_eqEdgeS_l0] at h
    by_cases c1 : v2 < ((a0.length : Nat) : Int)
    · rw [if_pos c1] at h
      obtain ⟨i2, hi2, h⟩ := Option.bind_eq_some_iff.1 h
      obtain ⟨x3, hx3, h⟩ := Option.bind_eq_some_iff.1 h
      obtain ⟨x4, hx4, h⟩ := Option.bind_eq_some_iff.1 h
      obtain ⟨r5, hr5, h⟩ := Option.bind_eq_some_iff.1 h
      cases r5 with
      | true =>
        try dsimp only at h
        exact loop_on cfg [(.len (eL e_GEdge a0), .i ((a0.length : Nat) : Int)), (.ltI v2 ((a0.length : Nat) : Int), .b true), (.nat v2, .n i2), (.idx (eL e_GEdge a0) i2, .e [.int .i64 x3.From, .int .i64 x3.To]), (.nat v2, .n i2), (.idx (eL e_GEdge a1) i2, .e [.int .i64 x4.From, .int .i64 x4.To]), (.call 72 [] [.val true [.int .i64 x3.From, .int .i64 x3.To], .val true [.int .i64 x4.From, .int .i64 x4.To]], .r (.val false [.bool true]) []), (.notB true, .b false), (.add .i64 v2 1, .i (w64 (v2 + 1)))] (by kernel_rfl) ⟨A.len, (A.ltI_t c1), (A.nat hi2), (A.idx hx3 (eq_GEdge x3)), (A.nat hi2), (A.idx hx4 (eq_GEdge x4)), (A.call (ok_laws_eqEdge x3 x4 _ hr5)), rfl, rfl, trivial⟩ (ih (w64 (v2 + 1)) o h)
      | false =>
        try dsimp only at h
        obtain rfl := Option.some.inj h
        exact loop_end cfg [(.len (eL e_GEdge a0), .i ((a0.length : Nat) : Int)), (.ltI v2 ((a0.length : Nat) : Int), .b true), (.nat v2, .n i2), (.idx (eL e_GEdge a0) i2, .e [.int .i64 x3.From, .int .i64 x3.To]), (.nat v2, .n i2), (.idx (eL e_GEdge a1) i2, .e [.int .i64 x4.From, .int .i64 x4.To]), (.call 72 [] [.val true [.int .i64 x3.From, .int .i64 x3.To], .val true [.int .i64 x4.From, .int .i64 x4.To]], .r (.val false [.bool false]) []), (.notB false, .b true)] (by kernel_rfl) ⟨A.len, (A.ltI_t c1), (A.nat hi2), (A.idx hx3 (eq_GEdge x3)), (A.nat hi2), (A.idx hx4 (eq_GEdge x4)), (A.call (ok_laws_eqEdge x3 x4 _ hr5)), rfl, trivial⟩ (by intro h; cases h)
    · rw [if_neg c1] at h
      obtain rfl := Option.some.inj h
      exact loop_end cfg [(.len (eL e_GEdge a0), .i ((a0.length : Nat) : Int)), (.ltI v2 ((a0.length : Nat) : Int), .b false)] (by kernel_rfl) ⟨A.len, (A.ltI_f c1), trivial⟩ (by intro h; cases h)

def T_laws_eqEdgeS (n : Nat) (a0 : (List GEdge)) (a1 : (List GEdge)) : Option Bool :=
  if ((a0.length : Nat) : Int) = ((a1.length : Nat) : Int) then
    (L_laws_eqEdgeS_l0 a0 a1 n 0).bind fun o2 =>
    match o2 with
    | .inl o2_0 =>
      some o2_0
    | .inr (o2_1) =>
      some true
  else
    some false

set_option maxRecDepth 100000 in
theorem fd_36 : cfg.funcs 36 = some (bodyOf Try.f36, Try.f36.ntmps, Try.f36.results.toList) := fn_of Try.func36 (by kernel_rfl) (by kernel_rfl)
theorem g_laws_eqEdgeS (n : Nat) (a0 : (List GEdge)) (a1 : (List GEdge)) (r : Bool) (h : T_laws_eqEdgeS n a0 a1 = some r) : (mach cfg).call 36 [] [.val false [.seq (eL e_GEdge a0)], .val false [.seq (eL e_GEdge a1)]] = some (.val false [.bool r], []) := by
  unfold T_laws_eqEdgeS at h
  by_cases c1 : ((a0.length : Nat) : Int) = ((a1.length : Nat) : Int)
  · rw [if_pos c1] at h
    obtain ⟨o2, ho2, h⟩ := Option.bind_eq_some_iff.1 h
    rcases o2 with o2_0 | o2_1
    · try dsimp only at h
      obtain rfl := Option.some.inj h
      exact call_way cfg [(.len (eL e_GEdge a0), .i ((a0.length : Nat) : Int)), (.len (eL e_GEdge a1), .i ((a1.length : Nat) : Int)), (.eqI ((a0.length : Nat) : Int) ((a1.length : Nat) : Int), .b true), (.notB true, .b false), (.loop 36 (loopB Try.f36 0) ⟨[(0, .val false [.seq (eL e_GEdge a0)]), (1, .val false [.seq (eL e_GEdge a1)]), (5, .val false [.int .i64 0])], [], 0⟩, .x (.ret) ⟨[(4, .val false [.bool o2_0])], [], 0⟩)] rfl fd_36 (by kernel_rfl) ⟨A.len, A.len, (A.eqI_t c1), rfl, (A.loop (gl_laws_eqEdgeS_l0 a0 a1 _ 0 _ ho2)), trivial⟩
    · try dsimp only at h
      obtain rfl := Option.some.inj h
      exact call_way cfg [(.len (eL e_GEdge a0), .i ((a0.length : Nat) : Int)), (.len (eL e_GEdge a1), .i ((a1.length : Nat) : Int)), (.eqI ((a0.length : Nat) : Int) ((a1.length : Nat) : Int), .b true), (.notB true, .b false), (.loop 36 (loopB Try.f36 0) ⟨[(0, .val false [.seq (eL e_GEdge a0)]), (1, .val false [.seq (eL e_GEdge a1)]), (5, .val false [.int .i64 0])], [], 0⟩, .x (.exit 0) ⟨[(0, .val false [.seq (eL e_GEdge a0)]), (1, .val false [.seq (eL e_GEdge a1)]), (5, .val false [.int .i64 o2_1]), (14, .val false [.bool false])], [], 0⟩)] rfl fd_36 (by kernel_rfl) ⟨A.len, A.len, (A.eqI_t c1), rfl, (A.loop (gl_laws_eqEdgeS_l0 a0 a1 _ 0 _ ho2)), trivial⟩
  · rw [if_neg c1] at h
    obtain rfl := Option.some.inj h
    exact call_way cfg [(.len (eL e_GEdge a0), .i ((a0.length : Nat) : Int)), (.len (eL e_GEdge a1), .i ((a1.length : Nat) : Int)), (.eqI ((a0.length : Nat) : Int) ((a1.length : Nat) : Int), .b false), (.notB false, .b true)] rfl fd_36 (by kernel_rfl) ⟨A.len, A.len, (A.eqI_f c1), rfl, trivial⟩

theorem eqEdgeS_loop {a : List GEdge} (ha : a.length ≤ 2 ^ 20) : ∀ (d i m : Nat), i + d = a.length → d < m → ∃ z, L_laws_eqEdgeS_l0 a a m (i : Int) = some (.inr z) := by
  intro d
  induction d with
  | zero =>
    intro i m hi hm
    obtain ⟨m, rfl, _⟩ := fuel hm
    exact ⟨_, by rw [L_laws_eqEdgeS_l0, if_neg (by omega)]⟩
  | succ d ih =>
    intro i m hi hm
    obtain ⟨m, rfl, hm'⟩ := fuel hm
    have hil : i < a.length := by omega
    rw [L_laws_eqEdgeS_l0, if_pos (by omega), natO_nat, Option.bind_some, get_some hil, Option.bind_some, Option.bind_some]
    unfold S_laws_eqEdge
    rw [if_pos rfl, if_pos rfl, Option.bind_some, w64_succ (by omega)]
    exact ih (i + 1) m (by omega) (by omega)
open Classical in
noncomputable def S_laws_eqEdgeS (a0 : (List GEdge)) (a1 : (List GEdge)) : Option Bool := if a0 = a1 ∧ a0.length ≤ 2 ^ 20 then some true else none
theorem spec_laws_eqEdgeS (a0 : (List GEdge)) (a1 : (List GEdge)) (r : Bool) (h : S_laws_eqEdgeS a0 a1 = some r) : ∃ n, T_laws_eqEdgeS n a0 a1 = some r := by
  unfold S_laws_eqEdgeS at h
  obtain ⟨⟨he, ha⟩, h2⟩ := need_c h
  clear h
  subst he
  refine ⟨a0.length + 1, ?_⟩
  obtain ⟨z, hz⟩ := eqEdgeS_loop ha a0.length 0 (a0.length + 1) (by omega) (by omega)
  rw [show ((0 : Nat) : Int) = 0 from rfl] at hz
  unfold T_laws_eqEdgeS
  rw [if_pos rfl, hz]; exact h2
theorem ok_laws_eqEdgeS (a0 : (List GEdge)) (a1 : (List GEdge)) (r : Bool) (h : S_laws_eqEdgeS a0 a1 = some r) : (mach cfg).call 36 [] [.val false [.seq (eL e_GEdge a0)], .val false [.seq (eL e_GEdge a1)]] = some (.val false [.bool r], []) := by
  obtain ⟨n, hn⟩ := spec_laws_eqEdgeS a0 a1 r h
  exact g_laws_eqEdgeS n a0 a1 r hn
def S_laws_eqGraph (a0 : GGraph) (a1 : GGraph) : Option Bool :=
  if a0.N = a1.N then
    (S_laws_eqEdgeS a0.Edges a1.Edges).bind fun r2 =>
    match r2 with
    | true =>
      some true
    | false =>
      some false
  else
    some false

set_option maxRecDepth 100000 in
theorem fd_12 : cfg.funcs 12 = some (bodyOf Try.f12, Try.f12.ntmps, Try.f12.results.toList) := fn_of Try.func12 (by kernel_rfl) (by kernel_rfl)
theorem ok_laws_eqGraph (a0 : GGraph) (a1 : GGraph) (r : Bool) (h : S_laws_eqGraph a0 a1 = some r) : (mach cfg).call 12 [] [.val true [.int .i64 a0.N, .seq (eL e_GEdge a0.Edges)], .val true [.int .i64 a1.N, .seq (eL e_GEdge a1.Edges)]] = some (.val false [.bool r], []) := by
  unfold S_laws_eqGraph at h
  by_cases c1 : a0.N = a1.N
  · rw [if_pos c1] at h
    obtain ⟨r2, hr2, h⟩ := Option.bind_eq_some_iff.1 h
    cases r2 with
    | true =>
      try dsimp only at h
      obtain rfl := Option.some.inj h
      exact call_way cfg [(.eqI a0.N a1.N, .b true), (.notB true, .b false), (.call 36 [] [.val false [.seq (eL e_GEdge a0.Edges)], .val false [.seq (eL e_GEdge a1.Edges)]], .r (.val false [.bool true]) []), (.notB true, .b false)] rfl fd_12 (by kernel_rfl) ⟨(A.eqI_t c1), rfl, (A.call (ok_laws_eqEdgeS a0.Edges a1.Edges _ hr2)), rfl, trivial⟩
    | false =>
      try dsimp only at h
      obtain rfl := Option.some.inj h
      exact call_way cfg [(.eqI a0.N a1.N, .b true), (.notB true, .b false), (.call 36 [] [.val false [.seq (eL e_GEdge a0.Edges)], .val false [.seq (eL e_GEdge a1.Edges)]], .r (.val false [.bool false]) []), (.notB false, .b true)] rfl fd_12 (by kernel_rfl) ⟨(A.eqI_t c1), rfl, (A.call (ok_laws_eqEdgeS a0.Edges a1.Edges _ hr2)), rfl, trivial⟩
  · rw [if_neg c1] at h
    obtain rfl := Option.some.inj h
    exact call_way cfg [(.eqI a0.N a1.N, .b false), (.notB false, .b true)] rfl fd_12 (by kernel_rfl) ⟨(A.eqI_f c1), rfl, trivial⟩

def S_laws_FnExactLeads (a0 : GGraph) (a1 : Int) (a2 : Int) : Option Bool :=
  (S_laws_szGraph a0 1048576).bind fun r1 =>
  if r1 < 0 then
    some true
  else
    (S_laws_toGraph a0).bind fun r3 =>
    (S_spec_Leads r3 a1 a2).bind fun r4 =>
    (S_impl_Leads r3 a1 a2).bind fun r5 =>
    match r5 with
    | true =>
      match r4 with
      | true =>
        (S_laws_eqGraph r3 r3).bind fun r8 =>
        match r8 with
        | true =>
          some true
        | false =>
          some false
      | false =>
        some false
    | false =>
      match r4 with
      | true =>
        some false
      | false =>
        (S_laws_eqGraph r3 r3).bind fun r8 =>
        match r8 with
        | true =>
          some true
        | false =>
          some false

set_option maxRecDepth 100000 in
theorem fd_4 : cfg.funcs 4 = some (bodyOf Try.f4, Try.f4.ntmps, Try.f4.results.toList) := fn_of Try.func4 (by kernel_rfl) (by kernel_rfl)
theorem ok_laws_FnExactLeads (a0 : GGraph) (a1 : Int) (a2 : Int) (r : Bool) (h : S_laws_FnExactLeads a0 a1 a2 = some r) : (mach cfg).call 4 [] [.val true [.int .i64 a0.N, .seq (eL e_GEdge a0.Edges)], .val false [.int .i64 a1], .val false [.int .i64 a2]] = some (.val false [.bool r], []) := by
  unfold S_laws_FnExactLeads at h
  obtain ⟨r1, hr1, h⟩ := Option.bind_eq_some_iff.1 h
  by_cases c2 : r1 < 0
  · rw [if_pos c2] at h
    obtain rfl := Option.some.inj h
    exact call_way cfg [(.call 8 [] [.val true [.int .i64 a0.N, .seq (eL e_GEdge a0.Edges)], .val false [.int .i64 1048576]], .r (.val false [.int .i64 r1]) []), (.ltI r1 0, .b true)] rfl fd_4 (by kernel_rfl) ⟨(A.call (ok_laws_szGraph a0 1048576 _ hr1)), (A.ltI_t c2), trivial⟩
  · rw [if_neg c2] at h
    obtain ⟨r3, hr3, h⟩ := Option.bind_eq_some_iff.1 h
    obtain ⟨r4, hr4, h⟩ := Option.bind_eq_some_iff.1 h
    obtain ⟨r5, hr5, h⟩ := Option.bind_eq_some_iff.1 h
    cases r5 with
    | true =>
      try dsimp only at h
      cases r4 with
      | true =>
        try dsimp only at h
        obtain ⟨r8, hr8, h⟩ := Option.bind_eq_some_iff.1 h
        cases r8 with
        | true =>
          try dsimp only at h
          obtain rfl := Option.some.inj h
          exact call_way cfg [(.call 8 [] [.val true [.int .i64 a0.N, .seq (eL e_GEdge a0.Edges)], .val false [.int .i64 1048576]], .r (.val false [.int .i64 r1]) []), (.ltI r1 0, .b false), (.call 10 [] [.val true [.int .i64 a0.N, .seq (eL e_GEdge a0.Edges)]], .r (.val true [.int .i64 r3.N, .seq (eL e_GEdge r3.Edges)]) []), (.call 13 [] [.val true [.int .i64 r3.N, .seq (eL e_GEdge r3.Edges)], .val false [.int .i64 a1], .val false [.int .i64 a2]], .r (.val false [.bool true]) []), (.call 10 [] [.val true [.int .i64 a0.N, .seq (eL e_GEdge a0.Edges)]], .r (.val true [.int .i64 r3.N, .seq (eL e_GEdge r3.Edges)]) []), (.call 14 [] [.val true [.int .i64 r3.N, .seq (eL e_GEdge r3.Edges)], .val false [.int .i64 a1], .val false [.int .i64 a2]], .r (.val false [.bool true]) []), (.eqB true true, .b true), (.notB true, .b false), (.call 10 [] [.val true [.int .i64 a0.N, .seq (eL e_GEdge a0.Edges)]], .r (.val true [.int .i64 r3.N, .seq (eL e_GEdge r3.Edges)]) []), (.call 12 [] [.val true [.int .i64 r3.N, .seq (eL e_GEdge r3.Edges)], .val true [.int .i64 r3.N, .seq (eL e_GEdge r3.Edges)]], .r (.val false [.bool true]) []), (.notB true, .b false)] rfl fd_4 (by kernel_rfl) ⟨(A.call (ok_laws_szGraph a0 1048576 _ hr1)), (A.ltI_f c2), (A.call (ok_laws_toGraph a0 _ hr3)), (A.call (ok_spec_Leads r3 a1 a2 _ hr4)), (A.call (ok_laws_toGraph a0 _ hr3)), (A.call (ok_impl_Leads r3 a1 a2 _ hr5)), rfl, rfl, (A.call (ok_laws_toGraph a0 _ hr3)), (A.call (ok_laws_eqGraph r3 r3 _ hr8)), rfl, trivial⟩
        | false =>
          try dsimp only at h
          obtain rfl := Option.some.inj h
          exact call_way cfg [(.call 8 [] [.val true [.int .i64 a0.N, .seq (eL e_GEdge a0.Edges)], .val false [.int .i64 1048576]], .r (.val false [.int .i64 r1]) []), (.ltI r1 0, .b false), (.call 10 [] [.val true [.int .i64 a0.N, .seq (eL e_GEdge a0.Edges)]], .r (.val true [.int .i64 r3.N, .seq (eL e_GEdge r3.Edges)]) []), (.call 13 [] [.val true [.int .i64 r3.N, .seq (eL e_GEdge r3.Edges)], .val false [.int .i64 a1], .val false [.int .i64 a2]], .r (.val false [.bool true]) []), (.call 10 [] [.val true [.int .i64 a0.N, .seq (eL e_GEdge a0.Edges)]], .r (.val true [.int .i64 r3.N, .seq (eL e_GEdge r3.Edges)]) []), (.call 14 [] [.val true [.int .i64 r3.N, .seq (eL e_GEdge r3.Edges)], .val false [.int .i64 a1], .val false [.int .i64 a2]], .r (.val false [.bool true]) []), (.eqB true true, .b true), (.notB true, .b false), (.call 10 [] [.val true [.int .i64 a0.N, .seq (eL e_GEdge a0.Edges)]], .r (.val true [.int .i64 r3.N, .seq (eL e_GEdge r3.Edges)]) []), (.call 12 [] [.val true [.int .i64 r3.N, .seq (eL e_GEdge r3.Edges)], .val true [.int .i64 r3.N, .seq (eL e_GEdge r3.Edges)]], .r (.val false [.bool false]) []), (.notB false, .b true)] rfl fd_4 (by kernel_rfl) ⟨(A.call (ok_laws_szGraph a0 1048576 _ hr1)), (A.ltI_f c2), (A.call (ok_laws_toGraph a0 _ hr3)), (A.call (ok_spec_Leads r3 a1 a2 _ hr4)), (A.call (ok_laws_toGraph a0 _ hr3)), (A.call (ok_impl_Leads r3 a1 a2 _ hr5)), rfl, rfl, (A.call (ok_laws_toGraph a0 _ hr3)), (A.call (ok_laws_eqGraph r3 r3 _ hr8)), rfl, trivial⟩
      | false =>
        try dsimp only at h
        obtain rfl := Option.some.inj h
        exact call_way cfg [(.call 8 [] [.val true [.int .i64 a0.N, .seq (eL e_GEdge a0.Edges)], .val false [.int .i64 1048576]], .r (.val false [.int .i64 r1]) []), (.ltI r1 0, .b false), (.call 10 [] [.val true [.int .i64 a0.N, .seq (eL e_GEdge a0.Edges)]], .r (.val true [.int .i64 r3.N, .seq (eL e_GEdge r3.Edges)]) []), (.call 13 [] [.val true [.int .i64 r3.N, .seq (eL e_GEdge r3.Edges)], .val false [.int .i64 a1], .val false [.int .i64 a2]], .r (.val false [.bool false]) []), (.call 10 [] [.val true [.int .i64 a0.N, .seq (eL e_GEdge a0.Edges)]], .r (.val true [.int .i64 r3.N, .seq (eL e_GEdge r3.Edges)]) []), (.call 14 [] [.val true [.int .i64 r3.N, .seq (eL e_GEdge r3.Edges)], .val false [.int .i64 a1], .val false [.int .i64 a2]], .r (.val false [.bool true]) []), (.eqB true false, .b false), (.notB false, .b true)] rfl fd_4 (by kernel_rfl) ⟨(A.call (ok_laws_szGraph a0 1048576 _ hr1)), (A.ltI_f c2), (A.call (ok_laws_toGraph a0 _ hr3)), (A.call (ok_spec_Leads r3 a1 a2 _ hr4)), (A.call (ok_laws_toGraph a0 _ hr3)), (A.call (ok_impl_Leads r3 a1 a2 _ hr5)), rfl, rfl, trivial⟩
    | false =>
      try dsimp only at h
      cases r4 with
      | true =>
        try dsimp only at h
        obtain rfl := Option.some.inj h
        exact call_way cfg [(.call 8 [] [.val true [.int .i64 a0.N, .seq (eL e_GEdge a0.Edges)], .val false [.int .i64 1048576]], .r (.val false [.int .i64 r1]) []), (.ltI r1 0, .b false), (.call 10 [] [.val true [.int .i64 a0.N, .seq (eL e_GEdge a0.Edges)]], .r (.val true [.int .i64 r3.N, .seq (eL e_GEdge r3.Edges)]) []), (.call 13 [] [.val true [.int .i64 r3.N, .seq (eL e_GEdge r3.Edges)], .val false [.int .i64 a1], .val false [.int .i64 a2]], .r (.val false [.bool true]) []), (.call 10 [] [.val true [.int .i64 a0.N, .seq (eL e_GEdge a0.Edges)]], .r (.val true [.int .i64 r3.N, .seq (eL e_GEdge r3.Edges)]) []), (.call 14 [] [.val true [.int .i64 r3.N, .seq (eL e_GEdge r3.Edges)], .val false [.int .i64 a1], .val false [.int .i64 a2]], .r (.val false [.bool false]) []), (.eqB false true, .b false), (.notB false, .b true)] rfl fd_4 (by kernel_rfl) ⟨(A.call (ok_laws_szGraph a0 1048576 _ hr1)), (A.ltI_f c2), (A.call (ok_laws_toGraph a0 _ hr3)), (A.call (ok_spec_Leads r3 a1 a2 _ hr4)), (A.call (ok_laws_toGraph a0 _ hr3)), (A.call (ok_impl_Leads r3 a1 a2 _ hr5)), rfl, rfl, trivial⟩
      | false =>
        try dsimp only at h
        obtain ⟨r8, hr8, h⟩ := Option.bind_eq_some_iff.1 h
        cases r8 with
        | true =>
          try dsimp only at h
          obtain rfl := Option.some.inj h
          exact call_way cfg [(.call 8 [] [.val true [.int .i64 a0.N, .seq (eL e_GEdge a0.Edges)], .val false [.int .i64 1048576]], .r (.val false [.int .i64 r1]) []), (.ltI r1 0, .b false), (.call 10 [] [.val true [.int .i64 a0.N, .seq (eL e_GEdge a0.Edges)]], .r (.val true [.int .i64 r3.N, .seq (eL e_GEdge r3.Edges)]) []), (.call 13 [] [.val true [.int .i64 r3.N, .seq (eL e_GEdge r3.Edges)], .val false [.int .i64 a1], .val false [.int .i64 a2]], .r (.val false [.bool false]) []), (.call 10 [] [.val true [.int .i64 a0.N, .seq (eL e_GEdge a0.Edges)]], .r (.val true [.int .i64 r3.N, .seq (eL e_GEdge r3.Edges)]) []), (.call 14 [] [.val true [.int .i64 r3.N, .seq (eL e_GEdge r3.Edges)], .val false [.int .i64 a1], .val false [.int .i64 a2]], .r (.val false [.bool false]) []), (.eqB false false, .b true), (.notB true, .b false), (.call 10 [] [.val true [.int .i64 a0.N, .seq (eL e_GEdge a0.Edges)]], .r (.val true [.int .i64 r3.N, .seq (eL e_GEdge r3.Edges)]) []), (.call 12 [] [.val true [.int .i64 r3.N, .seq (eL e_GEdge r3.Edges)], .val true [.int .i64 r3.N, .seq (eL e_GEdge r3.Edges)]], .r (.val false [.bool true]) []), (.notB true, .b false)] rfl fd_4 (by kernel_rfl) ⟨(A.call (ok_laws_szGraph a0 1048576 _ hr1)), (A.ltI_f c2), (A.call (ok_laws_toGraph a0 _ hr3)), (A.call (ok_spec_Leads r3 a1 a2 _ hr4)), (A.call (ok_laws_toGraph a0 _ hr3)), (A.call (ok_impl_Leads r3 a1 a2 _ hr5)), rfl, rfl, (A.call (ok_laws_toGraph a0 _ hr3)), (A.call (ok_laws_eqGraph r3 r3 _ hr8)), rfl, trivial⟩
        | false =>
          try dsimp only at h
          obtain rfl := Option.some.inj h
          exact call_way cfg [(.call 8 [] [.val true [.int .i64 a0.N, .seq (eL e_GEdge a0.Edges)], .val false [.int .i64 1048576]], .r (.val false [.int .i64 r1]) []), (.ltI r1 0, .b false), (.call 10 [] [.val true [.int .i64 a0.N, .seq (eL e_GEdge a0.Edges)]], .r (.val true [.int .i64 r3.N, .seq (eL e_GEdge r3.Edges)]) []), (.call 13 [] [.val true [.int .i64 r3.N, .seq (eL e_GEdge r3.Edges)], .val false [.int .i64 a1], .val false [.int .i64 a2]], .r (.val false [.bool false]) []), (.call 10 [] [.val true [.int .i64 a0.N, .seq (eL e_GEdge a0.Edges)]], .r (.val true [.int .i64 r3.N, .seq (eL e_GEdge r3.Edges)]) []), (.call 14 [] [.val true [.int .i64 r3.N, .seq (eL e_GEdge r3.Edges)], .val false [.int .i64 a1], .val false [.int .i64 a2]], .r (.val false [.bool false]) []), (.eqB false false, .b true), (.notB true, .b false), (.call 10 [] [.val true [.int .i64 a0.N, .seq (eL e_GEdge a0.Edges)]], .r (.val true [.int .i64 r3.N, .seq (eL e_GEdge r3.Edges)]) []), (.call 12 [] [.val true [.int .i64 r3.N, .seq (eL e_GEdge r3.Edges)], .val true [.int .i64 r3.N, .seq (eL e_GEdge r3.Edges)]], .r (.val false [.bool false]) []), (.notB false, .b true)] rfl fd_4 (by kernel_rfl) ⟨(A.call (ok_laws_szGraph a0 1048576 _ hr1)), (A.ltI_f c2), (A.call (ok_laws_toGraph a0 _ hr3)), (A.call (ok_spec_Leads r3 a1 a2 _ hr4)), (A.call (ok_laws_toGraph a0 _ hr3)), (A.call (ok_impl_Leads r3 a1 a2 _ hr5)), rfl, rfl, (A.call (ok_laws_toGraph a0 _ hr3)), (A.call (ok_laws_eqGraph r3 r3 _ hr8)), rfl, trivial⟩

end
end Go.Am.Try
