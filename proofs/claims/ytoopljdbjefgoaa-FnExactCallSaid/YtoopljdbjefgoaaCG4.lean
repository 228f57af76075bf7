/- The functions of the program in plain Lean, and that the machine answers as they do; conditions at each theorem. -/
import Derived.Test.YtoopljdbjefgoaaCG3
set_option linter.unusedVariables false
set_option linter.unusedSimpArgs false
namespace Go.Am.Try
open Go.Am Go.Proofs
set_option linter.unusedVariables false
set_option maxRecDepth 20000
set_option maxHeartbeats 2000000
noncomputable section
def L_impl_call_l0 (a0 : (List UInt8)) (a1 : (List GValue)) (v2 : (List (List Int))) (v4 : Int) (v6 : Int) (v7 : Int) (v8 : (List UInt8)) (v9 : (List (List UInt8))) (v10 : (List GValue)) : Nat → Bool → Int → Option ((Int × Int × (List UInt8) × (List (List UInt8)) × (List GValue)) ⊕ (Bool × Int))
  | 0, _, _ => none
  | m + 1, v3, v5 =>
    if v5 < v4 then
      (natO v5).bind fun i2 =>
      (a1[i2]?).bind fun x3 =>
      if x3.Kind = 6 then
        L_impl_call_l0 a0 a1 v2 v4 v6 v7 v8 v9 v10 m false (w64 (v5 + 1))
      else
        (v2[i2]?).bind fun x5 =>
        (S_slices_Contains_int x5 x3.Kind).bind fun r6 =>
        match r6 with
        | true =>
          L_impl_call_l0 a0 a1 v2 v4 v6 v7 v8 v9 v10 m v3 (w64 (v5 + 1))
        | false =>
          some (.inl (2, 0, [], [], []))
    else
      some (.inr (v3, v5))

theorem gl_impl_call_l0 (a0 : (List UInt8)) (a1 : (List GValue)) (v2 : (List (List Int))) (v4 : Int) (v6 : Int) (v7 : Int) (v8 : (List UInt8)) (v9 : (List (List UInt8))) (v10 : (List GValue)) (m : Nat) : ∀ (v3 : Bool) (v5 : Int) (o : ((Int × Int × (List UInt8) × (List (List UInt8)) × (List GValue)) ⊕ (Bool × Int))), L_impl_call_l0 a0 a1 v2 v4 v6 v7 v8 v9 v10 m v3 v5 = some o → (mach cfg).loop 62 (loopB Try.f62 0) ⟨[(0, .val false [.str a0]), (1, .val false [.seq (eL e_GValue a1)]), (4, .val false [.ptr 0 0]), (6, .val false [.seq (eL (e_sl e_int) v2)]), (7, .val false [.bool v3]), (38, .val false [.seq (eL e_GValue a1)]), (39, .val false [.int .i64 v4]), (40, .val false [.int .i64 v5])], [.var [.int .i64 v6, .int .i64 v7, .ref 1, .ref 2, .ref 3], .obj 1 (eL e_u8 v8), .obj 1 (eL (e_sl e_u8) v9), .obj 5 (eL e_GValue v10)], 0⟩ = some (match o with | .inl ⟨o_0_0, o_0_1, o_0_2, o_0_3, o_0_4⟩ => (.ret, (⟨[(4, .val false [.ptr 0 0]), (5, .val false [.int .i64 o_0_0])], [.var [.int .i64 o_0_1, .int .i64 o_0_1, .ref 1, .ref 2, .ref 3], .obj 1 (eL e_u8 o_0_2), .obj 1 (eL (e_sl e_u8) o_0_3), .obj 5 (eL e_GValue o_0_4)], 0⟩ : S)) | .inr (⟨o_1_0, o_1_1⟩) => (.exit 0, (⟨[(0, .val false [.str a0]), (1, .val false [.seq (eL e_GValue a1)]), (4, .val false [.ptr 0 0]), (6, .val false [.seq (eL (e_sl e_int) v2)]), (7, .val false [.bool o_1_0]), (38, .val false [.seq (eL e_GValue a1)]), (39, .val false [.int .i64 v4]), (40, .val false [.int .i64 o_1_1]), (41, .val false [.bool false])], [.var [.int .i64 v6, .int .i64 v7, .ref 1, .ref 2, .ref 3], .obj 1 (eL e_u8 v8), .obj 1 (eL (e_sl e_u8) v9), .obj 5 (eL e_GValue v10)], 0⟩ : S))) := by
  induction m with
  | zero => intro v3 v5 o h; cases h
  | succ m ih =>
    intro v3 v5 o h
    rw [L_impl_call_l0] at h
    rcases ite_some h with ⟨c1, h⟩ | ⟨c1, h⟩
    ·obtain ⟨i2, hi2, h⟩ := bs h
     obtain ⟨x3, hx3, h⟩ := bs h
     rcases ite_some h with ⟨c4, h⟩ | ⟨c4, h⟩
     ·exact loop_nQ [.lT c1, .na hi2, .ix hx3 (eq_GValue x3), .eT c4, .ad v5 1] (by kernel_rfl) (ih false (w64 (v5 + 1)) o h)
     ·obtain ⟨x5, hx5, h⟩ := bs h
      obtain ⟨r6, hr6, h⟩ := bs h
      cases r6 with
      | true =>
       try dsimp only at h
       exact loop_nQ [.lT c1, .na hi2, .ix hx3 (eq_GValue x3), .eF c4, .na hi2, .ix0 (e_sl e_int) hx5, .cl (ok_slices_Contains_int x5 x3.Kind _ hr6), .nt true, .ad v5 1] (by kernel_rfl) (ih v3 (w64 (v5 + 1)) o h)
      | false =>
       try dsimp only at h
       obtain rfl := Option.some.inj h
       exact loop_eQ [.lT c1, .na hi2, .ix hx3 (eq_GValue x3), .eF c4, .na hi2, .ix0 (e_sl e_int) hx5, .cl (ok_slices_Contains_int x5 x3.Kind _ hr6), .nt false] (by kernel_rfl) (by intro h; cases h)
    ·obtain rfl := Option.some.inj h
     exact loop_eQ [.lF c1] (by kernel_rfl) (by intro h; cases h)

def L_impl_call_l1 (v0 : (List (List UInt8))) (v1 : Int) (v3 : Int) (v4 : Int) (v5 : Int) (v6 : Int) (v7 : (List UInt8)) (v8 : (List (List UInt8))) (v9 : (List GValue)) (v10 : (List UInt8)) (v11 : (List (List UInt8))) : Nat → Int → (List GValue) → Option (Int × (List GValue))
  | 0, _, _ => none
  | m + 1, v2, v12 =>
    if v2 < v1 then
      (natO v2).bind fun i2 =>
      (v0[i2]?).bind fun x3 =>
      if roomP 88 (v12.length + [(GValue.mk 3 0 x3 [] [])].length) then
      L_impl_call_l1 v0 v1 v3 v4 v5 v6 v7 v8 v9 v10 v11 m (w64 (v2 + 1)) (v12 ++ [(GValue.mk 3 0 x3 [] [])])
      else none
    else
      some (v2, v12)

theorem gl_impl_call_l1 (v0 : (List (List UInt8))) (v1 : Int) (v3 : Int) (v4 : Int) (v5 : Int) (v6 : Int) (v7 : (List UInt8)) (v8 : (List (List UInt8))) (v9 : (List GValue)) (v10 : (List UInt8)) (v11 : (List (List UInt8))) (m : Nat) : ∀ (v2 : Int) (v12 : (List GValue)) (o : (Int × (List GValue))), L_impl_call_l1 v0 v1 v3 v4 v5 v6 v7 v8 v9 v10 v11 m v2 v12 = some o → (mach cfg).loop 62 (loopB Try.f62 1) ⟨[(4, .val false [.ptr 0 0]), (12, .val false [.ptr 1 0]), (98, .val false [.seq (eL (e_sl e_u8) v0)]), (99, .val false [.int .i64 v1]), (100, .val false [.int .i64 v2])], [.var [.int .i64 v3, .int .i64 v4, .ref 2, .ref 3, .ref 4], .var [.int .i64 v5, .int .i64 v6, .ref 5, .ref 6, .ref 7], .obj 1 (eL e_u8 v7), .obj 1 (eL (e_sl e_u8) v8), .obj 5 (eL e_GValue v9), .obj 1 (eL e_u8 v10), .obj 1 (eL (e_sl e_u8) v11), .obj 5 (eL e_GValue v12)], 0⟩ = some (match o with | ⟨o_0, o_1⟩ => (.exit 3, (⟨[(4, .val false [.ptr 0 0]), (12, .val false [.ptr 1 0]), (98, .val false [.seq (eL (e_sl e_u8) v0)]), (99, .val false [.int .i64 v1]), (100, .val false [.int .i64 o_0]), (101, .val false [.bool false])], [.var [.int .i64 v3, .int .i64 v4, .ref 2, .ref 3, .ref 4], .var [.int .i64 v5, .int .i64 v6, .ref 5, .ref 6, .ref 7], .obj 1 (eL e_u8 v7), .obj 1 (eL (e_sl e_u8) v8), .obj 5 (eL e_GValue v9), .obj 1 (eL e_u8 v10), .obj 1 (eL (e_sl e_u8) v11), .obj 5 (eL e_GValue o_1)], 0⟩ : S))) := by
  induction m with
  | zero => intro v2 v12 o h; cases h
  | succ m ih =>
    intro v2 v12 o h
    rw [L_impl_call_l1] at h
    rcases ite_some h with ⟨c1, h⟩ | ⟨c1, h⟩
    ·obtain ⟨i2, hi2, h⟩ := bs h
     obtain ⟨x3, hx3, h⟩ := bs h
     obtain ⟨n4, h⟩ := need_some h
     exact loop_nQ [.lT c1, .na hi2, .ix0 (e_sl e_u8) hx3, ⟨.view (eL (e_sl e_u8) []), .l (eL (e_sl e_u8) []), (A.view (E_sl e_u8))⟩, ⟨.view (eL e_GValue []), .l (eL e_GValue []), (A.view E_GValue)⟩, ⟨.pl (eL e_GValue [(GValue.mk 3 0 x3 [] [])]), .b true, (A.pl E_GValue)⟩, ⟨.room 88 (eL e_GValue v12) (eL e_GValue [(GValue.mk 3 0 x3 [] [])]), .b true, (A.room n4)⟩, ⟨.uni 5 (eL e_GValue [(GValue.mk 3 0 x3 [] [])]), .b true, (A.uni E_GValue)⟩, ⟨.app (eL e_GValue v12) (eL e_GValue [(GValue.mk 3 0 x3 [] [])]), .l (eL e_GValue (v12 ++ [(GValue.mk 3 0 x3 [] [])])), A.app⟩, .ad v2 1] (by kernel_rfl) (ih (w64 (v2 + 1)) (v12 ++ [(GValue.mk 3 0 x3 [] [])]) o h)
    ·obtain rfl := Option.some.inj h
     exact loop_eQ [.lF c1] (by kernel_rfl) (by intro h; cases h)

def T_impl_call (n : Nat) (a0 : (List UInt8)) (a1 : (List GValue)) : Option (GValue × Int) :=
  if 40 < ((a1.length : Nat) : Int) then
    some ((GValue.mk 0 0 [] [] []), 1)
  else
    (S_slices_ContainsFunc_Value_call_1 a1).bind fun r2 =>
    match r2 with
    | true =>
      some ((GValue.mk 0 0 [] [] []), 1)
    | false =>
      (S_impl_wants a0).bind fun r4 =>
      if ((r4.length : Nat) : Int) = 0 then
        some ((GValue.mk 0 0 [] [] []), 5)
      else
        if ((r4.length : Nat) : Int) = ((a1.length : Nat) : Int) then
          (L_impl_call_l0 a0 a1 r4 ((a1.length : Nat) : Int) 0 0 [] [] [] n true 0).bind fun o7 =>
          match o7 with
          | .inl ⟨o7_0_0, o7_0_1, o7_0_2, o7_0_3, o7_0_4⟩ =>
            some ((GValue.mk o7_0_1 o7_0_1 o7_0_2 o7_0_3 o7_0_4), o7_0_0)
          | .inr (⟨o7_1_0, o7_1_1⟩) =>
            match o7_1_0 with
            | true =>
              (a1[0]?).bind fun x9 =>
              if a0 = [108, 101, 110] then
                if x9.Kind = 3 then
                  some ((GValue.mk 2 ((x9.S.length : Nat) : Int) [] [] []), 0)
                else
                  some ((GValue.mk 2 ((x9.L.length : Nat) : Int) [] [] []), 0)
              else
                if a0 = [99, 97, 116] then
                  (S_impl_copyBytes x9.S).bind fun r12 =>
                  (a1[1]?).bind fun x13 =>
                  if roomP 1 (r12.length + x13.S.length) then
                  if 20 < (((r12 ++ x13.S).length : Nat) : Int) then
                    some ((GValue.mk 0 0 [] [] []), 4)
                  else
                    some ((GValue.mk 3 0 (r12 ++ x13.S) [] []), 0)
                  else none
                else
                  if a0 = [107, 101, 121, 115] then
                    (L_impl_call_l1 x9.K ((x9.K.length : Nat) : Int) 0 0 4 0 [] [] [] [] [] n 0 []).bind fun ⟨o13_0, o13_1⟩ =>
                    some ((GValue.mk 4 0 [] [] o13_1), 0)
                  else
                    if a0 = [118, 97, 108, 115] then
                      some ((GValue.mk 4 0 [] [] x9.L), 0)
                    else
                      if a0 = [104, 97, 115] then
                        (a1[1]?).bind fun x15 =>
                        (S_impl_Value_keyAt x9 x15.S).bind fun ⟨r16_0, r16_1⟩ =>
                        (S_impl_flag r16_1).bind fun r17 =>
                        some (r17, 0)
                      else
                        if a0 = [109, 105, 110] then
                          (a1[1]?).bind fun x16 =>
                          some ((GValue.mk 2 (if x16.N < x9.N then x16.N else x9.N) [] [] []), 0)
                        else
                          (a1[1]?).bind fun x16 =>
                          some ((GValue.mk 2 (if x9.N < x16.N then x16.N else x9.N) [] [] []), 0)
            | false =>
              (S_impl_unknown).bind fun r9 =>
              some (r9, 0)
        else
          some ((GValue.mk 0 0 [] [] []), 5)

set_option maxRecDepth 100000 in
theorem fd_62 : cfg.funcs 62 = some (bodyOf Try.f62, Try.f62.ntmps, Try.f62.results.toList) := fn_of Try.func62 (by kernel_rfl) (by kernel_rfl)
theorem g_impl_call (n : Nat) (a0 : (List UInt8)) (a1 : (List GValue)) (r : (GValue × Int)) (h : T_impl_call n a0 a1 = some r) : (mach cfg).call 62 [] [.val false [.str a0], .val false [.seq (eL e_GValue a1)]] = some (.tup [(true, [.int .i64 r.1.Kind, .int .i64 r.1.N, .seq (eL e_u8 r.1.S), .seq (eL (e_sl e_u8) r.1.K), .seq (eL e_GValue r.1.L)]), (false, [.int .i64 r.2])], []) := by
  unfold T_impl_call at h
  rcases ite_some h with ⟨c1, h⟩ | ⟨c1, h⟩
  ·obtain rfl := Option.some.inj h
   exact (call_wQ (r := (.tup [(true, [.int .i64 0, .int .i64 0, .seq (viewL (eL e_u8 [])), .seq (viewL (eL (e_sl e_u8) [])), .seq (viewL (eL e_GValue []))]), (false, [.int .i64 1])], [])) [.le e_GValue a1, .lT c1] rfl fd_62 (by kernel_rfl)).trans (by simp only [viewL_eL E_u8, viewL_eL (E_sl e_u8), viewL_eL E_GValue] <;> rfl)
  ·obtain ⟨r2, hr2, h⟩ := bs h
   cases r2 with
   | true =>
    try dsimp only at h
    obtain rfl := Option.some.inj h
    exact (call_wQ (r := (.tup [(true, [.int .i64 0, .int .i64 0, .seq (viewL (eL e_u8 [])), .seq (viewL (eL (e_sl e_u8) [])), .seq (viewL (eL e_GValue []))]), (false, [.int .i64 1])], [])) [.le e_GValue a1, .lF c1, .cl (ok_slices_ContainsFunc_Value_call_1 a1 _ hr2)] rfl fd_62 (by kernel_rfl)).trans (by simp only [viewL_eL E_u8, viewL_eL (E_sl e_u8), viewL_eL E_GValue] <;> rfl)
   | false =>
    try dsimp only at h
    obtain ⟨r4, hr4, h⟩ := bs h
    rcases ite_some h with ⟨c5, h⟩ | ⟨c5, h⟩
    ·obtain rfl := Option.some.inj h
     exact (call_wQ (r := (.tup [(true, [.int .i64 0, .int .i64 0, .seq (viewL (eL e_u8 [])), .seq (viewL (eL (e_sl e_u8) [])), .seq (viewL (eL e_GValue []))]), (false, [.int .i64 5])], [])) [.le e_GValue a1, .lF c1, .cl (ok_slices_ContainsFunc_Value_call_1 a1 _ hr2), .cl (ok_impl_wants a0 _ hr4), .le (e_sl e_int) r4, .eT c5] rfl fd_62 (by kernel_rfl)).trans (by simp only [viewL_eL E_u8, viewL_eL (E_sl e_u8), viewL_eL E_GValue] <;> rfl)
    ·rcases ite_some h with ⟨c6, h⟩ | ⟨c6, h⟩
     ·obtain ⟨o7, ho7, h⟩ := bs h
      rcases o7 with ⟨o7_0_0, o7_0_1, o7_0_2, o7_0_3, o7_0_4⟩ | ⟨o7_1_0, o7_1_1⟩
      · try dsimp only at h
        obtain rfl := Option.some.inj h
        exact (call_wQ (r := (.tup [(true, [.int .i64 o7_0_1, .int .i64 o7_0_1, .seq (viewL (eL e_u8 o7_0_2)), .seq (viewL (eL (e_sl e_u8) o7_0_3)), .seq (viewL (eL e_GValue o7_0_4))]), (false, [.int .i64 o7_0_0])], [])) [.le e_GValue a1, .lF c1, .cl (ok_slices_ContainsFunc_Value_call_1 a1 _ hr2), .cl (ok_impl_wants a0 _ hr4), .le (e_sl e_int) r4, .eF c5, .le (e_sl e_int) r4, .le e_GValue a1, .eT c6, .nt true, .le e_GValue a1, .lp (gl_impl_call_l0 a0 a1 r4 ((a1.length : Nat) : Int) 0 0 [] [] [] _ true 0 _ ho7)] rfl fd_62 (by kernel_rfl)).trans (by simp only [viewL_eL E_u8, viewL_eL (E_sl e_u8), viewL_eL E_GValue] <;> rfl)
      · try dsimp only at h
        cases o7_1_0 with
        | true =>
         try dsimp only at h
         obtain ⟨x9, hx9, h⟩ := bs h
         rcases ite_some h with ⟨c10, h⟩ | ⟨c10, h⟩
         ·rcases ite_some h with ⟨c11, h⟩ | ⟨c11, h⟩
          ·obtain rfl := Option.some.inj h
           exact (call_wQ (r := (.tup [(true, [.int .i64 2, .int .i64 ((x9.S.length : Nat) : Int), .seq (viewL (eL e_u8 [])), .seq (viewL (eL (e_sl e_u8) [])), .seq (viewL (eL e_GValue []))]), (false, [.int .i64 0])], [])) [.le e_GValue a1, .lF c1, .cl (ok_slices_ContainsFunc_Value_call_1 a1 _ hr2), .cl (ok_impl_wants a0 _ hr4), .le (e_sl e_int) r4, .eF c5, .le (e_sl e_int) r4, .le e_GValue a1, .eT c6, .nt true, .le e_GValue a1, .lp (gl_impl_call_l0 a0 a1 r4 ((a1.length : Nat) : Int) 0 0 [] [] [] _ true 0 _ ho7), .nt true, ⟨.nat 0, .n 0, rfl⟩, .ix hx9 (eq_GValue x9), .sT c10, .eT c11, .le e_u8 x9.S] rfl fd_62 (by kernel_rfl)).trans (by simp only [viewL_eL E_u8, viewL_eL (E_sl e_u8), viewL_eL E_GValue] <;> rfl)
          ·obtain rfl := Option.some.inj h
           exact (call_wQ (r := (.tup [(true, [.int .i64 2, .int .i64 ((x9.L.length : Nat) : Int), .seq (viewL (eL e_u8 [])), .seq (viewL (eL (e_sl e_u8) [])), .seq (viewL (eL e_GValue []))]), (false, [.int .i64 0])], [])) [.le e_GValue a1, .lF c1, .cl (ok_slices_ContainsFunc_Value_call_1 a1 _ hr2), .cl (ok_impl_wants a0 _ hr4), .le (e_sl e_int) r4, .eF c5, .le (e_sl e_int) r4, .le e_GValue a1, .eT c6, .nt true, .le e_GValue a1, .lp (gl_impl_call_l0 a0 a1 r4 ((a1.length : Nat) : Int) 0 0 [] [] [] _ true 0 _ ho7), .nt true, ⟨.nat 0, .n 0, rfl⟩, .ix hx9 (eq_GValue x9), .sT c10, .eF c11, .le e_GValue x9.L] rfl fd_62 (by kernel_rfl)).trans (by simp only [viewL_eL E_u8, viewL_eL (E_sl e_u8), viewL_eL E_GValue] <;> rfl)
         ·rcases ite_some h with ⟨c11, h⟩ | ⟨c11, h⟩
          ·obtain ⟨r12, hr12, h⟩ := bs h
           obtain ⟨x13, hx13, h⟩ := bs h
           obtain ⟨n14, h⟩ := need_some h
           rcases ite_some h with ⟨c15, h⟩ | ⟨c15, h⟩
           ·obtain rfl := Option.some.inj h
            exact (call_wQ (r := (.tup [(true, [.int .i64 0, .int .i64 0, .seq (viewL (eL e_u8 [])), .seq (viewL (eL (e_sl e_u8) [])), .seq (viewL (eL e_GValue []))]), (false, [.int .i64 4])], [])) [.le e_GValue a1, .lF c1, .cl (ok_slices_ContainsFunc_Value_call_1 a1 _ hr2), .cl (ok_impl_wants a0 _ hr4), .le (e_sl e_int) r4, .eF c5, .le (e_sl e_int) r4, .le e_GValue a1, .eT c6, .nt true, .le e_GValue a1, .lp (gl_impl_call_l0 a0 a1 r4 ((a1.length : Nat) : Int) 0 0 [] [] [] _ true 0 _ ho7), .nt true, ⟨.nat 0, .n 0, rfl⟩, .ix hx9 (eq_GValue x9), .sF c10, .sT c11, .cl (ok_impl_copyBytes x9.S _ hr12), ⟨.nat 1, .n 1, rfl⟩, .ix hx13 (eq_GValue x13), ⟨.room 1 (eL e_u8 r12) (eL e_u8 x13.S), .b true, (A.room n14)⟩, ⟨.uni 1 (eL e_u8 x13.S), .b true, (A.uni E_u8)⟩, ⟨.app (eL e_u8 r12) (eL e_u8 x13.S), .l (eL e_u8 (r12 ++ x13.S)), A.app⟩, .le e_u8 (r12 ++ x13.S), .lT c15] rfl fd_62 (by kernel_rfl)).trans (by simp only [viewL_eL E_u8, viewL_eL (E_sl e_u8), viewL_eL E_GValue] <;> rfl)
           ·obtain rfl := Option.some.inj h
            exact (call_wQ (r := (.tup [(true, [.int .i64 3, .int .i64 0, .seq (viewL (eL e_u8 (r12 ++ x13.S))), .seq (viewL (eL (e_sl e_u8) [])), .seq (viewL (eL e_GValue []))]), (false, [.int .i64 0])], [])) [.le e_GValue a1, .lF c1, .cl (ok_slices_ContainsFunc_Value_call_1 a1 _ hr2), .cl (ok_impl_wants a0 _ hr4), .le (e_sl e_int) r4, .eF c5, .le (e_sl e_int) r4, .le e_GValue a1, .eT c6, .nt true, .le e_GValue a1, .lp (gl_impl_call_l0 a0 a1 r4 ((a1.length : Nat) : Int) 0 0 [] [] [] _ true 0 _ ho7), .nt true, ⟨.nat 0, .n 0, rfl⟩, .ix hx9 (eq_GValue x9), .sF c10, .sT c11, .cl (ok_impl_copyBytes x9.S _ hr12), ⟨.nat 1, .n 1, rfl⟩, .ix hx13 (eq_GValue x13), ⟨.room 1 (eL e_u8 r12) (eL e_u8 x13.S), .b true, (A.room n14)⟩, ⟨.uni 1 (eL e_u8 x13.S), .b true, (A.uni E_u8)⟩, ⟨.app (eL e_u8 r12) (eL e_u8 x13.S), .l (eL e_u8 (r12 ++ x13.S)), A.app⟩, .le e_u8 (r12 ++ x13.S), .lF c15] rfl fd_62 (by kernel_rfl)).trans (by simp only [viewL_eL E_u8, viewL_eL (E_sl e_u8), viewL_eL E_GValue] <;> rfl)
          ·rcases ite_some h with ⟨c12, h⟩ | ⟨c12, h⟩
           ·obtain ⟨⟨o13_0, o13_1⟩, ho13, h⟩ := bs h
            try dsimp only at h
            obtain rfl := Option.some.inj h
            exact (call_wQ (r := (.tup [(true, [.int .i64 4, .int .i64 0, .seq (viewL (eL e_u8 [])), .seq (viewL (eL (e_sl e_u8) [])), .seq (viewL (eL e_GValue o13_1))]), (false, [.int .i64 0])], [])) [.le e_GValue a1, .lF c1, .cl (ok_slices_ContainsFunc_Value_call_1 a1 _ hr2), .cl (ok_impl_wants a0 _ hr4), .le (e_sl e_int) r4, .eF c5, .le (e_sl e_int) r4, .le e_GValue a1, .eT c6, .nt true, .le e_GValue a1, .lp (gl_impl_call_l0 a0 a1 r4 ((a1.length : Nat) : Int) 0 0 [] [] [] _ true 0 _ ho7), .nt true, ⟨.nat 0, .n 0, rfl⟩, .ix hx9 (eq_GValue x9), .sF c10, .sF c11, .sT c12, .le (e_sl e_u8) x9.K, .lp (gl_impl_call_l1 x9.K ((x9.K.length : Nat) : Int) 0 0 4 0 [] [] [] [] [] _ 0 [] _ ho13)] rfl fd_62 (by kernel_rfl)).trans (by simp only [viewL_eL E_u8, viewL_eL (E_sl e_u8), viewL_eL E_GValue] <;> rfl)
           ·rcases ite_some h with ⟨c13, h⟩ | ⟨c13, h⟩
            ·obtain rfl := Option.some.inj h
             exact (call_wQ (r := (.tup [(true, [.int .i64 4, .int .i64 0, .seq (viewL (eL e_u8 [])), .seq (viewL (eL (e_sl e_u8) [])), .seq (eL e_GValue x9.L)]), (false, [.int .i64 0])], [])) [.le e_GValue a1, .lF c1, .cl (ok_slices_ContainsFunc_Value_call_1 a1 _ hr2), .cl (ok_impl_wants a0 _ hr4), .le (e_sl e_int) r4, .eF c5, .le (e_sl e_int) r4, .le e_GValue a1, .eT c6, .nt true, .le e_GValue a1, .lp (gl_impl_call_l0 a0 a1 r4 ((a1.length : Nat) : Int) 0 0 [] [] [] _ true 0 _ ho7), .nt true, ⟨.nat 0, .n 0, rfl⟩, .ix hx9 (eq_GValue x9), .sF c10, .sF c11, .sF c12, .sT c13] rfl fd_62 (by kernel_rfl)).trans (by simp only [viewL_eL E_u8, viewL_eL (E_sl e_u8)] <;> rfl)
            ·rcases ite_some h with ⟨c14, h⟩ | ⟨c14, h⟩
             ·obtain ⟨x15, hx15, h⟩ := bs h
              obtain ⟨⟨r16_0, r16_1⟩, hr16, h⟩ := bs h
              try dsimp only at h
              obtain ⟨r17, hr17, h⟩ := bs h
              obtain rfl := Option.some.inj h
              exact (call_wQ (r := (.tup [(true, [.int .i64 r17.Kind, .int .i64 r17.N, .seq (viewL (eL e_u8 r17.S)), .seq (viewL (eL (o_sl 1 e_u8) r17.K)), .seq (viewL (eL o_GValue r17.L))]), (false, [.int .i64 0])], [])) [.le e_GValue a1, .lF c1, .cl (ok_slices_ContainsFunc_Value_call_1 a1 _ hr2), .cl (ok_impl_wants a0 _ hr4), .le (e_sl e_int) r4, .eF c5, .le (e_sl e_int) r4, .le e_GValue a1, .eT c6, .nt true, .le e_GValue a1, .lp (gl_impl_call_l0 a0 a1 r4 ((a1.length : Nat) : Int) 0 0 [] [] [] _ true 0 _ ho7), .nt true, ⟨.nat 0, .n 0, rfl⟩, .ix hx9 (eq_GValue x9), .sF c10, .sF c11, .sF c12, .sF c13, .sT c14, ⟨.nat 1, .n 1, rfl⟩, .ix hx15 (eq_GValue x15), .cl (ok_impl_Value_keyAt x9 x15.S _ hr16), .cl (ok_impl_flag r16_1 _ hr17)] rfl fd_62 (by kernel_rfl)).trans (by simp only [viewL_eL E_u8, viewL_oL (O_sl 1 O_u8), viewL_oL O_GValue] <;> rfl)
             ·rcases ite_some h with ⟨c15, h⟩ | ⟨c15, h⟩
              ·obtain ⟨x16, hx16, h⟩ := bs h
               obtain rfl := Option.some.inj h
               exact (call_wQ (r := (.tup [(true, [.int .i64 2, .int .i64 (if x16.N < x9.N then x16.N else x9.N), .seq (viewL (eL e_u8 [])), .seq (viewL (eL (e_sl e_u8) [])), .seq (viewL (eL e_GValue []))]), (false, [.int .i64 0])], [])) [.le e_GValue a1, .lF c1, .cl (ok_slices_ContainsFunc_Value_call_1 a1 _ hr2), .cl (ok_impl_wants a0 _ hr4), .le (e_sl e_int) r4, .eF c5, .le (e_sl e_int) r4, .le e_GValue a1, .eT c6, .nt true, .le e_GValue a1, .lp (gl_impl_call_l0 a0 a1 r4 ((a1.length : Nat) : Int) 0 0 [] [] [] _ true 0 _ ho7), .nt true, ⟨.nat 0, .n 0, rfl⟩, .ix hx9 (eq_GValue x9), .sF c10, .sF c11, .sF c12, .sF c13, .sF c14, .sT c15, ⟨.nat 1, .n 1, rfl⟩, .ix hx16 (eq_GValue x16), ⟨.minI x9.N x16.N, .i (if x16.N < x9.N then x16.N else x9.N), rfl⟩] rfl fd_62 (by kernel_rfl)).trans (by simp only [viewL_eL E_u8, viewL_eL (E_sl e_u8), viewL_eL E_GValue] <;> rfl)
              ·obtain ⟨x16, hx16, h⟩ := bs h
               obtain rfl := Option.some.inj h
               exact (call_wQ (r := (.tup [(true, [.int .i64 2, .int .i64 (if x9.N < x16.N then x16.N else x9.N), .seq (viewL (eL e_u8 [])), .seq (viewL (eL (e_sl e_u8) [])), .seq (viewL (eL e_GValue []))]), (false, [.int .i64 0])], [])) [.le e_GValue a1, .lF c1, .cl (ok_slices_ContainsFunc_Value_call_1 a1 _ hr2), .cl (ok_impl_wants a0 _ hr4), .le (e_sl e_int) r4, .eF c5, .le (e_sl e_int) r4, .le e_GValue a1, .eT c6, .nt true, .le e_GValue a1, .lp (gl_impl_call_l0 a0 a1 r4 ((a1.length : Nat) : Int) 0 0 [] [] [] _ true 0 _ ho7), .nt true, ⟨.nat 0, .n 0, rfl⟩, .ix hx9 (eq_GValue x9), .sF c10, .sF c11, .sF c12, .sF c13, .sF c14, .sF c15, ⟨.nat 1, .n 1, rfl⟩, .ix hx16 (eq_GValue x16), ⟨.maxI x9.N x16.N, .i (if x9.N < x16.N then x16.N else x9.N), rfl⟩] rfl fd_62 (by kernel_rfl)).trans (by simp only [viewL_eL E_u8, viewL_eL (E_sl e_u8), viewL_eL E_GValue] <;> rfl)
        | false =>
         try dsimp only at h
         obtain ⟨r9, hr9, h⟩ := bs h
         obtain rfl := Option.some.inj h
         exact (call_wQ (r := (.tup [(true, [.int .i64 r9.Kind, .int .i64 r9.N, .seq (viewL (eL e_u8 r9.S)), .seq (viewL (eL (o_sl 1 e_u8) r9.K)), .seq (viewL (eL o_GValue r9.L))]), (false, [.int .i64 0])], [])) [.le e_GValue a1, .lF c1, .cl (ok_slices_ContainsFunc_Value_call_1 a1 _ hr2), .cl (ok_impl_wants a0 _ hr4), .le (e_sl e_int) r4, .eF c5, .le (e_sl e_int) r4, .le e_GValue a1, .eT c6, .nt true, .le e_GValue a1, .lp (gl_impl_call_l0 a0 a1 r4 ((a1.length : Nat) : Int) 0 0 [] [] [] _ true 0 _ ho7), .nt false, .cl (ok_impl_unknown  _ hr9)] rfl fd_62 (by kernel_rfl)).trans (by simp only [viewL_eL E_u8, viewL_oL (O_sl 1 O_u8), viewL_oL O_GValue] <;> rfl)
     ·obtain rfl := Option.some.inj h
      exact (call_wQ (r := (.tup [(true, [.int .i64 0, .int .i64 0, .seq (viewL (eL e_u8 [])), .seq (viewL (eL (e_sl e_u8) [])), .seq (viewL (eL e_GValue []))]), (false, [.int .i64 5])], [])) [.le e_GValue a1, .lF c1, .cl (ok_slices_ContainsFunc_Value_call_1 a1 _ hr2), .cl (ok_impl_wants a0 _ hr4), .le (e_sl e_int) r4, .eF c5, .le (e_sl e_int) r4, .le e_GValue a1, .eF c6, .nt false] rfl fd_62 (by kernel_rfl)).trans (by simp only [viewL_eL E_u8, viewL_eL (E_sl e_u8), viewL_eL E_GValue] <;> rfl)

theorem wantsK_eq (a : List UInt8) : S_impl_wants a = some (wantsK a) := by
  unfold S_impl_wants wantsK
  by_cases h : a = [108, 101, 110]
  · rw [if_pos h, if_pos h]
  rw [if_neg h, if_neg h]
  clear h
  by_cases h : a = [99, 97, 116]
  · rw [if_pos h, if_pos h]
  rw [if_neg h, if_neg h]
  clear h
  by_cases h : a = [107, 101, 121, 115]
  · rw [if_pos h, if_pos h]
  rw [if_neg h, if_neg h]
  clear h
  by_cases h : a = [118, 97, 108, 115]
  · rw [if_pos h, if_pos h]
  rw [if_neg h, if_neg h]
  clear h
  by_cases h : a = [104, 97, 115]
  · rw [if_pos h, if_pos h]
  rw [if_neg h, if_neg h]
  clear h
  by_cases h : a = [109, 105, 110]
  · rw [if_pos h, if_pos h]
  rw [if_neg h, if_neg h]
  clear h
  by_cases h : a = [109, 97, 120]
  · rw [if_pos h, if_pos h]
  rw [if_neg h, if_neg h]
theorem contains_eq {l : List Int} (x : Int) (h : l.length ≤ 2 ^ 40) : S_slices_Contains_int l x = some (decide (x ∈ l)) := by
  unfold S_slices_Contains_int S_slices_Index_int
  rw [if_pos h, Option.bind_some]
  exact congrArg some (decide_eq_decide.2 (ixI_pos l x 0))
theorem wantsK_len (a : List UInt8) : (wantsK a).length = (wantsC a).length ∧ ∀ k ∈ wantsK a, k.length ≤ 2 ^ 40 := by
  unfold wantsK wantsC
  refine ⟨?_, ?_⟩
  · (repeat' split) <;> rfl
  · (repeat' split) <;> simp
theorem args_same (a : List UInt8) (l : List GValue) (h : (wantsC a).length = l.length) : argsI (wantsK a) l = argsF (wantsC a) l := by
  by_cases n1 : a = [108, 101, 110]
  · subst n1
    obtain ⟨x, rfl⟩ := one_of (show 1 = l.length from h)
    rw [show wantsK [108, 101, 110] = [[3, 4, 5]] from rfl, show wantsC [108, 101, 110] = [99] from rfl]
    simp [argsI, argsF, fit_c]
  by_cases n2 : a = [99, 97, 116]
  · subst n2
    obtain ⟨x, y, rfl⟩ := two_of (show 2 = l.length from h)
    rw [show wantsK [99, 97, 116] = [[3], [3]] from rfl, show wantsC [99, 97, 116] = [116, 116] from rfl]
    simp [argsI, argsF, fit_t]
  by_cases n3 : a = [107, 101, 121, 115]
  · subst n3
    obtain ⟨x, rfl⟩ := one_of (show 1 = l.length from h)
    rw [show wantsK [107, 101, 121, 115] = [[5]] from rfl, show wantsC [107, 101, 121, 115] = [109] from rfl]
    simp [argsI, argsF, fit_m]
  by_cases n4 : a = [118, 97, 108, 115]
  · subst n4
    obtain ⟨x, rfl⟩ := one_of (show 1 = l.length from h)
    rw [show wantsK [118, 97, 108, 115] = [[5]] from rfl, show wantsC [118, 97, 108, 115] = [109] from rfl]
    simp [argsI, argsF, fit_m]
  by_cases n5 : a = [104, 97, 115]
  · subst n5
    obtain ⟨x, y, rfl⟩ := two_of (show 2 = l.length from h)
    rw [show wantsK [104, 97, 115] = [[5], [3]] from rfl, show wantsC [104, 97, 115] = [109, 116] from rfl]
    simp [argsI, argsF, fit_m, fit_t]
  by_cases n6 : a = [109, 105, 110]
  · subst n6
    obtain ⟨x, y, rfl⟩ := two_of (show 2 = l.length from h)
    rw [show wantsK [109, 105, 110] = [[2], [2]] from rfl, show wantsC [109, 105, 110] = [105, 105] from rfl]
    simp [argsI, argsF, fit_i]
  by_cases n7 : a = [109, 97, 120]
  · subst n7
    obtain ⟨x, y, rfl⟩ := two_of (show 2 = l.length from h)
    rw [show wantsK [109, 97, 120] = [[2], [2]] from rfl, show wantsC [109, 97, 120] = [105, 105] from rfl]
    simp [argsI, argsF, fit_i]
  · have h1 : wantsK a = [] := by unfold wantsK; simp [*]
    have h2 : wantsC a = [] := by unfold wantsC; simp [*]
    rw [h1, h2]; rfl
theorem icall_loop0 {a0 : List UInt8} {a1 : List GValue} {v2 : List (List Int)} {v6 v7 : Int} {v8 : List UInt8} {v9 : List (List UInt8)} {v10 : List GValue} (ha : a1.length ≤ 2 ^ 40) (hk : ∀ k ∈ v2, k.length ≤ 2 ^ 40) : ∀ (l p : List GValue) (cs q : List (List Int)) (m : Nat) (b : Bool), a1 = p ++ l → v2 = q ++ cs → q.length = p.length → cs.length = l.length → l.length < m →
    ∃ z, L_impl_call_l0 a0 a1 v2 ((a1.length : Nat) : Int) v6 v7 v8 v9 v10 m b ((p.length : Nat) : Int) = some (if argsI cs l = true then .inr (b && knownA l, z) else .inl (2, 0, [], [], [])) := by
  intro l
  induction l with
  | nil =>
    intro p cs q m b he h2 hq hc hm
    subst he
    obtain ⟨m, rfl, _⟩ := fuel hm
    obtain rfl := List.length_eq_zero_iff.1 hc
    exact ⟨_, by rw [L_impl_call_l0, if_neg (nlt_end p)]; simp [argsI, knownA]; rfl⟩
  | cons x l ih =>
    intro p cs q m b he h2 hq hc hm
    obtain ⟨m, rfl, hm'⟩ := fuel hm
    have hlen : a1.length = p.length + (l.length + 1) := by rw [he]; simp
    cases cs with
    | nil => simp at hc
    | cons c cs =>
    simp only [List.length_cons] at hc hm'
    rw [L_impl_call_l0, if_pos (by omega), natO_nat, Option.bind_some, show a1[p.length]? = some x by rw [he]; exact get_mid p x l, Option.bind_some, w64_len p x (by omega)]
    have ihb := fun b => ih (p ++ [x]) cs (q ++ [c]) m b (by rw [he]; simp) (by rw [h2]; simp) (by simp [hq]) (by omega) (by omega)
    rw [argsI]
    unfold knownA
    rw [List.all_cons]
    by_cases h6 : x.Kind = 6
    · obtain ⟨z, hz⟩ := ihb false
      refine ⟨z, ?_⟩
      rw [if_pos h6, hz]
      simp [h6]
    · rw [if_neg h6, show v2[p.length]? = some c by rw [h2, ← hq]; exact get_mid q c cs, Option.bind_some, contains_eq _ (hk c (by rw [h2]; simp)), Option.bind_some]
      by_cases hf : x.Kind ∈ c
      · obtain ⟨z, hz⟩ := ihb b
        refine ⟨z, ?_⟩
        rw [decide_eq_true hf]
        dsimp only
        rw [hz]
        simp [h6, knownA]
      · rw [decide_eq_false hf]
        exact ⟨0, by simp [h6]⟩
theorem icall_loop1 {a : List (List UInt8)} {v3 v4 v5 v6 : Int} {v7 : List UInt8} {v8 : List (List UInt8)} {v9 : List GValue} {v10 : List UInt8} {v11 : List (List UInt8)} (hx : a.length ≤ 2 ^ 39) : ∀ (l p : List (List UInt8)) (m : Nat), a = p ++ l → l.length < m → ∃ z, L_impl_call_l1 a ((a.length : Nat) : Int) v3 v4 v5 v6 v7 v8 v9 v10 v11 m ((p.length : Nat) : Int) (p.map fun k => GValue.mk 3 0 k [] []) = some (z, a.map fun k => GValue.mk 3 0 k [] []) := by
  intro l
  induction l with
  | nil =>
    intro p m he hm
    subst he
    obtain ⟨m, rfl, _⟩ := fuel hm
    exact ⟨_, by rw [L_impl_call_l1, if_neg (nlt_end p), List.append_nil]⟩
  | cons y l ih =>
    intro p m he hm
    obtain ⟨m, rfl, hm'⟩ := fuel hm
    have hlen : a.length = p.length + (l.length + 1) := by rw [he]; simp
    obtain ⟨z, hz⟩ := ih (p ++ [y]) m (by rw [he]; simp) (by simp only [List.length_cons] at hm'; omega)
    refine ⟨z, ?_⟩
    rw [L_impl_call_l1, if_pos (by omega), natO_nat, Option.bind_some, show a[p.length]? = some y by rw [he]; exact get_mid p y l, Option.bind_some, if_pos (room_ok (by decide) (by simp only [List.length_map, List.length_cons, List.length_nil]; omega)), w64_len p y (by omega)]
    rw [List.map_append] at hz
    exact hz
theorem icall_T {a0 : List UInt8} {a1 : List GValue} (hs : ∀ v ∈ a1, vsz v ≤ 2 ^ 20) (hl : a1.length ≤ 2 ^ 39) : T_impl_call 64 a0 a1 = some (callS a0 a1) := by
  unfold T_impl_call callS
  by_cases h40 : 40 < a1.length
  · rw [if_pos (by omega), if_pos h40]; rfl
  rw [if_neg (by omega), if_neg h40]
  unfold S_slices_ContainsFunc_Value_call_1 S_slices_IndexFunc_Value_call_1
  rw [if_pos ⟨by omega, hs⟩, Option.bind_some, Option.bind_some]
  by_cases hv : a1.all valB = true
  case neg =>
    rw [decide_eq_true ((ixNV_pos a1 0).2 hv), if_neg hv]; rfl
  rw [decide_eq_false (fun h => (ixNV_pos a1 0).1 h hv), if_pos hv]
  dsimp only
  unfold callR
  rw [wantsK_eq, Option.bind_some]
  obtain ⟨hkl, hks⟩ := wantsK_len a0
  by_cases h0 : (wantsC a0).length = 0
  · rw [if_pos (by omega), if_pos h0]; rfl
  rw [if_neg (by omega), if_neg h0]
  by_cases he : (wantsC a0).length = a1.length
  case neg =>
    rw [if_neg (by omega), if_neg he]; rfl
  rw [if_pos (by omega), if_pos he]
  obtain ⟨z, hz⟩ := icall_loop0 (a0 := a0) (a1 := a1) (v2 := wantsK a0) (v6 := 0) (v7 := 0) (v8 := []) (v9 := []) (v10 := []) (by omega) hks a1 [] (wantsK a0) [] 64 true rfl rfl rfl (by omega) (by omega)
  simp only [List.length_nil, Int.natCast_zero] at hz
  rw [hz, Option.bind_some, args_same a0 a1 he]
  by_cases hA : argsF (wantsC a0) a1 = true
  case neg =>
    rw [if_neg hA, if_neg hA]; rfl
  rw [if_pos hA, if_pos hA]
  dsimp only
  by_cases hK : knownA a1 = true
  case neg =>
    rw [if_neg hK, Bool.eq_false_iff.2 hK]; rfl
  rw [if_pos hK, hK]
  simp only [Bool.and_self]
  clear hz
  have hv : ∀ v ∈ a1, vsz v ≤ 2 ^ 20 ∧ valB v = true := fun v hm => ⟨hs v hm, List.all_eq_true.1 hv v hm⟩
  by_cases n1 : a0 = [108, 101, 110]
  · subst n1
    rw [show wantsC [108, 101, 110] = [99] from rfl] at he hA
    obtain ⟨x, rfl⟩ := one_of he
    have hx := hv x (by simp)
    simp only [argsF, knownA, List.all_cons, List.all_nil, fit_t, fit_i, fit_m, fit_c, Bool.and_true, Bool.or_eq_true, decide_eq_true_eq] at hA hK
    rw [show ([x] : List GValue)[0]? = some x from rfl, Option.bind_some]
    show _ = some (appR _ x _)
    rw [if_pos rfl, appR_len]
    by_cases h3 : x.Kind = 3
    · rw [if_pos h3, if_pos h3]
    · rw [if_neg h3, if_neg h3]
  by_cases n1 : a0 = [99, 97, 116]
  · subst n1
    rw [show wantsC [99, 97, 116] = [116, 116] from rfl] at he hA
    obtain ⟨x, y, rfl⟩ := two_of he
    have hx := hv x (by simp)
    have hy := hv y (by simp)
    simp only [argsF, knownA, List.all_cons, List.all_nil, fit_t, fit_i, fit_m, fit_c, Bool.and_true, Bool.and_eq_true, Bool.or_eq_true, decide_eq_true_eq] at hA hK
    rw [show ([x, y] : List GValue)[0]? = some x from rfl, Option.bind_some]
    show _ = some (appR _ x y)
    rw [if_neg (show ¬ ([99, 97, 116] : List UInt8) = [108, 101, 110] by decide)]
    have k1 : x.Kind = 3 := hA.1.resolve_left hK.1
    have k2 : y.Kind = 3 := hA.2.resolve_left hK.2
    have t1 := val3 hx.2 k1
    have t2 := val3 hy.2 k2
    have l1 : x.S.length ≤ 20 := by unfold textB at t1; rw [Bool.and_eq_true] at t1; exact of_decide_eq_true t1.1
    have l2 : y.S.length ≤ 20 := by unfold textB at t2; rw [Bool.and_eq_true] at t2; exact of_decide_eq_true t2.1
    unfold S_impl_copyBytes
    rw [if_pos rfl, if_pos (room_ok (by decide) (by omega)), Option.bind_some, show ([x, y] : List GValue)[1]? = some y from rfl, Option.bind_some, if_pos (room_ok (by decide) (by omega)), appR_cat]
    by_cases h20 : 20 < (x.S ++ y.S).length
    · rw [if_pos (by omega), if_pos h20]; rfl
    · rw [if_neg (by omega), if_neg h20]
  by_cases n1 : a0 = [107, 101, 121, 115]
  · subst n1
    rw [show wantsC [107, 101, 121, 115] = [109] from rfl] at he hA
    obtain ⟨x, rfl⟩ := one_of he
    have hx := hv x (by simp)
    simp only [argsF, knownA, List.all_cons, List.all_nil, fit_t, fit_i, fit_m, fit_c, Bool.and_true, Bool.or_eq_true, decide_eq_true_eq] at hA hK
    rw [show ([x] : List GValue)[0]? = some x from rfl, Option.bind_some]
    show _ = some (appR _ x _)
    rw [if_neg (show ¬ ([107, 101, 121, 115] : List UInt8) = [108, 101, 110] by decide)]
    rw [if_neg (show ¬ ([107, 101, 121, 115] : List UInt8) = [99, 97, 116] by decide)]
    have k1 : x.Kind = 5 := hA.resolve_left hK
    have h5 := (val5 hx.2 k1).2
    rw [if_pos rfl, appR_keys]
    obtain ⟨z, hz⟩ := icall_loop1 (a := x.K) (v3 := 0) (v4 := 0) (v5 := 4) (v6 := 0) (v7 := []) (v8 := []) (v9 := []) (v10 := []) (v11 := []) (by omega) x.K [] 64 rfl (by omega)
    simp only [List.length_nil, Int.natCast_zero, List.map_nil] at hz
    rw [hz]; rfl
  by_cases n1 : a0 = [118, 97, 108, 115]
  · subst n1
    rw [show wantsC [118, 97, 108, 115] = [109] from rfl] at he hA
    obtain ⟨x, rfl⟩ := one_of he
    have hx := hv x (by simp)
    simp only [argsF, knownA, List.all_cons, List.all_nil, fit_t, fit_i, fit_m, fit_c, Bool.and_true, Bool.or_eq_true, decide_eq_true_eq] at hA hK
    rw [show ([x] : List GValue)[0]? = some x from rfl, Option.bind_some]
    show _ = some (appR _ x _)
    rw [if_neg (show ¬ ([118, 97, 108, 115] : List UInt8) = [108, 101, 110] by decide)]
    rw [if_neg (show ¬ ([118, 97, 108, 115] : List UInt8) = [99, 97, 116] by decide)]
    rw [if_neg (show ¬ ([118, 97, 108, 115] : List UInt8) = [107, 101, 121, 115] by decide)]
    rw [if_pos rfl, appR_vals]
  by_cases n1 : a0 = [104, 97, 115]
  · subst n1
    rw [show wantsC [104, 97, 115] = [109, 116] from rfl] at he hA
    obtain ⟨x, y, rfl⟩ := two_of he
    have hx := hv x (by simp)
    have hy := hv y (by simp)
    simp only [argsF, knownA, List.all_cons, List.all_nil, fit_t, fit_i, fit_m, fit_c, Bool.and_true, Bool.and_eq_true, Bool.or_eq_true, decide_eq_true_eq] at hA hK
    rw [show ([x, y] : List GValue)[0]? = some x from rfl, Option.bind_some]
    show _ = some (appR _ x y)
    rw [if_neg (show ¬ ([104, 97, 115] : List UInt8) = [108, 101, 110] by decide)]
    rw [if_neg (show ¬ ([104, 97, 115] : List UInt8) = [99, 97, 116] by decide)]
    rw [if_neg (show ¬ ([104, 97, 115] : List UInt8) = [107, 101, 121, 115] by decide)]
    rw [if_neg (show ¬ ([104, 97, 115] : List UInt8) = [118, 97, 108, 115] by decide)]
    have k1 : x.Kind = 5 := hA.1.resolve_left hK.1
    obtain ⟨hasc, h5⟩ := val5 hx.2 k1
    rw [if_pos rfl, show ([x, y] : List GValue)[1]? = some y from rfl, Option.bind_some, appR_has]
    unfold S_impl_Value_keyAt S_impl_flag
    obtain ⟨c, _, hb⟩ := bsearch_eq (a := x.K) (x := y.S) (by omega) hasc
    rw [hb, Option.bind_some]
    dsimp only
    rw [Option.bind_some]
    by_cases hm : y.S ∈ x.K
    · rw [decide_eq_true hm, if_pos hm]; rfl
    · rw [decide_eq_false hm, if_neg hm]; rfl
  by_cases n1 : a0 = [109, 105, 110]
  · subst n1
    rw [show wantsC [109, 105, 110] = [105, 105] from rfl] at he hA
    obtain ⟨x, y, rfl⟩ := two_of he
    have hx := hv x (by simp)
    have hy := hv y (by simp)
    simp only [argsF, knownA, List.all_cons, List.all_nil, fit_t, fit_i, fit_m, fit_c, Bool.and_true, Bool.and_eq_true, Bool.or_eq_true, decide_eq_true_eq] at hA hK
    rw [show ([x, y] : List GValue)[0]? = some x from rfl, Option.bind_some]
    show _ = some (appR _ x y)
    rw [if_neg (show ¬ ([109, 105, 110] : List UInt8) = [108, 101, 110] by decide)]
    rw [if_neg (show ¬ ([109, 105, 110] : List UInt8) = [99, 97, 116] by decide)]
    rw [if_neg (show ¬ ([109, 105, 110] : List UInt8) = [107, 101, 121, 115] by decide)]
    rw [if_neg (show ¬ ([109, 105, 110] : List UInt8) = [118, 97, 108, 115] by decide)]
    rw [if_neg (show ¬ ([109, 105, 110] : List UInt8) = [104, 97, 115] by decide)]
    rw [if_pos rfl, show ([x, y] : List GValue)[1]? = some y from rfl, Option.bind_some, appR_min]
  by_cases n1 : a0 = [109, 97, 120]
  · subst n1
    rw [show wantsC [109, 97, 120] = [105, 105] from rfl] at he hA
    obtain ⟨x, y, rfl⟩ := two_of he
    have hx := hv x (by simp)
    have hy := hv y (by simp)
    simp only [argsF, knownA, List.all_cons, List.all_nil, fit_t, fit_i, fit_m, fit_c, Bool.and_true, Bool.and_eq_true, Bool.or_eq_true, decide_eq_true_eq] at hA hK
    rw [show ([x, y] : List GValue)[0]? = some x from rfl, Option.bind_some]
    show _ = some (appR _ x y)
    rw [if_neg (show ¬ ([109, 97, 120] : List UInt8) = [108, 101, 110] by decide)]
    rw [if_neg (show ¬ ([109, 97, 120] : List UInt8) = [99, 97, 116] by decide)]
    rw [if_neg (show ¬ ([109, 97, 120] : List UInt8) = [107, 101, 121, 115] by decide)]
    rw [if_neg (show ¬ ([109, 97, 120] : List UInt8) = [118, 97, 108, 115] by decide)]
    rw [if_neg (show ¬ ([109, 97, 120] : List UInt8) = [104, 97, 115] by decide)]
    rw [if_neg (show ¬ ([109, 97, 120] : List UInt8) = [109, 105, 110] by decide)]
    rw [show ([x, y] : List GValue)[1]? = some y from rfl, Option.bind_some, appR_max]
  exfalso
  have : wantsC a0 = [] := by
    unfold wantsC
    simp [*]
  simp [this] at h0
open Classical in
noncomputable def S_impl_call (a0 : (List UInt8)) (a1 : (List GValue)) : Option (GValue × Int) := if (∀ v ∈ a1, vsz v ≤ 2 ^ 20) ∧ a1.length ≤ 2 ^ 39 then some (callS a0 a1) else none
theorem spec_impl_call (a0 : (List UInt8)) (a1 : (List GValue)) (r : (GValue × Int)) (h : S_impl_call a0 a1 = some r) : ∃ n, T_impl_call n a0 a1 = some r := by
  unfold S_impl_call at h
  obtain ⟨⟨hs, hl⟩, h⟩ := need_c h
  exact ⟨64, by rw [icall_T hs hl, h]⟩
theorem ok_impl_call (a0 : (List UInt8)) (a1 : (List GValue)) (r : (GValue × Int)) (h : S_impl_call a0 a1 = some r) : (mach cfg).call 62 [] [.val false [.str a0], .val false [.seq (eL e_GValue a1)]] = some (.tup [(true, [.int .i64 r.1.Kind, .int .i64 r.1.N, .seq (eL e_u8 r.1.S), .seq (eL (e_sl e_u8) r.1.K), .seq (eL e_GValue r.1.L)]), (false, [.int .i64 r.2])], []) := by
  obtain ⟨n, hn⟩ := spec_impl_call a0 a1 r h
  exact g_impl_call n a0 a1 r hn
def L_impl_copyTexts_l0 (a0 : (List (List UInt8))) (v1 : Int) : Nat → Int → (List (List UInt8)) → Option (Int × (List (List UInt8)))
  | 0, _, _ => none
  | m + 1, v2, v3 =>
    if v2 < v1 then
      (natO v2).bind fun i2 =>
      (a0[i2]?).bind fun x3 =>
      (S_impl_copyBytes x3).bind fun r4 =>
      if roomP 24 (v3.length + [r4].length) then
      L_impl_copyTexts_l0 a0 v1 m (w64 (v2 + 1)) (v3 ++ [r4])
      else none
    else
      some (v2, v3)

theorem gl_impl_copyTexts_l0 (a0 : (List (List UInt8))) (v1 : Int) (m : Nat) : ∀ (v2 : Int) (v3 : (List (List UInt8))) (o : (Int × (List (List UInt8)))), L_impl_copyTexts_l0 a0 v1 m v2 v3 = some o → (mach cfg).loop 78 (loopB Try.f78 0) ⟨[(3, .val false [.ref 0]), (7, .val false [.seq (eL (e_sl e_u8) a0)]), (8, .val false [.int .i64 v1]), (9, .val false [.int .i64 v2])], [.obj 1 (eL (o_sl 1 e_u8) v3)], 0⟩ = some (match o with | ⟨o_0, o_1⟩ => (.exit 0, (⟨[(3, .val false [.ref 0]), (7, .val false [.seq (eL (e_sl e_u8) a0)]), (8, .val false [.int .i64 v1]), (9, .val false [.int .i64 o_0]), (10, .val false [.bool false])], [.obj 1 (eL (o_sl 1 e_u8) o_1)], 0⟩ : S))) := by
  induction m with
  | zero => intro v2 v3 o h; cases h
  | succ m ih =>
    intro v2 v3 o h
    rw [L_impl_copyTexts_l0] at h
    rcases ite_some h with ⟨c1, h⟩ | ⟨c1, h⟩
    ·obtain ⟨i2, hi2, h⟩ := bs h
     obtain ⟨x3, hx3, h⟩ := bs h
     obtain ⟨r4, hr4, h⟩ := bs h
     obtain ⟨n5, h⟩ := need_some h
     exact loop_nQ [.lT c1, .na hi2, .ix0 (e_sl e_u8) hx3, .cl (ok_impl_copyBytes x3 _ hr4), ⟨.room 24 (eL (o_sl 1 e_u8) v3) (eL (o_sl 1 e_u8) [r4]), .b true, (A.room n5)⟩, ⟨.uni 1 (eL (o_sl 1 e_u8) [r4]), .b true, (A.uniO (O_sl 1 O_u8))⟩, ⟨.app (eL (o_sl 1 e_u8) v3) (eL (o_sl 1 e_u8) [r4]), .l (eL (o_sl 1 e_u8) (v3 ++ [r4])), A.app⟩, .ad v2 1] (by kernel_rfl) (ih (w64 (v2 + 1)) (v3 ++ [r4]) o h)
    ·obtain rfl := Option.some.inj h
     exact loop_eQ [.lF c1] (by kernel_rfl) (by intro h; cases h)

def T_impl_copyTexts (n : Nat) (a0 : (List (List UInt8))) : Option (List (List UInt8)) :=
  (L_impl_copyTexts_l0 a0 ((a0.length : Nat) : Int) n 0 []).bind fun ⟨o1_0, o1_1⟩ =>
  some o1_1

set_option maxRecDepth 100000 in
theorem fd_78 : cfg.funcs 78 = some (bodyOf Try.f78, Try.f78.ntmps, Try.f78.results.toList) := fn_of Try.func78 (by kernel_rfl) (by kernel_rfl)
theorem g_impl_copyTexts (n : Nat) (a0 : (List (List UInt8))) (r : (List (List UInt8))) (h : T_impl_copyTexts n a0 = some r) : (mach cfg).call 78 [] [.val false [.seq (eL (e_sl e_u8) a0)]] = some (.val false [.own 1 (eL (o_sl 1 e_u8) r)], []) := by
  unfold T_impl_copyTexts at h
  obtain ⟨⟨o1_0, o1_1⟩, ho1, h⟩ := bs h
  try dsimp only at h
  obtain rfl := Option.some.inj h
  exact call_wQ [.le (e_sl e_u8) a0, .lp (gl_impl_copyTexts_l0 a0 ((a0.length : Nat) : Int) _ 0 [] _ ho1)] rfl fd_78 (by kernel_rfl)

theorem copyBytes_eq {a : List UInt8} (h : a.length ≤ 2 ^ 39) : S_impl_copyBytes a = some a := if_pos (room_ok (by decide) (by omega))
theorem copyTexts_loop {a : List (List UInt8)} (ha : bsz a ≤ 2 ^ 39) : ∀ (l p : List (List UInt8)) (m : Nat), a = p ++ l → l.length < m → ∃ z, L_impl_copyTexts_l0 a ((a.length : Nat) : Int) m ((p.length : Nat) : Int) p = some (z, a) := by
  have hl := bsz_len a
  intro l
  induction l with
  | nil =>
    intro p m he hm
    subst he
    obtain ⟨m, rfl, _⟩ := fuel hm
    exact ⟨_, by rw [L_impl_copyTexts_l0, if_neg (nlt_end p)]; simp; rfl⟩
  | cons x l ih =>
    intro p m he hm
    obtain ⟨m, rfl, hm'⟩ := fuel hm
    have hx : 1 + x.length ≤ bsz a := bsz_mem (by rw [he]; simp)
    have hlen : a.length = p.length + (l.length + 1) := by rw [he]; simp
    obtain ⟨z, hz⟩ := ih (p ++ [x]) m (by rw [he]; simp) (by simp only [List.length_cons] at hm'; omega)
    refine ⟨z, ?_⟩
    rw [L_impl_copyTexts_l0, if_pos (by omega), natO_nat, Option.bind_some, show a[p.length]? = some x by rw [he]; exact get_mid p x l, Option.bind_some, copyBytes_eq (by omega), Option.bind_some, if_pos (room_ok (by decide) (by simp only [List.length_cons, List.length_nil]; omega)), w64_len p x (by omega), hz]
def S_impl_copyTexts (a0 : (List (List UInt8))) : Option (List (List UInt8)) := if bsz a0 ≤ 2 ^ 39 then some a0 else none
theorem copyTexts_eq {a : List (List UInt8)} (h : bsz a ≤ 2 ^ 39) : S_impl_copyTexts a = some a := if_pos h
theorem spec_impl_copyTexts (a0 : (List (List UInt8))) (r : (List (List UInt8))) (h : S_impl_copyTexts a0 = some r) : ∃ n, T_impl_copyTexts n a0 = some r := by
  unfold S_impl_copyTexts at h
  obtain ⟨ha, h⟩ := need_c h
  obtain ⟨z, hz⟩ := copyTexts_loop ha a0 [] (a0.length + 1) rfl (by omega)
  refine ⟨a0.length + 1, ?_⟩
  unfold T_impl_copyTexts
  simp only [List.length_nil, Int.natCast_zero] at hz
  rw [hz]; exact h
theorem ok_impl_copyTexts (a0 : (List (List UInt8))) (r : (List (List UInt8))) (h : S_impl_copyTexts a0 = some r) : (mach cfg).call 78 [] [.val false [.seq (eL (e_sl e_u8) a0)]] = some (.val false [.own 1 (eL (o_sl 1 e_u8) r)], []) := by
  obtain ⟨n, hn⟩ := spec_impl_copyTexts a0 r h
  exact g_impl_copyTexts n a0 r hn
def L_impl_copyValue_l0 (G_impl_copyValue : GValue → Option GValue) (v0 : (List GValue)) (v1 : Int) (v3 : Int) (v4 : Int) (v5 : Int) (v6 : Int) (v7 : (List UInt8)) (v8 : (List (List UInt8))) (v9 : (List GValue)) (v10 : (List UInt8)) (v11 : (List (List UInt8))) : Nat → Int → (List GValue) → Option (Int × (List GValue))
  | 0, _, _ => none
  | m + 1, v2, v12 =>
    if v2 < v1 then
      (natO v2).bind fun i2 =>
      (v0[i2]?).bind fun x3 =>
      (G_impl_copyValue x3).bind fun r4 =>
      if roomP 88 (v12.length + [r4].length) then
      L_impl_copyValue_l0 G_impl_copyValue v0 v1 v3 v4 v5 v6 v7 v8 v9 v10 v11 m (w64 (v2 + 1)) (v12 ++ [r4])
      else none
    else
      some (v2, v12)

theorem gl_impl_copyValue_l0 (G_impl_copyValue : GValue → Option GValue) (H_impl_copyValue : ∀ (a0 : GValue) (r : GValue), G_impl_copyValue a0 = some r → (mach cfg).call 63 [] [.val true [.int .i64 a0.Kind, .int .i64 a0.N, .seq (eL e_u8 a0.S), .seq (eL (e_sl e_u8) a0.K), .seq (eL e_GValue a0.L)]] = some (.val true [.int .i64 r.Kind, .int .i64 r.N, .own 1 (eL e_u8 r.S), .own 1 (eL (o_sl 1 e_u8) r.K), .own 5 (eL o_GValue r.L)], [])) (v0 : (List GValue)) (v1 : Int) (v3 : Int) (v4 : Int) (v5 : Int) (v6 : Int) (v7 : (List UInt8)) (v8 : (List (List UInt8))) (v9 : (List GValue)) (v10 : (List UInt8)) (v11 : (List (List UInt8))) (m : Nat) : ∀ (v2 : Int) (v12 : (List GValue)) (o : (Int × (List GValue))), L_impl_copyValue_l0 G_impl_copyValue v0 v1 v3 v4 v5 v6 v7 v8 v9 v10 v11 m v2 v12 = some o → (mach cfg).loop 63 (loopB Try.f63 0) ⟨[(2, .val false [.ptr 0 0]), (3, .val false [.ptr 1 0]), (18, .val false [.seq (eL e_GValue v0)]), (19, .val false [.int .i64 v1]), (20, .val false [.int .i64 v2])], [.var [.int .i64 v3, .int .i64 v4, .ref 2, .ref 3, .ref 4], .var [.int .i64 v5, .int .i64 v6, .ref 5, .ref 6, .ref 7], .obj 1 (eL e_u8 v7), .obj 1 (eL (o_sl 1 e_u8) v8), .obj 5 (eL o_GValue v9), .obj 1 (eL e_u8 v10), .obj 1 (eL (o_sl 1 e_u8) v11), .obj 5 (eL o_GValue v12)], 0⟩ = some (match o with | ⟨o_0, o_1⟩ => (.exit 0, (⟨[(2, .val false [.ptr 0 0]), (3, .val false [.ptr 1 0]), (18, .val false [.seq (eL e_GValue v0)]), (19, .val false [.int .i64 v1]), (20, .val false [.int .i64 o_0]), (21, .val false [.bool false])], [.var [.int .i64 v3, .int .i64 v4, .ref 2, .ref 3, .ref 4], .var [.int .i64 v5, .int .i64 v6, .ref 5, .ref 6, .ref 7], .obj 1 (eL e_u8 v7), .obj 1 (eL (o_sl 1 e_u8) v8), .obj 5 (eL o_GValue v9), .obj 1 (eL e_u8 v10), .obj 1 (eL (o_sl 1 e_u8) v11), .obj 5 (eL o_GValue o_1)], 0⟩ : S))) := by
  induction m with
  | zero => intro v2 v12 o h; cases h
  | succ m ih =>
    intro v2 v12 o h
    rw [L_impl_copyValue_l0] at h
    rcases ite_some h with ⟨c1, h⟩ | ⟨c1, h⟩
    ·obtain ⟨i2, hi2, h⟩ := bs h
     obtain ⟨x3, hx3, h⟩ := bs h
     obtain ⟨r4, hr4, h⟩ := bs h
     obtain ⟨n5, h⟩ := need_some h
     exact loop_nQ [.lT c1, .na hi2, .ix hx3 (eq_GValue x3), .cl (H_impl_copyValue x3 _ hr4), ⟨.room 88 (eL o_GValue v12) ([[.int .i64 r4.Kind, .int .i64 r4.N, .own 1 (eL e_u8 r4.S), .own 1 (eL (o_sl 1 e_u8) r4.K), .own 5 (eL o_GValue r4.L)]] : List (List C)), .b true, by rw [(show ([[.int .i64 r4.Kind, .int .i64 r4.N, .own 1 (eL e_u8 r4.S), .own 1 (eL (o_sl 1 e_u8) r4.K), .own 5 (eL o_GValue r4.L)]] : List (List C)) = eL o_GValue [r4] from (raw_cons (oeq_GValue r4) raw_nil))]; exact (A.room n5)⟩, ⟨.uni 5 ([[.int .i64 r4.Kind, .int .i64 r4.N, .own 1 (eL e_u8 r4.S), .own 1 (eL (o_sl 1 e_u8) r4.K), .own 5 (eL o_GValue r4.L)]] : List (List C)), .b true, by rw [(show ([[.int .i64 r4.Kind, .int .i64 r4.N, .own 1 (eL e_u8 r4.S), .own 1 (eL (o_sl 1 e_u8) r4.K), .own 5 (eL o_GValue r4.L)]] : List (List C)) = eL o_GValue [r4] from (raw_cons (oeq_GValue r4) raw_nil))]; exact (A.uniO O_GValue)⟩, ⟨.app (eL o_GValue v12) ([[.int .i64 r4.Kind, .int .i64 r4.N, .own 1 (eL e_u8 r4.S), .own 1 (eL (o_sl 1 e_u8) r4.K), .own 5 (eL o_GValue r4.L)]] : List (List C)), .l (eL o_GValue (v12 ++ [r4])), by rw [(show ([[.int .i64 r4.Kind, .int .i64 r4.N, .own 1 (eL e_u8 r4.S), .own 1 (eL (o_sl 1 e_u8) r4.K), .own 5 (eL o_GValue r4.L)]] : List (List C)) = eL o_GValue [r4] from (raw_cons (oeq_GValue r4) raw_nil))]; exact A.app⟩, .ad v2 1] (by kernel_rfl) (ih (w64 (v2 + 1)) (v12 ++ [r4]) o h)
    ·obtain rfl := Option.some.inj h
     exact loop_eQ [.lF c1] (by kernel_rfl) (by intro h; cases h)

def T_impl_copyValue (G_impl_copyValue : GValue → Option GValue) (n : Nat) (a0 : GValue) : Option GValue :=
  (S_impl_copyBytes a0.S).bind fun r1 =>
  (S_impl_copyTexts a0.K).bind fun r2 =>
  (L_impl_copyValue_l0 G_impl_copyValue a0.L ((a0.L.length : Nat) : Int) 0 0 a0.Kind a0.N [] [] [] r1 r2 n 0 []).bind fun ⟨o3_0, o3_1⟩ =>
  some (GValue.mk a0.Kind a0.N r1 r2 o3_1)

set_option maxRecDepth 100000 in
theorem fd_63 : cfg.funcs 63 = some (bodyOf Try.f63, Try.f63.ntmps, Try.f63.results.toList) := fn_of Try.func63 (by kernel_rfl) (by kernel_rfl)
theorem g_impl_copyValue (G_impl_copyValue : GValue → Option GValue) (H_impl_copyValue : ∀ (a0 : GValue) (r : GValue), G_impl_copyValue a0 = some r → (mach cfg).call 63 [] [.val true [.int .i64 a0.Kind, .int .i64 a0.N, .seq (eL e_u8 a0.S), .seq (eL (e_sl e_u8) a0.K), .seq (eL e_GValue a0.L)]] = some (.val true [.int .i64 r.Kind, .int .i64 r.N, .own 1 (eL e_u8 r.S), .own 1 (eL (o_sl 1 e_u8) r.K), .own 5 (eL o_GValue r.L)], [])) (n : Nat) (a0 : GValue) (r : GValue) (h : T_impl_copyValue G_impl_copyValue n a0 = some r) : (mach cfg).call 63 [] [.val true [.int .i64 a0.Kind, .int .i64 a0.N, .seq (eL e_u8 a0.S), .seq (eL (e_sl e_u8) a0.K), .seq (eL e_GValue a0.L)]] = some (.val true [.int .i64 r.Kind, .int .i64 r.N, .own 1 (eL e_u8 r.S), .own 1 (eL (o_sl 1 e_u8) r.K), .own 5 (eL o_GValue r.L)], []) := by
  unfold T_impl_copyValue at h
  obtain ⟨r1, hr1, h⟩ := bs h
  obtain ⟨r2, hr2, h⟩ := bs h
  obtain ⟨⟨o3_0, o3_1⟩, ho3, h⟩ := bs h
  try dsimp only at h
  obtain rfl := Option.some.inj h
  exact call_wQ [.cl (ok_impl_copyBytes a0.S _ hr1), .cl (ok_impl_copyTexts a0.K _ hr2), .le e_GValue a0.L, .lp (gl_impl_copyValue_l0 G_impl_copyValue H_impl_copyValue a0.L ((a0.L.length : Nat) : Int) 0 0 a0.Kind a0.N [] [] [] r1 r2 _ 0 [] _ ho3)] rfl fd_63 (by kernel_rfl)

def U_impl_copyValue : Nat → GValue → Option GValue
  | 0, _ => none
  | n + 1, a0 => T_impl_copyValue (U_impl_copyValue n) n a0
theorem rec_impl_copyValue (n : Nat) : (∀ (a0 : GValue) (r : GValue), U_impl_copyValue n a0 = some r → (mach cfg).call 63 [] [.val true [.int .i64 a0.Kind, .int .i64 a0.N, .seq (eL e_u8 a0.S), .seq (eL (e_sl e_u8) a0.K), .seq (eL e_GValue a0.L)]] = some (.val true [.int .i64 r.Kind, .int .i64 r.N, .own 1 (eL e_u8 r.S), .own 1 (eL (o_sl 1 e_u8) r.K), .own 5 (eL o_GValue r.L)], [])) := by
  induction n with
  | zero => exact fun _ _ h => (by rw [U_impl_copyValue] at h; cases h)
  | succ n ih =>
    have ih_impl_copyValue := ih
    exact fun a0 r h => g_impl_copyValue (U_impl_copyValue n) ih_impl_copyValue n a0 r (by rw [U_impl_copyValue] at h; exact h)
theorem copyValue_loop {G : GValue → Option GValue} {a : List GValue} {v3 v4 v5 v6 : Int} {v7 : List UInt8} {v8 : List (List UInt8)} {v9 : List GValue} {v10 : List UInt8} {v11 : List (List UInt8)} (ha : a.length ≤ 2 ^ 39) : ∀ (l p : List GValue) (m : Nat), a = p ++ l → (∀ x ∈ l, G x = some x) → l.length < m → ∃ z, L_impl_copyValue_l0 G a ((a.length : Nat) : Int) v3 v4 v5 v6 v7 v8 v9 v10 v11 m ((p.length : Nat) : Int) p = some (z, a) := by
  intro l
  induction l with
  | nil =>
    intro p m he _ hm
    subst he
    obtain ⟨m, rfl, _⟩ := fuel hm
    exact ⟨_, by rw [L_impl_copyValue_l0, if_neg (nlt_end p)]; simp; rfl⟩
  | cons x l ih =>
    intro p m he hG hm
    obtain ⟨m, rfl, hm'⟩ := fuel hm
    have hlen : a.length = p.length + (l.length + 1) := by rw [he]; simp
    obtain ⟨z, hz⟩ := ih (p ++ [x]) m (by rw [he]; simp) (fun y hy => hG y (List.mem_cons_of_mem _ hy)) (by simp only [List.length_cons] at hm'; omega)
    refine ⟨z, ?_⟩
    rw [L_impl_copyValue_l0, if_pos (by omega), natO_nat, Option.bind_some, show a[p.length]? = some x by rw [he]; exact get_mid p x l, Option.bind_some, hG x List.mem_cons_self, Option.bind_some, if_pos (room_ok (by decide) (by simp only [List.length_cons, List.length_nil]; omega)), w64_len p x (by omega), hz]
theorem copyValue_U : ∀ (N : Nat) (v : GValue), vsz v < N → vsz v ≤ 2 ^ 39 → ∀ f : Nat, vsz v + 2 ≤ f → U_impl_copyValue f v = some v := by
  intro N
  induction N with
  | zero => intro v hv; omega
  | succ N ih =>
    intro v hv hs f hf
    obtain ⟨f, rfl, _⟩ := fuel (show 0 < f by omega)
    have he := vsz_eq v
    have hl := vszs_len v.L
    rw [U_impl_copyValue]
    unfold T_impl_copyValue
    rw [copyBytes_eq (by omega), copyTexts_eq (by omega)]
    simp only [Option.bind_some]
    obtain ⟨z, hz⟩ := copyValue_loop (G := U_impl_copyValue f) (a := v.L) (v3 := 0) (v4 := 0) (v5 := v.Kind) (v6 := v.N) (v7 := []) (v8 := []) (v9 := []) (v10 := v.S) (v11 := v.K) (by omega) v.L [] f rfl (fun x hx => by
      have := vszs_mem hx
      exact ih x (by omega) (by omega) f (by omega)) (by omega)
    simp only [List.length_nil, Int.natCast_zero] at hz
    rw [hz]
    exact congrArg some (GValue.eta v)
def S_impl_copyValue (a0 : GValue) : Option GValue := if vsz a0 ≤ 2 ^ 39 then some a0 else none
theorem spec_impl_copyValue (a0 : GValue) (r : GValue) (h : S_impl_copyValue a0 = some r) : ∃ n, U_impl_copyValue n a0 = some r := by
  unfold S_impl_copyValue at h
  obtain ⟨ha, h⟩ := need_c h
  exact ⟨vsz a0 + 2, by rw [← h]; exact copyValue_U _ a0 (Nat.lt_succ_self _) ha _ (Nat.le_refl _)⟩
theorem ok_impl_copyValue (a0 : GValue) (r : GValue) (h : S_impl_copyValue a0 = some r) : (mach cfg).call 63 [] [.val true [.int .i64 a0.Kind, .int .i64 a0.N, .seq (eL e_u8 a0.S), .seq (eL (e_sl e_u8) a0.K), .seq (eL e_GValue a0.L)]] = some (.val true [.int .i64 r.Kind, .int .i64 r.N, .own 1 (eL e_u8 r.S), .own 1 (eL (o_sl 1 e_u8) r.K), .own 5 (eL o_GValue r.L)], []) := by
  obtain ⟨n, hn⟩ := spec_impl_copyValue a0 r h
  exact (rec_impl_copyValue n) a0 r hn
def S_impl_Call (a0 : (List UInt8)) (a1 : (List GValue)) : Option (GValue × Int) :=
  (S_impl_call a0 a1).bind fun ⟨r1_0, r1_1⟩ =>
  if r1_1 = 0 then
    (S_impl_copyValue r1_0).bind fun r3 =>
    some (r3, 0)
  else
    some ((GValue.mk 0 0 [] [] []), r1_1)

set_option maxRecDepth 100000 in
theorem fd_26 : cfg.funcs 26 = some (bodyOf Try.f26, Try.f26.ntmps, Try.f26.results.toList) := fn_of Try.func26 (by kernel_rfl) (by kernel_rfl)
theorem ok_impl_Call (a0 : (List UInt8)) (a1 : (List GValue)) (r : (GValue × Int)) (h : S_impl_Call a0 a1 = some r) : (mach cfg).call 26 [] [.val false [.seq (eL e_u8 a0)], .val false [.seq (eL e_GValue a1)]] = some (.tup [(true, [.int .i64 r.1.Kind, .int .i64 r.1.N, .own 1 (eL e_u8 r.1.S), .own 1 (eL (o_sl 1 e_u8) r.1.K), .own 5 (eL o_GValue r.1.L)]), (false, [.int .i64 r.2])], []) := by
  unfold S_impl_Call at h
  obtain ⟨⟨r1_0, r1_1⟩, hr1, h⟩ := bs h
  try dsimp only at h
  rcases ite_some h with ⟨c2, h⟩ | ⟨c2, h⟩
  ·obtain ⟨r3, hr3, h⟩ := bs h
   obtain rfl := Option.some.inj h
   exact call_wQ [⟨.bytes (eL e_u8 a0), .s a0, A.bytes⟩, .cl (ok_impl_call a0 a1 _ hr1), .eT c2, .nt true, .cl (ok_impl_copyValue r1_0 _ hr3)] rfl fd_26 (by kernel_rfl)
  ·obtain rfl := Option.some.inj h
   exact call_wQ [⟨.bytes (eL e_u8 a0), .s a0, A.bytes⟩, .cl (ok_impl_call a0 a1 _ hr1), .eF c2, .nt false] rfl fd_26 (by kernel_rfl)

def L_laws_eqByteS_l0 (a0 : (List UInt8)) (a1 : (List UInt8)) : Nat → Int → Option (Bool ⊕ Int)
  | 0, _ => none
  | m + 1, v2 =>
    if v2 < ((a0.length : Nat) : Int) then
      (natO v2).bind fun i2 =>
      (a0[i2]?).bind fun x3 =>
      (a1[i2]?).bind fun x4 =>
      if ((x3.toNat : Nat) : Int) = ((x4.toNat : Nat) : Int) then
        L_laws_eqByteS_l0 a0 a1 m (w64 (v2 + 1))
      else
        some (.inl false)
    else
      some (.inr v2)

theorem gl_laws_eqByteS_l0 (a0 : (List UInt8)) (a1 : (List UInt8)) (m : Nat) : ∀ (v2 : Int) (o : (Bool ⊕ Int)), L_laws_eqByteS_l0 a0 a1 m v2 = some o → (mach cfg).loop 21 (loopB Try.f21 0) ⟨[(0, .val false [.seq (eL e_u8 a0)]), (1, .val false [.seq (eL e_u8 a1)]), (5, .val false [.int .i64 v2])], [], 0⟩ = some (match o with | .inl o_0 => (.ret, (⟨[(4, .val false [.bool o_0])], [], 0⟩ : S)) | .inr (o_1) => (.exit 0, (⟨[(0, .val false [.seq (eL e_u8 a0)]), (1, .val false [.seq (eL e_u8 a1)]), (5, .val false [.int .i64 o_1]), (14, .val false [.bool false])], [], 0⟩ : S))) := by
  induction m with
  | zero => intro v2 o h; cases h
  | succ m ih =>
    intro v2 o h
    rw [L_laws_eqByteS_l0] at h
    rcases ite_some h with ⟨c1, h⟩ | ⟨c1, h⟩
    ·obtain ⟨i2, hi2, h⟩ := bs h
     obtain ⟨x3, hx3, h⟩ := bs h
     obtain ⟨x4, hx4, h⟩ := bs h
     rcases ite_some h with ⟨c5, h⟩ | ⟨c5, h⟩
     ·exact loop_nQ [.le e_u8 a0, .lT c1, .na hi2, .ix0 e_u8 hx3, .na hi2, .ix0 e_u8 hx4, .eT c5, .nt true, .ad v2 1] (by kernel_rfl) (ih (w64 (v2 + 1)) o h)
     ·obtain rfl := Option.some.inj h
      exact loop_eQ [.le e_u8 a0, .lT c1, .na hi2, .ix0 e_u8 hx3, .na hi2, .ix0 e_u8 hx4, .eF c5, .nt false] (by kernel_rfl) (by intro h; cases h)
    ·obtain rfl := Option.some.inj h
     exact loop_eQ [.le e_u8 a0, .lF c1] (by kernel_rfl) (by intro h; cases h)

def T_laws_eqByteS (n : Nat) (a0 : (List UInt8)) (a1 : (List UInt8)) : Option Bool :=
  if ((a0.length : Nat) : Int) = ((a1.length : Nat) : Int) then
    (L_laws_eqByteS_l0 a0 a1 n 0).bind fun o2 =>
    match o2 with
    | .inl o2_0 =>
      some o2_0
    | .inr (o2_1) =>
      some true
  else
    some false

set_option maxRecDepth 100000 in
theorem fd_21 : cfg.funcs 21 = some (bodyOf Try.f21, Try.f21.ntmps, Try.f21.results.toList) := fn_of Try.func21 (by kernel_rfl) (by kernel_rfl)
theorem g_laws_eqByteS (n : Nat) (a0 : (List UInt8)) (a1 : (List UInt8)) (r : Bool) (h : T_laws_eqByteS n a0 a1 = some r) : (mach cfg).call 21 [] [.val false [.seq (eL e_u8 a0)], .val false [.seq (eL e_u8 a1)]] = some (.val false [.bool r], []) := by
  unfold T_laws_eqByteS at h
  rcases ite_some h with ⟨c1, h⟩ | ⟨c1, h⟩
  ·obtain ⟨o2, ho2, h⟩ := bs h
   rcases o2 with o2_0 | o2_1
   · try dsimp only at h
     obtain rfl := Option.some.inj h
     exact call_wQ [.le e_u8 a0, .le e_u8 a1, .eT c1, .nt true, .lp (gl_laws_eqByteS_l0 a0 a1 _ 0 _ ho2)] rfl fd_21 (by kernel_rfl)
   · try dsimp only at h
     obtain rfl := Option.some.inj h
     exact call_wQ [.le e_u8 a0, .le e_u8 a1, .eT c1, .nt true, .lp (gl_laws_eqByteS_l0 a0 a1 _ 0 _ ho2)] rfl fd_21 (by kernel_rfl)
  ·obtain rfl := Option.some.inj h
   exact call_wQ [.le e_u8 a0, .le e_u8 a1, .eF c1, .nt false] rfl fd_21 (by kernel_rfl)

theorem eqByteS_loop {a : List UInt8} (ha : a.length ≤ 2 ^ 40) : ∀ (d i m : Nat), i + d = a.length → d < m → ∃ z, L_laws_eqByteS_l0 a a m (i : Int) = some (.inr z) := by
  intro d
  induction d with
  | zero =>
    intro i m hi hm
    obtain ⟨m, rfl, _⟩ := fuel hm
    exact ⟨_, by rw [L_laws_eqByteS_l0, if_neg (by omega)]⟩
  | succ d ih =>
    intro i m hi hm
    obtain ⟨m, rfl, hm'⟩ := fuel hm
    have hil : i < a.length := by omega
    rw [L_laws_eqByteS_l0, if_pos (by omega), natO_nat, Option.bind_some, get_some hil, Option.bind_some, Option.bind_some, if_pos rfl, w64_succ (by omega)]
    exact ih (i + 1) m (by omega) (by omega)
def S_laws_eqByteS (a0 : (List UInt8)) (a1 : (List UInt8)) : Option Bool := if a0 = a1 ∧ a0.length ≤ 2 ^ 40 then some true else none
theorem spec_laws_eqByteS (a0 : (List UInt8)) (a1 : (List UInt8)) (r : Bool) (h : S_laws_eqByteS a0 a1 = some r) : ∃ n, T_laws_eqByteS n a0 a1 = some r := by
  unfold S_laws_eqByteS at h
  obtain ⟨⟨he, ha⟩, h2⟩ := need_c h
  clear h
  subst he
  refine ⟨a0.length + 1, ?_⟩
  obtain ⟨z, hz⟩ := eqByteS_loop ha a0.length 0 (a0.length + 1) (by omega) (by omega)
  rw [show ((0 : Nat) : Int) = 0 from rfl] at hz
  unfold T_laws_eqByteS
  rw [if_pos rfl, hz]; exact h2
theorem ok_laws_eqByteS (a0 : (List UInt8)) (a1 : (List UInt8)) (r : Bool) (h : S_laws_eqByteS a0 a1 = some r) : (mach cfg).call 21 [] [.val false [.seq (eL e_u8 a0)], .val false [.seq (eL e_u8 a1)]] = some (.val false [.bool r], []) := by
  obtain ⟨n, hn⟩ := spec_laws_eqByteS a0 a1 r h
  exact g_laws_eqByteS n a0 a1 r hn
def L_laws_eqByteSS_l0 (a0 : (List (List UInt8))) (a1 : (List (List UInt8))) : Nat → Int → Option (Bool ⊕ Int)
  | 0, _ => none
  | m + 1, v2 =>
    if v2 < ((a0.length : Nat) : Int) then
      (natO v2).bind fun i2 =>
      (a0[i2]?).bind fun x3 =>
      (a1[i2]?).bind fun x4 =>
      (S_laws_eqByteS x3 x4).bind fun r5 =>
      match r5 with
      | true =>
        L_laws_eqByteSS_l0 a0 a1 m (w64 (v2 + 1))
      | false =>
        some (.inl false)
    else
      some (.inr v2)

theorem gl_laws_eqByteSS_l0 (a0 : (List (List UInt8))) (a1 : (List (List UInt8))) (m : Nat) : ∀ (v2 : Int) (o : (Bool ⊕ Int)), L_laws_eqByteSS_l0 a0 a1 m v2 = some o → (mach cfg).loop 45 (loopB Try.f45 0) ⟨[(0, .val false [.seq (eL (e_sl e_u8) a0)]), (1, .val false [.seq (eL (e_sl e_u8) a1)]), (5, .val false [.int .i64 v2])], [], 0⟩ = some (match o with | .inl o_0 => (.ret, (⟨[(4, .val false [.bool o_0])], [], 0⟩ : S)) | .inr (o_1) => (.exit 0, (⟨[(0, .val false [.seq (eL (e_sl e_u8) a0)]), (1, .val false [.seq (eL (e_sl e_u8) a1)]), (5, .val false [.int .i64 o_1]), (14, .val false [.bool false])], [], 0⟩ : S))) := by
  induction m with
  | zero => intro v2 o h; cases h
  | succ m ih =>
    intro v2 o h
    rw [L_laws_eqByteSS_l0] at h
    rcases ite_some h with ⟨c1, h⟩ | ⟨c1, h⟩
    ·obtain ⟨i2, hi2, h⟩ := bs h
     obtain ⟨x3, hx3, h⟩ := bs h
     obtain ⟨x4, hx4, h⟩ := bs h
     obtain ⟨r5, hr5, h⟩ := bs h
     cases r5 with
     | true =>
      try dsimp only at h
      exact loop_nQ [.le (e_sl e_u8) a0, .lT c1, .na hi2, .ix0 (e_sl e_u8) hx3, .na hi2, .ix0 (e_sl e_u8) hx4, .cl (ok_laws_eqByteS x3 x4 _ hr5), .nt true, .ad v2 1] (by kernel_rfl) (ih (w64 (v2 + 1)) o h)
     | false =>
      try dsimp only at h
      obtain rfl := Option.some.inj h
      exact loop_eQ [.le (e_sl e_u8) a0, .lT c1, .na hi2, .ix0 (e_sl e_u8) hx3, .na hi2, .ix0 (e_sl e_u8) hx4, .cl (ok_laws_eqByteS x3 x4 _ hr5), .nt false] (by kernel_rfl) (by intro h; cases h)
    ·obtain rfl := Option.some.inj h
     exact loop_eQ [.le (e_sl e_u8) a0, .lF c1] (by kernel_rfl) (by intro h; cases h)

def T_laws_eqByteSS (n : Nat) (a0 : (List (List UInt8))) (a1 : (List (List UInt8))) : Option Bool :=
  if ((a0.length : Nat) : Int) = ((a1.length : Nat) : Int) then
    (L_laws_eqByteSS_l0 a0 a1 n 0).bind fun o2 =>
    match o2 with
    | .inl o2_0 =>
      some o2_0
    | .inr (o2_1) =>
      some true
  else
    some false

set_option maxRecDepth 100000 in
theorem fd_45 : cfg.funcs 45 = some (bodyOf Try.f45, Try.f45.ntmps, Try.f45.results.toList) := fn_of Try.func45 (by kernel_rfl) (by kernel_rfl)
theorem g_laws_eqByteSS (n : Nat) (a0 : (List (List UInt8))) (a1 : (List (List UInt8))) (r : Bool) (h : T_laws_eqByteSS n a0 a1 = some r) : (mach cfg).call 45 [] [.val false [.seq (eL (e_sl e_u8) a0)], .val false [.seq (eL (e_sl e_u8) a1)]] = some (.val false [.bool r], []) := by
  unfold T_laws_eqByteSS at h
  rcases ite_some h with ⟨c1, h⟩ | ⟨c1, h⟩
  ·obtain ⟨o2, ho2, h⟩ := bs h
   rcases o2 with o2_0 | o2_1
   · try dsimp only at h
     obtain rfl := Option.some.inj h
     exact call_wQ [.le (e_sl e_u8) a0, .le (e_sl e_u8) a1, .eT c1, .nt true, .lp (gl_laws_eqByteSS_l0 a0 a1 _ 0 _ ho2)] rfl fd_45 (by kernel_rfl)
   · try dsimp only at h
     obtain rfl := Option.some.inj h
     exact call_wQ [.le (e_sl e_u8) a0, .le (e_sl e_u8) a1, .eT c1, .nt true, .lp (gl_laws_eqByteSS_l0 a0 a1 _ 0 _ ho2)] rfl fd_45 (by kernel_rfl)
  ·obtain rfl := Option.some.inj h
   exact call_wQ [.le (e_sl e_u8) a0, .le (e_sl e_u8) a1, .eF c1, .nt false] rfl fd_45 (by kernel_rfl)

theorem eqByteSS_loop {a : List (List UInt8)} (ha : bsz a ≤ 2 ^ 40) : ∀ (d i m : Nat), i + d = a.length → d < m → ∃ z, L_laws_eqByteSS_l0 a a m (i : Int) = some (.inr z) := by
  have hl := bsz_len a
  intro d
  induction d with
  | zero =>
    intro i m hi hm
    obtain ⟨m, rfl, _⟩ := fuel hm
    exact ⟨_, by rw [L_laws_eqByteSS_l0, if_neg (by omega)]⟩
  | succ d ih =>
    intro i m hi hm
    obtain ⟨m, rfl, hm'⟩ := fuel hm
    have hil : i < a.length := by omega
    have hx := bsz_mem (List.getElem_mem hil)
    rw [L_laws_eqByteSS_l0, if_pos (by omega), natO_nat, Option.bind_some, get_some hil, Option.bind_some, Option.bind_some]
    unfold S_laws_eqByteS
    rw [if_pos ⟨rfl, by omega⟩, Option.bind_some, w64_succ (by omega)]
    exact ih (i + 1) m (by omega) (by omega)
def S_laws_eqByteSS (a0 : (List (List UInt8))) (a1 : (List (List UInt8))) : Option Bool := if a0 = a1 ∧ bsz a0 ≤ 2 ^ 40 then some true else none
theorem spec_laws_eqByteSS (a0 : (List (List UInt8))) (a1 : (List (List UInt8))) (r : Bool) (h : S_laws_eqByteSS a0 a1 = some r) : ∃ n, T_laws_eqByteSS n a0 a1 = some r := by
  unfold S_laws_eqByteSS at h
  obtain ⟨⟨he, ha⟩, h2⟩ := need_c h
  clear h
  subst he
  have hl := bsz_len a0
  refine ⟨a0.length + 1, ?_⟩
  obtain ⟨z, hz⟩ := eqByteSS_loop ha a0.length 0 (a0.length + 1) (by omega) (by omega)
  rw [show ((0 : Nat) : Int) = 0 from rfl] at hz
  unfold T_laws_eqByteSS
  rw [if_pos rfl, hz]; exact h2
theorem ok_laws_eqByteSS (a0 : (List (List UInt8))) (a1 : (List (List UInt8))) (r : Bool) (h : S_laws_eqByteSS a0 a1 = some r) : (mach cfg).call 45 [] [.val false [.seq (eL (e_sl e_u8) a0)], .val false [.seq (eL (e_sl e_u8) a1)]] = some (.val false [.bool r], []) := by
  obtain ⟨n, hn⟩ := spec_laws_eqByteSS a0 a1 r h
  exact g_laws_eqByteSS n a0 a1 r hn
def L_laws_eqValueS_l0 (G_laws_eqValue : GValue → GValue → Option Bool) (a0 : (List GValue)) (a1 : (List GValue)) : Nat → Int → Option (Bool ⊕ Int)
  | 0, _ => none
  | m + 1, v2 =>
    if v2 < ((a0.length : Nat) : Int) then
      (natO v2).bind fun i2 =>
      (a0[i2]?).bind fun x3 =>
      (a1[i2]?).bind fun x4 =>
      (G_laws_eqValue x3 x4).bind fun r5 =>
      match r5 with
      | true =>
        L_laws_eqValueS_l0 G_laws_eqValue a0 a1 m (w64 (v2 + 1))
      | false =>
        some (.inl false)
    else
      some (.inr v2)

theorem gl_laws_eqValueS_l0 (G_laws_eqValue : GValue → GValue → Option Bool) (H_laws_eqValue : ∀ (a0 : GValue) (a1 : GValue) (r : Bool), G_laws_eqValue a0 a1 = some r → (mach cfg).call 12 [] [.val true [.int .i64 a0.Kind, .int .i64 a0.N, .seq (eL e_u8 a0.S), .seq (eL (e_sl e_u8) a0.K), .seq (eL e_GValue a0.L)], .val true [.int .i64 a1.Kind, .int .i64 a1.N, .seq (eL e_u8 a1.S), .seq (eL (e_sl e_u8) a1.K), .seq (eL e_GValue a1.L)]] = some (.val false [.bool r], [])) (a0 : (List GValue)) (a1 : (List GValue)) (m : Nat) : ∀ (v2 : Int) (o : (Bool ⊕ Int)), L_laws_eqValueS_l0 G_laws_eqValue a0 a1 m v2 = some o → (mach cfg).loop 27 (loopB Try.f27 0) ⟨[(0, .val false [.seq (eL e_GValue a0)]), (1, .val false [.seq (eL e_GValue a1)]), (5, .val false [.int .i64 v2])], [], 0⟩ = some (match o with | .inl o_0 => (.ret, (⟨[(4, .val false [.bool o_0])], [], 0⟩ : S)) | .inr (o_1) => (.exit 0, (⟨[(0, .val false [.seq (eL e_GValue a0)]), (1, .val false [.seq (eL e_GValue a1)]), (5, .val false [.int .i64 o_1]), (14, .val false [.bool false])], [], 0⟩ : S))) := by
  induction m with
  | zero => intro v2 o h; cases h
  | succ m ih =>
    intro v2 o h
    rw [L_laws_eqValueS_l0] at h
    rcases ite_some h with ⟨c1, h⟩ | ⟨c1, h⟩
    ·obtain ⟨i2, hi2, h⟩ := bs h
     obtain ⟨x3, hx3, h⟩ := bs h
     obtain ⟨x4, hx4, h⟩ := bs h
     obtain ⟨r5, hr5, h⟩ := bs h
     cases r5 with
     | true =>
      try dsimp only at h
      exact loop_nQ [.le e_GValue a0, .lT c1, .na hi2, .ix hx3 (eq_GValue x3), .na hi2, .ix hx4 (eq_GValue x4), .cl (H_laws_eqValue x3 x4 _ hr5), .nt true, .ad v2 1] (by kernel_rfl) (ih (w64 (v2 + 1)) o h)
     | false =>
      try dsimp only at h
      obtain rfl := Option.some.inj h
      exact loop_eQ [.le e_GValue a0, .lT c1, .na hi2, .ix hx3 (eq_GValue x3), .na hi2, .ix hx4 (eq_GValue x4), .cl (H_laws_eqValue x3 x4 _ hr5), .nt false] (by kernel_rfl) (by intro h; cases h)
    ·obtain rfl := Option.some.inj h
     exact loop_eQ [.le e_GValue a0, .lF c1] (by kernel_rfl) (by intro h; cases h)

def T_laws_eqValueS (G_laws_eqValue : GValue → GValue → Option Bool) (n : Nat) (a0 : (List GValue)) (a1 : (List GValue)) : Option Bool :=
  if ((a0.length : Nat) : Int) = ((a1.length : Nat) : Int) then
    (L_laws_eqValueS_l0 G_laws_eqValue a0 a1 n 0).bind fun o2 =>
    match o2 with
    | .inl o2_0 =>
      some o2_0
    | .inr (o2_1) =>
      some true
  else
    some false

set_option maxRecDepth 100000 in
theorem fd_27 : cfg.funcs 27 = some (bodyOf Try.f27, Try.f27.ntmps, Try.f27.results.toList) := fn_of Try.func27 (by kernel_rfl) (by kernel_rfl)
theorem g_laws_eqValueS (G_laws_eqValue : GValue → GValue → Option Bool) (H_laws_eqValue : ∀ (a0 : GValue) (a1 : GValue) (r : Bool), G_laws_eqValue a0 a1 = some r → (mach cfg).call 12 [] [.val true [.int .i64 a0.Kind, .int .i64 a0.N, .seq (eL e_u8 a0.S), .seq (eL (e_sl e_u8) a0.K), .seq (eL e_GValue a0.L)], .val true [.int .i64 a1.Kind, .int .i64 a1.N, .seq (eL e_u8 a1.S), .seq (eL (e_sl e_u8) a1.K), .seq (eL e_GValue a1.L)]] = some (.val false [.bool r], [])) (n : Nat) (a0 : (List GValue)) (a1 : (List GValue)) (r : Bool) (h : T_laws_eqValueS G_laws_eqValue n a0 a1 = some r) : (mach cfg).call 27 [] [.val false [.seq (eL e_GValue a0)], .val false [.seq (eL e_GValue a1)]] = some (.val false [.bool r], []) := by
  unfold T_laws_eqValueS at h
  rcases ite_some h with ⟨c1, h⟩ | ⟨c1, h⟩
  ·obtain ⟨o2, ho2, h⟩ := bs h
   rcases o2 with o2_0 | o2_1
   · try dsimp only at h
     obtain rfl := Option.some.inj h
     exact call_wQ [.le e_GValue a0, .le e_GValue a1, .eT c1, .nt true, .lp (gl_laws_eqValueS_l0 G_laws_eqValue H_laws_eqValue a0 a1 _ 0 _ ho2)] rfl fd_27 (by kernel_rfl)
   · try dsimp only at h
     obtain rfl := Option.some.inj h
     exact call_wQ [.le e_GValue a0, .le e_GValue a1, .eT c1, .nt true, .lp (gl_laws_eqValueS_l0 G_laws_eqValue H_laws_eqValue a0 a1 _ 0 _ ho2)] rfl fd_27 (by kernel_rfl)
  ·obtain rfl := Option.some.inj h
   exact call_wQ [.le e_GValue a0, .le e_GValue a1, .eF c1, .nt false] rfl fd_27 (by kernel_rfl)

def T_laws_eqValue (G_laws_eqValueS : (List GValue) → (List GValue) → Option Bool) (a0 : GValue) (a1 : GValue) : Option Bool :=
  if a0.Kind = a1.Kind then
    if a0.N = a1.N then
      (S_laws_eqByteS a0.S a1.S).bind fun r3 =>
      match r3 with
      | true =>
        (S_laws_eqByteSS a0.K a1.K).bind fun r5 =>
        match r5 with
        | true =>
          (G_laws_eqValueS a0.L a1.L).bind fun r7 =>
          match r7 with
          | true =>
            some true
          | false =>
            some false
        | false =>
          some false
      | false =>
        some false
    else
      some false
  else
    some false

set_option maxRecDepth 100000 in
theorem fd_12 : cfg.funcs 12 = some (bodyOf Try.f12, Try.f12.ntmps, Try.f12.results.toList) := fn_of Try.func12 (by kernel_rfl) (by kernel_rfl)
theorem g_laws_eqValue (G_laws_eqValueS : (List GValue) → (List GValue) → Option Bool) (H_laws_eqValueS : ∀ (a0 : (List GValue)) (a1 : (List GValue)) (r : Bool), G_laws_eqValueS a0 a1 = some r → (mach cfg).call 27 [] [.val false [.seq (eL e_GValue a0)], .val false [.seq (eL e_GValue a1)]] = some (.val false [.bool r], [])) (a0 : GValue) (a1 : GValue) (r : Bool) (h : T_laws_eqValue G_laws_eqValueS a0 a1 = some r) : (mach cfg).call 12 [] [.val true [.int .i64 a0.Kind, .int .i64 a0.N, .seq (eL e_u8 a0.S), .seq (eL (e_sl e_u8) a0.K), .seq (eL e_GValue a0.L)], .val true [.int .i64 a1.Kind, .int .i64 a1.N, .seq (eL e_u8 a1.S), .seq (eL (e_sl e_u8) a1.K), .seq (eL e_GValue a1.L)]] = some (.val false [.bool r], []) := by
  unfold T_laws_eqValue at h
  rcases ite_some h with ⟨c1, h⟩ | ⟨c1, h⟩
  ·rcases ite_some h with ⟨c2, h⟩ | ⟨c2, h⟩
   ·obtain ⟨r3, hr3, h⟩ := bs h
    cases r3 with
    | true =>
     try dsimp only at h
     obtain ⟨r5, hr5, h⟩ := bs h
     cases r5 with
     | true =>
      try dsimp only at h
      obtain ⟨r7, hr7, h⟩ := bs h
      cases r7 with
      | true =>
       try dsimp only at h
       obtain rfl := Option.some.inj h
       exact call_wQ [.eT c1, .nt true, .eT c2, .nt true, .cl (ok_laws_eqByteS a0.S a1.S _ hr3), .nt true, .cl (ok_laws_eqByteSS a0.K a1.K _ hr5), .nt true, .cl (H_laws_eqValueS a0.L a1.L _ hr7), .nt true] rfl fd_12 (by kernel_rfl)
      | false =>
       try dsimp only at h
       obtain rfl := Option.some.inj h
       exact call_wQ [.eT c1, .nt true, .eT c2, .nt true, .cl (ok_laws_eqByteS a0.S a1.S _ hr3), .nt true, .cl (ok_laws_eqByteSS a0.K a1.K _ hr5), .nt true, .cl (H_laws_eqValueS a0.L a1.L _ hr7), .nt false] rfl fd_12 (by kernel_rfl)
     | false =>
      try dsimp only at h
      obtain rfl := Option.some.inj h
      exact call_wQ [.eT c1, .nt true, .eT c2, .nt true, .cl (ok_laws_eqByteS a0.S a1.S _ hr3), .nt true, .cl (ok_laws_eqByteSS a0.K a1.K _ hr5), .nt false] rfl fd_12 (by kernel_rfl)
    | false =>
     try dsimp only at h
     obtain rfl := Option.some.inj h
     exact call_wQ [.eT c1, .nt true, .eT c2, .nt true, .cl (ok_laws_eqByteS a0.S a1.S _ hr3), .nt false] rfl fd_12 (by kernel_rfl)
   ·obtain rfl := Option.some.inj h
    exact call_wQ [.eT c1, .nt true, .eF c2, .nt false] rfl fd_12 (by kernel_rfl)
  ·obtain rfl := Option.some.inj h
   exact call_wQ [.eF c1, .nt false] rfl fd_12 (by kernel_rfl)

mutual
def U_laws_eqValueS : Nat → (List GValue) → (List GValue) → Option Bool
  | 0, _, _ => none
  | n + 1, a0, a1 => T_laws_eqValueS (U_laws_eqValue n) n a0 a1
def U_laws_eqValue : Nat → GValue → GValue → Option Bool
  | 0, _, _ => none
  | n + 1, a0, a1 => T_laws_eqValue (U_laws_eqValueS n) a0 a1
end
theorem rec_laws_eqValueS (n : Nat) : (∀ (a0 : (List GValue)) (a1 : (List GValue)) (r : Bool), U_laws_eqValueS n a0 a1 = some r → (mach cfg).call 27 [] [.val false [.seq (eL e_GValue a0)], .val false [.seq (eL e_GValue a1)]] = some (.val false [.bool r], [])) ∧ (∀ (a0 : GValue) (a1 : GValue) (r : Bool), U_laws_eqValue n a0 a1 = some r → (mach cfg).call 12 [] [.val true [.int .i64 a0.Kind, .int .i64 a0.N, .seq (eL e_u8 a0.S), .seq (eL (e_sl e_u8) a0.K), .seq (eL e_GValue a0.L)], .val true [.int .i64 a1.Kind, .int .i64 a1.N, .seq (eL e_u8 a1.S), .seq (eL (e_sl e_u8) a1.K), .seq (eL e_GValue a1.L)]] = some (.val false [.bool r], [])) := by
  induction n with
  | zero => exact ⟨fun _ _ _ h => (by rw [U_laws_eqValueS] at h; cases h), fun _ _ _ h => (by rw [U_laws_eqValue] at h; cases h)⟩
  | succ n ih =>
    obtain ⟨ih_laws_eqValueS, ih_laws_eqValue⟩ := ih
    exact ⟨fun a0 a1 r h => g_laws_eqValueS (U_laws_eqValue n) ih_laws_eqValue n a0 a1 r (by rw [U_laws_eqValueS] at h; exact h),
      fun a0 a1 r h => g_laws_eqValue (U_laws_eqValueS n) ih_laws_eqValueS a0 a1 r (by rw [U_laws_eqValue] at h; exact h)⟩
theorem eqValueS_T {G : GValue → GValue → Option Bool} {a : List GValue} {f : Nat} (ha : a.length ≤ 2 ^ 40) (hf : a.length < f) (hG : ∀ v ∈ a, G v v = some true) : T_laws_eqValueS G f a a = some true := by
  have loop : ∀ (d i m : Nat), i + d = a.length → d < m → ∃ z, L_laws_eqValueS_l0 G a a m (i : Int) = some (.inr z) := by
    intro d
    induction d with
    | zero =>
      intro i m hi hm
      obtain ⟨m, rfl, _⟩ := fuel hm
      exact ⟨_, by rw [L_laws_eqValueS_l0, if_neg (by omega)]⟩
    | succ d ih =>
      intro i m hi hm
      obtain ⟨m, rfl, hm'⟩ := fuel hm
      have hil : i < a.length := by omega
      rw [L_laws_eqValueS_l0, if_pos (by omega), natO_nat, Option.bind_some, get_some hil, Option.bind_some, Option.bind_some, hG _ (List.getElem_mem hil), Option.bind_some, w64_succ (by omega)]
      exact ih (i + 1) m (by omega) (by omega)
  obtain ⟨z, hz⟩ := loop a.length 0 f (by omega) (by omega)
  rw [show ((0 : Nat) : Int) = 0 from rfl] at hz
  unfold T_laws_eqValueS
  rw [if_pos rfl, hz]; rfl
theorem eqValue_U : ∀ (N : Nat) (v : GValue), vsz v < N → vsz v ≤ 2 ^ 40 → ∀ f : Nat, 2 * vsz v + 3 ≤ f → U_laws_eqValue f v v = some true := by
  intro N
  induction N with
  | zero => intro v hv; omega
  | succ N ih =>
    intro v hv hs f hf
    obtain ⟨f, rfl, _⟩ := fuel (show 0 < f by omega)
    obtain ⟨f, rfl, _⟩ := fuel (show 0 < f by omega)
    have he := vsz_eq v
    have hl := vszs_len v.L
    rw [U_laws_eqValue]
    unfold T_laws_eqValue S_laws_eqByteS S_laws_eqByteSS
    rw [if_pos rfl, if_pos rfl, if_pos (show v.S = v.S ∧ v.S.length ≤ 2 ^ 40 from ⟨rfl, by omega⟩), Option.bind_some]
    dsimp only
    rw [if_pos (show v.K = v.K ∧ bsz v.K ≤ 2 ^ 40 from ⟨rfl, by omega⟩), Option.bind_some]
    dsimp only
    rw [U_laws_eqValueS, eqValueS_T (by omega) (by omega) fun x hx => ?_]
    · rfl
    · have := vszs_mem hx
      exact ih x (by omega) (by omega) f (by omega)
open Classical in
noncomputable def S_laws_eqValueS (a0 : (List GValue)) (a1 : (List GValue)) : Option Bool := if a0 = a1 ∧ vszs a0 ≤ 2 ^ 40 then some true else none
theorem spec_laws_eqValueS (a0 : (List GValue)) (a1 : (List GValue)) (r : Bool) (h : S_laws_eqValueS a0 a1 = some r) : ∃ n, U_laws_eqValueS n a0 a1 = some r := by
  unfold S_laws_eqValueS at h
  obtain ⟨⟨he, ha⟩, h2⟩ := need_c h
  clear h
  subst he
  have hl := vszs_len a0
  refine ⟨2 * vszs a0 + 5, ?_⟩
  rw [U_laws_eqValueS, eqValueS_T (by omega) (by omega) fun x hx => ?_, h2]
  have := vszs_mem hx
  exact eqValue_U _ x (Nat.lt_succ_self _) (by omega) _ (by omega)
open Classical in
noncomputable def S_laws_eqValue (a0 : GValue) (a1 : GValue) : Option Bool := if a0 = a1 ∧ vsz a0 ≤ 2 ^ 40 then some true else none
theorem spec_laws_eqValue (a0 : GValue) (a1 : GValue) (r : Bool) (h : S_laws_eqValue a0 a1 = some r) : ∃ n, U_laws_eqValue n a0 a1 = some r := by
  unfold S_laws_eqValue at h
  obtain ⟨⟨he, ha⟩, h2⟩ := need_c h
  clear h
  subst he
  exact ⟨2 * vsz a0 + 3, by rw [← h2]; exact eqValue_U _ a0 (Nat.lt_succ_self _) ha _ (Nat.le_refl _)⟩
theorem ok_laws_eqValueS (a0 : (List GValue)) (a1 : (List GValue)) (r : Bool) (h : S_laws_eqValueS a0 a1 = some r) : (mach cfg).call 27 [] [.val false [.seq (eL e_GValue a0)], .val false [.seq (eL e_GValue a1)]] = some (.val false [.bool r], []) := by
  obtain ⟨n, hn⟩ := spec_laws_eqValueS a0 a1 r h
  exact (rec_laws_eqValueS n).1 a0 a1 r hn
theorem ok_laws_eqValue (a0 : GValue) (a1 : GValue) (r : Bool) (h : S_laws_eqValue a0 a1 = some r) : (mach cfg).call 12 [] [.val true [.int .i64 a0.Kind, .int .i64 a0.N, .seq (eL e_u8 a0.S), .seq (eL (e_sl e_u8) a0.K), .seq (eL e_GValue a0.L)], .val true [.int .i64 a1.Kind, .int .i64 a1.N, .seq (eL e_u8 a1.S), .seq (eL (e_sl e_u8) a1.K), .seq (eL e_GValue a1.L)]] = some (.val false [.bool r], []) := by
  obtain ⟨n, hn⟩ := spec_laws_eqValue a0 a1 r h
  exact (rec_laws_eqValueS n).2 a0 a1 r hn
def L_laws_markByteS_l0 : Nat → Int → Int → (List UInt8) → Option (Int × Int × (List UInt8))
  | 0, _, _, _ => none
  | m + 1, a0, v1, e0 =>
    if v1 < ((e0.length : Nat) : Int) then
      (natO v1).bind fun i2 =>
      (e0[i2]?).bind fun x3 =>
      L_laws_markByteS_l0 m (w64 (a0 + 1)) (w64 (v1 + 1)) (e0.set i2 (b8 a0))
    else
      some (a0, v1, e0)

theorem gl_laws_markByteS_l0 (m : Nat) : ∀ (a0 : Int) (v1 : Int) (e0 : (List UInt8)) (o : (Int × Int × (List UInt8))), L_laws_markByteS_l0 m a0 v1 e0 = some o → (mach cfg).loop 22 (loopB Try.f22 0) ⟨[(0, .val false [.ref 0]), (1, .val false [.int .i64 a0]), (5, .val false [.int .i64 v1])], [.obj 1 (eL e_u8 e0)], 1⟩ = some (match o with | ⟨o_0, o_1, o_2⟩ => (.exit 0, (⟨[(0, .val false [.ref 0]), (1, .val false [.int .i64 o_0]), (5, .val false [.int .i64 o_1]), (9, .val false [.bool false])], [.obj 1 (eL e_u8 o_2)], 1⟩ : S))) := by
  induction m with
  | zero => intro a0 v1 e0 o h; cases h
  | succ m ih =>
    intro a0 v1 e0 o h
    rw [L_laws_markByteS_l0] at h
    rcases ite_some h with ⟨c1, h⟩ | ⟨c1, h⟩
    ·obtain ⟨i2, hi2, h⟩ := bs h
     obtain ⟨x3, hx3, h⟩ := bs h
     exact loop_nQ [.le e_u8 e0, .lT c1, ⟨.conv .u8 a0, .i (((b8 a0).toNat : Nat) : Int), A.conv8⟩, .na hi2, .ix0 e_u8 hx3, .ix0 e_u8 hx3, ⟨.setL (eL e_u8 e0) i2 [.int .u8 (((b8 a0).toNat : Nat) : Int)], .l (eL e_u8 (e0.set i2 (b8 a0))), (A.setL rfl)⟩, .ad a0 1, .ad v1 1] (by kernel_rfl) (ih (w64 (a0 + 1)) (w64 (v1 + 1)) (e0.set i2 (b8 a0)) o h)
    ·obtain rfl := Option.some.inj h
     exact loop_eQ [.le e_u8 e0, .lF c1] (by kernel_rfl) (by intro h; cases h)

def T_laws_markByteS (n : Nat) (a0 : Int) (e0 : (List UInt8)) : Option (Int × (List UInt8)) :=
  (L_laws_markByteS_l0 n a0 0 e0).bind fun ⟨o1_0, o1_1, o1_2⟩ =>
  some (o1_0, o1_2)

set_option maxRecDepth 100000 in
theorem fd_22 : cfg.funcs 22 = some (bodyOf Try.f22, Try.f22.ntmps, Try.f22.results.toList) := fn_of Try.func22 (by kernel_rfl) (by kernel_rfl)
theorem g_laws_markByteS (n : Nat) (a0 : Int) (e0 : (List UInt8)) (r : (Int × (List UInt8))) (h : T_laws_markByteS n a0 e0 = some r) : (mach cfg).call 22 [.obj 1 (eL e_u8 e0)] [.val false [.ref 0], .val false [.int .i64 a0]] = some (.val false [.int .i64 r.1], [.obj 1 (eL e_u8 r.2)]) := by
  unfold T_laws_markByteS at h
  obtain ⟨⟨o1_0, o1_1, o1_2⟩, ho1, h⟩ := bs h
  try dsimp only at h
  obtain rfl := Option.some.inj h
  exact call_wQ [.lp (gl_laws_markByteS_l0 _ a0 0 e0 _ ho1)] rfl fd_22 (by kernel_rfl)

theorem markByteS_loop : ∀ (l p : List UInt8) (k : Int) (m : Nat), 0 ≤ k → k + 2 * l.length ≤ 2 ^ 41 → p.length + l.length ≤ 2 ^ 41 → l.length < m → ∃ z, L_laws_markByteS_l0 m k ((p.length : Nat) : Int) (p ++ l) = some (k + l.length, z, p ++ mB k l) := by
  intro l
  induction l with
  | nil =>
    intro p k m _ _ _ hm
    obtain ⟨m, rfl, _⟩ := fuel hm
    exact ⟨_, by rw [L_laws_markByteS_l0, if_neg (nlt_end p)]; simp [mB]; rfl⟩
  | cons x l ih =>
    intro p k m h0 h1 h2 hm
    obtain ⟨m, rfl, hm'⟩ := fuel hm
    simp only [List.length_cons] at h1 h2 hm'
    obtain ⟨z, hz⟩ := ih (p ++ [b8 k]) (k + 1) m (by omega) (by omega) (by simp; omega) (by omega)
    rw [L_laws_markByteS_l0, if_pos (lt_mid p x l), natO_nat, Option.bind_some, get_mid, Option.bind_some, set_mid, w64_len p (b8 k) (by omega), w64_id (x := k + 1) (by omega) (by omega), snoc_app p (b8 k) l, hz]
    refine ⟨z, ?_⟩
    rw [mB, snoc_app p (b8 k) (mB (k + 1) l)]
    simp only [List.length_cons]
    rw [show k + 1 + (l.length : Int) = k + ((l.length + 1 : Nat) : Int) by omega]
def S_laws_markByteS (a0 : Int) (e0 : (List UInt8)) : Option (Int × (List UInt8)) := if 0 ≤ a0 ∧ a0 + 2 * e0.length ≤ 2 ^ 41 then some (a0 + e0.length, mB a0 e0) else none
theorem markByteS_eq {a : Int} {s : List UInt8} (h0 : 0 ≤ a) (h1 : a + 2 * s.length ≤ 2 ^ 41) : S_laws_markByteS a s = some (a + s.length, mB a s) := if_pos ⟨h0, h1⟩
theorem spec_laws_markByteS (a0 : Int) (e0 : (List UInt8)) (r : (Int × (List UInt8))) (h : S_laws_markByteS a0 e0 = some r) : ∃ n, T_laws_markByteS n a0 e0 = some r := by
  unfold S_laws_markByteS at h
  obtain ⟨⟨h0, h1⟩, h⟩ := need_c h
  obtain ⟨z, hz⟩ := markByteS_loop e0 [] a0 (e0.length + 1) h0 h1 (by simp; omega) (by omega)
  refine ⟨e0.length + 1, ?_⟩
  unfold T_laws_markByteS
  simp only [List.nil_append, List.length_nil, Int.natCast_zero] at hz
  rw [hz]
  exact h
theorem ok_laws_markByteS (a0 : Int) (e0 : (List UInt8)) (r : (Int × (List UInt8))) (h : S_laws_markByteS a0 e0 = some r) : (mach cfg).call 22 [.obj 1 (eL e_u8 e0)] [.val false [.ref 0], .val false [.int .i64 a0]] = some (.val false [.int .i64 r.1], [.obj 1 (eL e_u8 r.2)]) := by
  obtain ⟨n, hn⟩ := spec_laws_markByteS a0 e0 r h
  exact g_laws_markByteS n a0 e0 r hn
def L_laws_markByteSS_l0 : Nat → Int → Int → (List (List UInt8)) → Option (Int × Int × (List (List UInt8)))
  | 0, _, _, _ => none
  | m + 1, a0, v1, e0 =>
    if v1 < ((e0.length : Nat) : Int) then
      (natO v1).bind fun i2 =>
      (e0[i2]?).bind fun x3 =>
      (S_laws_markByteS a0 x3).bind fun ⟨r4_0, r4_1⟩ =>
      L_laws_markByteSS_l0 m r4_0 (w64 (v1 + 1)) (e0.set i2 r4_1)
    else
      some (a0, v1, e0)

theorem gl_laws_markByteSS_l0 (m : Nat) : ∀ (a0 : Int) (v1 : Int) (e0 : (List (List UInt8))) (o : (Int × Int × (List (List UInt8)))), L_laws_markByteSS_l0 m a0 v1 e0 = some o → (mach cfg).loop 47 (loopB Try.f47 0) ⟨[(0, .val false [.ref 0]), (1, .val false [.int .i64 a0]), (5, .val false [.int .i64 v1])], [.obj 1 (eL (o_sl 1 e_u8) e0)], 1⟩ = some (match o with | ⟨o_0, o_1, o_2⟩ => (.exit 0, (⟨[(0, .val false [.ref 0]), (1, .val false [.int .i64 o_0]), (5, .val false [.int .i64 o_1]), (9, .val false [.bool false])], [.obj 1 (eL (o_sl 1 e_u8) o_2)], 1⟩ : S))) := by
  induction m with
  | zero => intro a0 v1 e0 o h; cases h
  | succ m ih =>
    intro a0 v1 e0 o h
    rw [L_laws_markByteSS_l0] at h
    rcases ite_some h with ⟨c1, h⟩ | ⟨c1, h⟩
    ·obtain ⟨i2, hi2, h⟩ := bs h
     obtain ⟨x3, hx3, h⟩ := bs h
     obtain ⟨⟨r4_0, r4_1⟩, hr4, h⟩ := bs h
     try dsimp only at h
     exact loop_nQ [.le (o_sl 1 e_u8) e0, .lT c1, .na hi2, .ix0 (o_sl 1 e_u8) hx3, .ix0 (o_sl 1 e_u8) hx3, .cl (ok_laws_markByteS a0 x3 _ hr4), .ix0 (o_sl 1 e_u8) hx3, ⟨.setL (eL (o_sl 1 e_u8) e0) i2 [.own 1 (eL e_u8 r4_1)], .l (eL (o_sl 1 e_u8) (e0.set i2 r4_1)), (A.setL rfl)⟩, .ad v1 1] (by kernel_rfl) (ih r4_0 (w64 (v1 + 1)) (e0.set i2 r4_1) o h)
    ·obtain rfl := Option.some.inj h
     exact loop_eQ [.le (o_sl 1 e_u8) e0, .lF c1] (by kernel_rfl) (by intro h; cases h)

def T_laws_markByteSS (n : Nat) (a0 : Int) (e0 : (List (List UInt8))) : Option (Int × (List (List UInt8))) :=
  (L_laws_markByteSS_l0 n a0 0 e0).bind fun ⟨o1_0, o1_1, o1_2⟩ =>
  some (o1_0, o1_2)

set_option maxRecDepth 100000 in
theorem fd_47 : cfg.funcs 47 = some (bodyOf Try.f47, Try.f47.ntmps, Try.f47.results.toList) := fn_of Try.func47 (by kernel_rfl) (by kernel_rfl)
theorem g_laws_markByteSS (n : Nat) (a0 : Int) (e0 : (List (List UInt8))) (r : (Int × (List (List UInt8)))) (h : T_laws_markByteSS n a0 e0 = some r) : (mach cfg).call 47 [.obj 1 (eL (o_sl 1 e_u8) e0)] [.val false [.ref 0], .val false [.int .i64 a0]] = some (.val false [.int .i64 r.1], [.obj 1 (eL (o_sl 1 e_u8) r.2)]) := by
  unfold T_laws_markByteSS at h
  obtain ⟨⟨o1_0, o1_1, o1_2⟩, ho1, h⟩ := bs h
  try dsimp only at h
  obtain rfl := Option.some.inj h
  exact call_wQ [.lp (gl_laws_markByteSS_l0 _ a0 0 e0 _ ho1)] rfl fd_47 (by kernel_rfl)

theorem markByteSS_loop : ∀ (l p : List (List UInt8)) (k : Int) (m : Nat), 0 ≤ k → k + 2 * bsz l ≤ 2 ^ 41 → p.length + l.length ≤ 2 ^ 41 → l.length < m → ∃ z, L_laws_markByteSS_l0 m k ((p.length : Nat) : Int) (p ++ l) = some (k + cB l, z, p ++ mBB k l) := by
  intro l
  induction l with
  | nil =>
    intro p k m _ _ _ hm
    obtain ⟨m, rfl, _⟩ := fuel hm
    exact ⟨_, by rw [L_laws_markByteSS_l0, if_neg (nlt_end p)]; simp [mBB, cB]; rfl⟩
  | cons x l ih =>
    intro p k m h0 h1 h2 hm
    obtain ⟨m, rfl, hm'⟩ := fuel hm
    rw [bsz_cons] at h1
    simp only [List.length_cons] at h2 hm'
    obtain ⟨z, hz⟩ := ih (p ++ [mB k x]) (k + x.length) m (by omega) (by omega) (by simp; omega) (by omega)
    rw [L_laws_markByteSS_l0, if_pos (lt_mid p x l), natO_nat, Option.bind_some, get_mid, Option.bind_some, markByteS_eq (by omega) (by omega), Option.bind_some]
    dsimp only
    rw [set_mid, w64_len p (mB k x) (by omega), snoc_app p (mB k x) l, hz]
    refine ⟨z, ?_⟩
    rw [mBB, snoc_app p (mB k x) (mBB (k + x.length) l), cB_cons]
    rw [show k + (x.length : Int) + (cB l : Int) = k + ((x.length + cB l : Nat) : Int) by omega]
def S_laws_markByteSS (a0 : Int) (e0 : (List (List UInt8))) : Option (Int × (List (List UInt8))) := if 0 ≤ a0 ∧ a0 + 2 * bsz e0 ≤ 2 ^ 41 then some (a0 + cB e0, mBB a0 e0) else none
theorem markByteSS_eq {a : Int} {s : List (List UInt8)} (h0 : 0 ≤ a) (h1 : a + 2 * bsz s ≤ 2 ^ 41) : S_laws_markByteSS a s = some (a + cB s, mBB a s) := if_pos ⟨h0, h1⟩
theorem spec_laws_markByteSS (a0 : Int) (e0 : (List (List UInt8))) (r : (Int × (List (List UInt8)))) (h : S_laws_markByteSS a0 e0 = some r) : ∃ n, T_laws_markByteSS n a0 e0 = some r := by
  unfold S_laws_markByteSS at h
  obtain ⟨⟨h0, h1⟩, h⟩ := need_c h
  have := bsz_len e0
  obtain ⟨z, hz⟩ := markByteSS_loop e0 [] a0 (e0.length + 1) h0 h1 (by simp; omega) (by omega)
  refine ⟨e0.length + 1, ?_⟩
  unfold T_laws_markByteSS
  simp only [List.nil_append, List.length_nil, Int.natCast_zero] at hz
  rw [hz]
  exact h
theorem ok_laws_markByteSS (a0 : Int) (e0 : (List (List UInt8))) (r : (Int × (List (List UInt8)))) (h : S_laws_markByteSS a0 e0 = some r) : (mach cfg).call 47 [.obj 1 (eL (o_sl 1 e_u8) e0)] [.val false [.ref 0], .val false [.int .i64 a0]] = some (.val false [.int .i64 r.1], [.obj 1 (eL (o_sl 1 e_u8) r.2)]) := by
  obtain ⟨n, hn⟩ := spec_laws_markByteSS a0 e0 r h
  exact g_laws_markByteSS n a0 e0 r hn
def L_laws_markValueS_l0 (G_laws_markValueS : Int → (List GValue) → Option (Int × (List GValue))) : Nat → Int → Int → (List GValue) → Option (Int × Int × (List GValue))
  | 0, _, _, _ => none
  | m + 1, a0, v1, e0 =>
    if v1 < ((e0.length : Nat) : Int) then
      (natO v1).bind fun i2 =>
      (e0[i2]?).bind fun x3 =>
      ((e0.set i2 (GValue.mk a0 x3.N x3.S x3.K x3.L))[i2]?).bind fun x4 =>
      (((e0.set i2 (GValue.mk a0 x3.N x3.S x3.K x3.L)).set i2 (GValue.mk x4.Kind (w64 (a0 + 1)) x4.S x4.K x4.L))[i2]?).bind fun x5 =>
      (S_laws_markByteS (w64 ((w64 (a0 + 1)) + 1)) x5.S).bind fun ⟨r6_0, r6_1⟩ =>
      ((((e0.set i2 (GValue.mk a0 x3.N x3.S x3.K x3.L)).set i2 (GValue.mk x4.Kind (w64 (a0 + 1)) x4.S x4.K x4.L)).set i2 (GValue.mk x5.Kind x5.N r6_1 x5.K x5.L))[i2]?).bind fun x7 =>
      (S_laws_markByteSS r6_0 x7.K).bind fun ⟨r8_0, r8_1⟩ =>
      (((((e0.set i2 (GValue.mk a0 x3.N x3.S x3.K x3.L)).set i2 (GValue.mk x4.Kind (w64 (a0 + 1)) x4.S x4.K x4.L)).set i2 (GValue.mk x5.Kind x5.N r6_1 x5.K x5.L)).set i2 (GValue.mk x7.Kind x7.N x7.S r8_1 x7.L))[i2]?).bind fun x9 =>
      (G_laws_markValueS r8_0 x9.L).bind fun ⟨r10_0, r10_1⟩ =>
      L_laws_markValueS_l0 G_laws_markValueS m r10_0 (w64 (v1 + 1)) (((((e0.set i2 (GValue.mk a0 x3.N x3.S x3.K x3.L)).set i2 (GValue.mk x4.Kind (w64 (a0 + 1)) x4.S x4.K x4.L)).set i2 (GValue.mk x5.Kind x5.N r6_1 x5.K x5.L)).set i2 (GValue.mk x7.Kind x7.N x7.S r8_1 x7.L)).set i2 (GValue.mk x9.Kind x9.N x9.S x9.K r10_1))
    else
      some (a0, v1, e0)

theorem gl_laws_markValueS_l0 (G_laws_markValueS : Int → (List GValue) → Option (Int × (List GValue))) (H_laws_markValueS : ∀ (a0 : Int) (e0 : (List GValue)) (r : (Int × (List GValue))), G_laws_markValueS a0 e0 = some r → (mach cfg).call 28 [.obj 5 (eL o_GValue e0)] [.val false [.ref 0], .val false [.int .i64 a0]] = some (.val false [.int .i64 r.1], [.obj 5 (eL o_GValue r.2)])) (m : Nat) : ∀ (a0 : Int) (v1 : Int) (e0 : (List GValue)) (o : (Int × Int × (List GValue))), L_laws_markValueS_l0 G_laws_markValueS m a0 v1 e0 = some o → (mach cfg).loop 28 (loopB Try.f28 0) ⟨[(0, .val false [.ref 0]), (1, .val false [.int .i64 a0]), (5, .val false [.int .i64 v1])], [.obj 5 (eL o_GValue e0)], 1⟩ = some (match o with | ⟨o_0, o_1, o_2⟩ => (.exit 0, (⟨[(0, .val false [.ref 0]), (1, .val false [.int .i64 o_0]), (5, .val false [.int .i64 o_1]), (9, .val false [.bool false])], [.obj 5 (eL o_GValue o_2)], 1⟩ : S))) := by
  induction m with
  | zero => intro a0 v1 e0 o h; cases h
  | succ m ih =>
    intro a0 v1 e0 o h
    rw [L_laws_markValueS_l0] at h
    rcases ite_some h with ⟨c1, h⟩ | ⟨c1, h⟩
    ·obtain ⟨i2, hi2, h⟩ := bs h
     obtain ⟨x3, hx3, h⟩ := bs h
     obtain ⟨x4, hx4, h⟩ := bs h
     obtain ⟨x5, hx5, h⟩ := bs h
     obtain ⟨⟨r6_0, r6_1⟩, hr6, h⟩ := bs h
     try dsimp only at h
     obtain ⟨x7, hx7, h⟩ := bs h
     obtain ⟨⟨r8_0, r8_1⟩, hr8, h⟩ := bs h
     try dsimp only at h
     obtain ⟨x9, hx9, h⟩ := bs h
     obtain ⟨⟨r10_0, r10_1⟩, hr10, h⟩ := bs h
     try dsimp only at h
     exact loop_nQ [.le o_GValue e0, .lT c1, .na hi2, .ix hx3 (oeq_GValue x3), .ix hx3 (oeq_GValue x3), ⟨.setL (eL o_GValue e0) i2 [.int .i64 a0, .int .i64 x3.N, .own 1 (eL e_u8 x3.S), .own 1 (eL (o_sl 1 e_u8) x3.K), .own 5 (eL o_GValue x3.L)], .l (eL o_GValue (e0.set i2 (GValue.mk a0 x3.N x3.S x3.K x3.L))), (A.setL (oeq_GValue (GValue.mk a0 x3.N x3.S x3.K x3.L)))⟩, .ad a0 1, .na hi2, .ix hx4 (oeq_GValue x4), .ix hx4 (oeq_GValue x4), ⟨.setL (eL o_GValue (e0.set i2 (GValue.mk a0 x3.N x3.S x3.K x3.L))) i2 [.int .i64 x4.Kind, .int .i64 (w64 (a0 + 1)), .own 1 (eL e_u8 x4.S), .own 1 (eL (o_sl 1 e_u8) x4.K), .own 5 (eL o_GValue x4.L)], .l (eL o_GValue ((e0.set i2 (GValue.mk a0 x3.N x3.S x3.K x3.L)).set i2 (GValue.mk x4.Kind (w64 (a0 + 1)) x4.S x4.K x4.L))), (A.setL (oeq_GValue (GValue.mk x4.Kind (w64 (a0 + 1)) x4.S x4.K x4.L)))⟩, .ad (w64 (a0 + 1)) 1, .na hi2, .ix hx5 (oeq_GValue x5), .ix hx5 (oeq_GValue x5), .cl (ok_laws_markByteS (w64 ((w64 (a0 + 1)) + 1)) x5.S _ hr6), .ix hx5 (oeq_GValue x5), ⟨.setL (eL o_GValue ((e0.set i2 (GValue.mk a0 x3.N x3.S x3.K x3.L)).set i2 (GValue.mk x4.Kind (w64 (a0 + 1)) x4.S x4.K x4.L))) i2 [.int .i64 x5.Kind, .int .i64 x5.N, .own 1 (eL e_u8 r6_1), .own 1 (eL (o_sl 1 e_u8) x5.K), .own 5 (eL o_GValue x5.L)], .l (eL o_GValue (((e0.set i2 (GValue.mk a0 x3.N x3.S x3.K x3.L)).set i2 (GValue.mk x4.Kind (w64 (a0 + 1)) x4.S x4.K x4.L)).set i2 (GValue.mk x5.Kind x5.N r6_1 x5.K x5.L))), (A.setL (oeq_GValue (GValue.mk x5.Kind x5.N r6_1 x5.K x5.L)))⟩, .na hi2, .ix hx7 (oeq_GValue x7), .ix hx7 (oeq_GValue x7), .cl (ok_laws_markByteSS r6_0 x7.K _ hr8), .ix hx7 (oeq_GValue x7), ⟨.setL (eL o_GValue (((e0.set i2 (GValue.mk a0 x3.N x3.S x3.K x3.L)).set i2 (GValue.mk x4.Kind (w64 (a0 + 1)) x4.S x4.K x4.L)).set i2 (GValue.mk x5.Kind x5.N r6_1 x5.K x5.L))) i2 [.int .i64 x7.Kind, .int .i64 x7.N, .own 1 (eL e_u8 x7.S), .own 1 (eL (o_sl 1 e_u8) r8_1), .own 5 (eL o_GValue x7.L)], .l (eL o_GValue ((((e0.set i2 (GValue.mk a0 x3.N x3.S x3.K x3.L)).set i2 (GValue.mk x4.Kind (w64 (a0 + 1)) x4.S x4.K x4.L)).set i2 (GValue.mk x5.Kind x5.N r6_1 x5.K x5.L)).set i2 (GValue.mk x7.Kind x7.N x7.S r8_1 x7.L))), (A.setL (oeq_GValue (GValue.mk x7.Kind x7.N x7.S r8_1 x7.L)))⟩, .na hi2, .ix hx9 (oeq_GValue x9), .ix hx9 (oeq_GValue x9), .cl (H_laws_markValueS r8_0 x9.L _ hr10), .ix hx9 (oeq_GValue x9), ⟨.setL (eL o_GValue ((((e0.set i2 (GValue.mk a0 x3.N x3.S x3.K x3.L)).set i2 (GValue.mk x4.Kind (w64 (a0 + 1)) x4.S x4.K x4.L)).set i2 (GValue.mk x5.Kind x5.N r6_1 x5.K x5.L)).set i2 (GValue.mk x7.Kind x7.N x7.S r8_1 x7.L))) i2 [.int .i64 x9.Kind, .int .i64 x9.N, .own 1 (eL e_u8 x9.S), .own 1 (eL (o_sl 1 e_u8) x9.K), .own 5 (eL o_GValue r10_1)], .l (eL o_GValue (((((e0.set i2 (GValue.mk a0 x3.N x3.S x3.K x3.L)).set i2 (GValue.mk x4.Kind (w64 (a0 + 1)) x4.S x4.K x4.L)).set i2 (GValue.mk x5.Kind x5.N r6_1 x5.K x5.L)).set i2 (GValue.mk x7.Kind x7.N x7.S r8_1 x7.L)).set i2 (GValue.mk x9.Kind x9.N x9.S x9.K r10_1))), (A.setL (oeq_GValue (GValue.mk x9.Kind x9.N x9.S x9.K r10_1)))⟩, .ad v1 1] (by kernel_rfl) (ih r10_0 (w64 (v1 + 1)) (((((e0.set i2 (GValue.mk a0 x3.N x3.S x3.K x3.L)).set i2 (GValue.mk x4.Kind (w64 (a0 + 1)) x4.S x4.K x4.L)).set i2 (GValue.mk x5.Kind x5.N r6_1 x5.K x5.L)).set i2 (GValue.mk x7.Kind x7.N x7.S r8_1 x7.L)).set i2 (GValue.mk x9.Kind x9.N x9.S x9.K r10_1)) o h)
    ·obtain rfl := Option.some.inj h
     exact loop_eQ [.le o_GValue e0, .lF c1] (by kernel_rfl) (by intro h; cases h)

def T_laws_markValueS (G_laws_markValueS : Int → (List GValue) → Option (Int × (List GValue))) (n : Nat) (a0 : Int) (e0 : (List GValue)) : Option (Int × (List GValue)) :=
  (L_laws_markValueS_l0 G_laws_markValueS n a0 0 e0).bind fun ⟨o1_0, o1_1, o1_2⟩ =>
  some (o1_0, o1_2)

set_option maxRecDepth 100000 in
theorem fd_28 : cfg.funcs 28 = some (bodyOf Try.f28, Try.f28.ntmps, Try.f28.results.toList) := fn_of Try.func28 (by kernel_rfl) (by kernel_rfl)
theorem g_laws_markValueS (G_laws_markValueS : Int → (List GValue) → Option (Int × (List GValue))) (H_laws_markValueS : ∀ (a0 : Int) (e0 : (List GValue)) (r : (Int × (List GValue))), G_laws_markValueS a0 e0 = some r → (mach cfg).call 28 [.obj 5 (eL o_GValue e0)] [.val false [.ref 0], .val false [.int .i64 a0]] = some (.val false [.int .i64 r.1], [.obj 5 (eL o_GValue r.2)])) (n : Nat) (a0 : Int) (e0 : (List GValue)) (r : (Int × (List GValue))) (h : T_laws_markValueS G_laws_markValueS n a0 e0 = some r) : (mach cfg).call 28 [.obj 5 (eL o_GValue e0)] [.val false [.ref 0], .val false [.int .i64 a0]] = some (.val false [.int .i64 r.1], [.obj 5 (eL o_GValue r.2)]) := by
  unfold T_laws_markValueS at h
  obtain ⟨⟨o1_0, o1_1, o1_2⟩, ho1, h⟩ := bs h
  try dsimp only at h
  obtain rfl := Option.some.inj h
  exact call_wQ [.lp (gl_laws_markValueS_l0 G_laws_markValueS H_laws_markValueS _ a0 0 e0 _ ho1)] rfl fd_28 (by kernel_rfl)

def U_laws_markValueS : Nat → Int → (List GValue) → Option (Int × (List GValue))
  | 0, _, _ => none
  | n + 1, a0, e0 => T_laws_markValueS (U_laws_markValueS n) n a0 e0
theorem rec_laws_markValueS (n : Nat) : (∀ (a0 : Int) (e0 : (List GValue)) (r : (Int × (List GValue))), U_laws_markValueS n a0 e0 = some r → (mach cfg).call 28 [.obj 5 (eL o_GValue e0)] [.val false [.ref 0], .val false [.int .i64 a0]] = some (.val false [.int .i64 r.1], [.obj 5 (eL o_GValue r.2)])) := by
  induction n with
  | zero => exact fun _ _ _ h => (by rw [U_laws_markValueS] at h; cases h)
  | succ n ih =>
    have ih_laws_markValueS := ih
    exact fun a0 e0 r h => g_laws_markValueS (U_laws_markValueS n) ih_laws_markValueS n a0 e0 r (by rw [U_laws_markValueS] at h; exact h)
theorem markValueS_loop {G : Int → List GValue → Option (Int × List GValue)} : ∀ (l p : List GValue) (k : Int) (m : Nat), (∀ v ∈ l, ∀ i : Int, 0 ≤ i → i + 2 * vszs v.L ≤ 2 ^ 41 → G i v.L = some (i + cVs v.L, mVs i v.L)) → 0 ≤ k → k + 2 * vszs l ≤ 2 ^ 41 → p.length + l.length ≤ 2 ^ 41 → l.length < m → ∃ z, L_laws_markValueS_l0 G m k ((p.length : Nat) : Int) (p ++ l) = some (k + cVs l, z, p ++ mVs k l) := by
  intro l
  induction l with
  | nil =>
    intro p k m _ _ _ _ hm
    obtain ⟨m, rfl, _⟩ := fuel hm
    exact ⟨_, by rw [L_laws_markValueS_l0, if_neg (nlt_end p)]; simp [mVs, cVs]; rfl⟩
  | cons x l ih =>
    intro p k m hG h0 h1 h2 hm
    obtain ⟨m, rfl, hm'⟩ := fuel hm
    simp only [List.length_cons] at h2 hm'
    have hx := hG x List.mem_cons_self
    have hc := cV_le x
    obtain ⟨kd, n, s, kk, ks⟩ := x
    have hb := bsz_cB kk
    have hd := cVs_le ks
    simp only [vszs, vsz] at h1
    simp only [cV, vsz] at hc
    simp only [GValue.L] at hx
    obtain ⟨z, hz⟩ := ih (p ++ [mV k (.mk kd n s kk ks)]) (k + cV (.mk kd n s kk ks)) m (fun v hv => hG v (List.mem_cons_of_mem _ hv)) (by omega) (by simp only [cV]; omega) (by simp; omega) (by omega)
    rw [L_laws_markValueS_l0, if_pos (lt_mid p _ l), natO_nat, Option.bind_some, get_mid, Option.bind_some]
    simp only [set_mid, get_mid, Option.bind_some, GValue.Kind, GValue.N, GValue.S, GValue.K, GValue.L]
    rw [w64_id (x := k + 1) (by omega) (by omega), w64_id (x := k + 1 + 1) (by omega) (by omega), markByteS_eq (by omega) (by omega)]
    simp only [Option.bind_some, set_mid, get_mid, GValue.Kind, GValue.N, GValue.S, GValue.K, GValue.L]
    rw [markByteSS_eq (by omega) (by omega)]
    simp only [Option.bind_some, set_mid, get_mid, GValue.Kind, GValue.N, GValue.S, GValue.K, GValue.L]
    rw [hx _ (by omega) (by omega)]
    simp only [Option.bind_some, set_mid, get_mid, GValue.Kind, GValue.N, GValue.S, GValue.K, GValue.L]
    refine ⟨z, ?_⟩
    rw [w64_len p (mV k (.mk kd n s kk ks)) (by omega), show GValue.mk k (k + 1) (mB (k + 1 + 1) s) (mBB (k + 1 + 1 + s.length) kk) (mVs (k + 1 + 1 + s.length + cB kk) ks) = mV k (.mk kd n s kk ks) by simp only [mV], snoc_app p _ l,
      show k + 1 + 1 + (s.length : Int) + (cB kk : Int) + (cVs ks : Int) = k + ((cV (.mk kd n s kk ks) : Nat) : Int) by simp only [cV]; omega, hz]
    simp only [mVs, cVs, List.append_assoc, List.singleton_append]
    rw [show k + ((cV (.mk kd n s kk ks) : Nat) : Int) + (cVs l : Int) = k + ((cV (.mk kd n s kk ks) + cVs l : Nat) : Int) by omega]
theorem markValueS_U : ∀ (N : Nat) (l : List GValue), vszs l < N → ∀ (k : Int) (f : Nat), 0 ≤ k → k + 2 * vszs l ≤ 2 ^ 41 → vszs l + 2 ≤ f → U_laws_markValueS f k l = some (k + cVs l, mVs k l) := by
  intro N
  induction N with
  | zero => intro l hl; omega
  | succ N ih =>
    intro l hl k f h0 h1 hf
    obtain ⟨f, rfl, _⟩ := fuel (show 0 < f by omega)
    have hlen := vszs_len l
    rw [U_laws_markValueS]
    unfold T_laws_markValueS
    obtain ⟨z, hz⟩ := markValueS_loop (G := U_laws_markValueS f) l [] k f (fun v hv i g0 g1 => by
      have := vszs_mem hv
      have := vsz_eq v
      exact ih v.L (by omega) i f g0 g1 (by omega)) h0 h1 (by simp; omega) (by omega)
    simp only [List.nil_append, List.length_nil, Int.natCast_zero] at hz
    rw [hz]; rfl
def S_laws_markValueS (a0 : Int) (e0 : (List GValue)) : Option (Int × (List GValue)) := if 0 ≤ a0 ∧ a0 + 2 * vszs e0 ≤ 2 ^ 41 then some (a0 + cVs e0, mVs a0 e0) else none
theorem markValueS_eq {a : Int} {s : List GValue} (h0 : 0 ≤ a) (h1 : a + 2 * vszs s ≤ 2 ^ 41) : S_laws_markValueS a s = some (a + cVs s, mVs a s) := if_pos ⟨h0, h1⟩
theorem spec_laws_markValueS (a0 : Int) (e0 : (List GValue)) (r : (Int × (List GValue))) (h : S_laws_markValueS a0 e0 = some r) : ∃ n, U_laws_markValueS n a0 e0 = some r := by
  unfold S_laws_markValueS at h
  obtain ⟨⟨h0, h1⟩, h⟩ := need_c h
  exact ⟨vszs e0 + 2, by rw [markValueS_U _ e0 (Nat.lt_succ_self _) a0 _ h0 h1 (Nat.le_refl _), h]⟩
theorem ok_laws_markValueS (a0 : Int) (e0 : (List GValue)) (r : (Int × (List GValue))) (h : S_laws_markValueS a0 e0 = some r) : (mach cfg).call 28 [.obj 5 (eL o_GValue e0)] [.val false [.ref 0], .val false [.int .i64 a0]] = some (.val false [.int .i64 r.1], [.obj 5 (eL o_GValue r.2)]) := by
  obtain ⟨n, hn⟩ := spec_laws_markValueS a0 e0 r h
  exact (rec_laws_markValueS n) a0 e0 r hn
def S_laws_markValue (a0_0 : Int) (a0_1 : Int) (a1 : Int) (e0 : (List UInt8)) (e1 : (List (List UInt8))) (e2 : (List GValue)) : Option (Int × (List UInt8) × (List (List UInt8)) × (List GValue)) :=
  (S_laws_markByteS a1 e0).bind fun ⟨r1_0, r1_1⟩ =>
  (S_laws_markByteSS r1_0 e1).bind fun ⟨r2_0, r2_1⟩ =>
  (S_laws_markValueS r2_0 e2).bind fun ⟨r3_0, r3_1⟩ =>
  some (r3_0, r1_1, r2_1, r3_1)

set_option maxRecDepth 100000 in
theorem fd_13 : cfg.funcs 13 = some (bodyOf Try.f13, Try.f13.ntmps, Try.f13.results.toList) := fn_of Try.func13 (by kernel_rfl) (by kernel_rfl)
theorem ok_laws_markValue (a0_0 : Int) (a0_1 : Int) (a1 : Int) (e0 : (List UInt8)) (e1 : (List (List UInt8))) (e2 : (List GValue)) (r : (Int × (List UInt8) × (List (List UInt8)) × (List GValue))) (h : S_laws_markValue a0_0 a0_1 a1 e0 e1 e2 = some r) : (mach cfg).call 13 [.obj 1 (eL e_u8 e0), .obj 1 (eL (o_sl 1 e_u8) e1), .obj 5 (eL o_GValue e2)] [.val true [.int .i64 a0_0, .int .i64 a0_1, .ref 0, .ref 1, .ref 2], .val false [.int .i64 a1]] = some (.val false [.int .i64 r.1], [.obj 1 (eL e_u8 r.2.1), .obj 1 (eL (o_sl 1 e_u8) r.2.2.1), .obj 5 (eL o_GValue r.2.2.2)]) := by
  unfold S_laws_markValue at h
  obtain ⟨⟨r1_0, r1_1⟩, hr1, h⟩ := bs h
  try dsimp only at h
  obtain ⟨⟨r2_0, r2_1⟩, hr2, h⟩ := bs h
  try dsimp only at h
  obtain ⟨⟨r3_0, r3_1⟩, hr3, h⟩ := bs h
  try dsimp only at h
  obtain rfl := Option.some.inj h
  exact call_wQ [.cl (ok_laws_markByteS a1 e0 _ hr1), .cl (ok_laws_markByteSS r1_0 e1 _ hr2), .cl (ok_laws_markValueS r2_0 e2 _ hr3)] rfl fd_13 (by kernel_rfl)

def L_laws_heldByteS_l0 (a0 : (List UInt8)) : Nat → Int → Int → Option (Int ⊕ (Int × Int))
  | 0, _, _ => none
  | m + 1, a1, v2 =>
    if v2 < ((a0.length : Nat) : Int) then
      (natO v2).bind fun i2 =>
      (a0[i2]?).bind fun x3 =>
      if ((x3.toNat : Nat) : Int) = (((b8 a1).toNat : Nat) : Int) then
        L_laws_heldByteS_l0 a0 m (w64 (a1 + 1)) (w64 (v2 + 1))
      else
        some (.inl (-1))
    else
      some (.inr (a1, v2))

theorem gl_laws_heldByteS_l0 (a0 : (List UInt8)) (m : Nat) : ∀ (a1 : Int) (v2 : Int) (o : (Int ⊕ (Int × Int))), L_laws_heldByteS_l0 a0 m a1 v2 = some o → (mach cfg).loop 49 (loopB Try.f49 0) ⟨[(0, .val false [.seq (eL e_u8 a0)]), (1, .val false [.int .i64 a1]), (5, .val false [.int .i64 v2])], [], 0⟩ = some (match o with | .inl o_0 => (.ret, (⟨[(4, .val false [.int .i64 o_0])], [], 0⟩ : S)) | .inr (⟨o_1_0, o_1_1⟩) => (.exit 0, (⟨[(0, .val false [.seq (eL e_u8 a0)]), (1, .val false [.int .i64 o_1_0]), (5, .val false [.int .i64 o_1_1]), (9, .val false [.bool false])], [], 0⟩ : S))) := by
  induction m with
  | zero => intro a1 v2 o h; cases h
  | succ m ih =>
    intro a1 v2 o h
    rw [L_laws_heldByteS_l0] at h
    rcases ite_some h with ⟨c1, h⟩ | ⟨c1, h⟩
    ·obtain ⟨i2, hi2, h⟩ := bs h
     obtain ⟨x3, hx3, h⟩ := bs h
     rcases ite_some h with ⟨c4, h⟩ | ⟨c4, h⟩
     ·exact loop_nQ [.le e_u8 a0, .lT c1, .na hi2, .ix0 e_u8 hx3, ⟨.conv .u8 a1, .i (((b8 a1).toNat : Nat) : Int), A.conv8⟩, .eT c4, .nt true, .ad a1 1, .ad v2 1] (by kernel_rfl) (ih (w64 (a1 + 1)) (w64 (v2 + 1)) o h)
     ·obtain rfl := Option.some.inj h
      exact loop_eQ [.le e_u8 a0, .lT c1, .na hi2, .ix0 e_u8 hx3, ⟨.conv .u8 a1, .i (((b8 a1).toNat : Nat) : Int), A.conv8⟩, .eF c4, .nt false] (by kernel_rfl) (by intro h; cases h)
    ·obtain rfl := Option.some.inj h
     exact loop_eQ [.le e_u8 a0, .lF c1] (by kernel_rfl) (by intro h; cases h)

def T_laws_heldByteS (n : Nat) (a0 : (List UInt8)) (a1 : Int) : Option Int :=
  (L_laws_heldByteS_l0 a0 n a1 0).bind fun o1 =>
  match o1 with
  | .inl o1_0 =>
    some o1_0
  | .inr (⟨o1_1_0, o1_1_1⟩) =>
    some o1_1_0

set_option maxRecDepth 100000 in
theorem fd_49 : cfg.funcs 49 = some (bodyOf Try.f49, Try.f49.ntmps, Try.f49.results.toList) := fn_of Try.func49 (by kernel_rfl) (by kernel_rfl)
theorem g_laws_heldByteS (n : Nat) (a0 : (List UInt8)) (a1 : Int) (r : Int) (h : T_laws_heldByteS n a0 a1 = some r) : (mach cfg).call 49 [] [.val false [.seq (eL e_u8 a0)], .val false [.int .i64 a1]] = some (.val false [.int .i64 r], []) := by
  unfold T_laws_heldByteS at h
  obtain ⟨o1, ho1, h⟩ := bs h
  rcases o1 with o1_0 | ⟨o1_1_0, o1_1_1⟩
  · try dsimp only at h
    obtain rfl := Option.some.inj h
    exact call_wQ [.lp (gl_laws_heldByteS_l0 a0 _ a1 0 _ ho1)] rfl fd_49 (by kernel_rfl)
  · try dsimp only at h
    obtain rfl := Option.some.inj h
    exact call_wQ [.lp (gl_laws_heldByteS_l0 a0 _ a1 0 _ ho1)] rfl fd_49 (by kernel_rfl)

theorem heldByteS_loop {a : List UInt8} : ∀ (l p : List UInt8) (k : Int) (m : Nat), a = p ++ l → mB k l = l → 0 ≤ k → k + 2 * l.length ≤ 2 ^ 41 → p.length + l.length ≤ 2 ^ 41 → l.length < m → ∃ z, L_laws_heldByteS_l0 a m k ((p.length : Nat) : Int) = some (.inr (k + l.length, z)) := by
  intro l
  induction l with
  | nil =>
    intro p k m ha _ _ _ _ hm
    subst ha
    obtain ⟨m, rfl, _⟩ := fuel hm
    exact ⟨_, by rw [L_laws_heldByteS_l0, if_neg (nlt_end p)]; simp; rfl⟩
  | cons x l ih =>
    intro p k m ha hm0 h0 h1 h2 hm
    obtain ⟨m, rfl, hm'⟩ := fuel hm
    simp only [List.length_cons] at h1 h2 hm'
    rw [mB] at hm0
    obtain ⟨e1, e2⟩ := List.cons.inj hm0
    obtain ⟨z, hz⟩ := ih (p ++ [x]) (k + 1) m (by rw [ha]; simp) e2 (by omega) (by omega) (by simp; omega) (by omega)
    refine ⟨z, ?_⟩
    rw [L_laws_heldByteS_l0, if_pos (by rw [ha]; exact lt_mid p x l), natO_nat, Option.bind_some, show a[p.length]? = some x by rw [ha]; exact get_mid p x l, Option.bind_some, if_pos (by rw [e1]), w64_len p x (by omega), w64_id (x := k + 1) (by omega) (by omega), hz]
    simp only [List.length_cons]
    rw [show k + 1 + (l.length : Int) = k + ((l.length + 1 : Nat) : Int) by omega]
def S_laws_heldByteS (a0 : (List UInt8)) (a1 : Int) : Option Int := if mB a1 a0 = a0 ∧ 0 ≤ a1 ∧ a1 + 2 * a0.length ≤ 2 ^ 41 then some (a1 + a0.length) else none
theorem heldByteS_eq {a : Int} {s : List UInt8} (h : mB a s = s) (h0 : 0 ≤ a) (h1 : a + 2 * s.length ≤ 2 ^ 41) : S_laws_heldByteS s a = some (a + s.length) := if_pos ⟨h, h0, h1⟩
theorem spec_laws_heldByteS (a0 : (List UInt8)) (a1 : Int) (r : Int) (h : S_laws_heldByteS a0 a1 = some r) : ∃ n, T_laws_heldByteS n a0 a1 = some r := by
  unfold S_laws_heldByteS at h
  obtain ⟨⟨he, h0, h1⟩, h⟩ := need_c h
  obtain ⟨z, hz⟩ := heldByteS_loop (a := a0) a0 [] a1 (a0.length + 1) rfl he h0 h1 (by simp; omega) (by omega)
  refine ⟨a0.length + 1, ?_⟩
  unfold T_laws_heldByteS
  simp only [List.length_nil, Int.natCast_zero] at hz
  rw [hz]
  exact h
theorem ok_laws_heldByteS (a0 : (List UInt8)) (a1 : Int) (r : Int) (h : S_laws_heldByteS a0 a1 = some r) : (mach cfg).call 49 [] [.val false [.seq (eL e_u8 a0)], .val false [.int .i64 a1]] = some (.val false [.int .i64 r], []) := by
  obtain ⟨n, hn⟩ := spec_laws_heldByteS a0 a1 r h
  exact g_laws_heldByteS n a0 a1 r hn
def L_laws_heldByteSS_l0 (a0 : (List (List UInt8))) : Nat → Int → Int → Option (Int ⊕ (Int × Int))
  | 0, _, _ => none
  | m + 1, a1, v2 =>
    if v2 < ((a0.length : Nat) : Int) then
      (natO v2).bind fun i2 =>
      (a0[i2]?).bind fun x3 =>
      (S_laws_heldByteS x3 a1).bind fun r4 =>
      if r4 < 0 then
        some (.inl (-1))
      else
        L_laws_heldByteSS_l0 a0 m r4 (w64 (v2 + 1))
    else
      some (.inr (a1, v2))

theorem gl_laws_heldByteSS_l0 (a0 : (List (List UInt8))) (m : Nat) : ∀ (a1 : Int) (v2 : Int) (o : (Int ⊕ (Int × Int))), L_laws_heldByteSS_l0 a0 m a1 v2 = some o → (mach cfg).loop 50 (loopB Try.f50 0) ⟨[(0, .val false [.seq (eL (e_sl e_u8) a0)]), (1, .val false [.int .i64 a1]), (5, .val false [.int .i64 v2])], [], 0⟩ = some (match o with | .inl o_0 => (.ret, (⟨[(4, .val false [.int .i64 o_0])], [], 0⟩ : S)) | .inr (⟨o_1_0, o_1_1⟩) => (.exit 0, (⟨[(0, .val false [.seq (eL (e_sl e_u8) a0)]), (1, .val false [.int .i64 o_1_0]), (5, .val false [.int .i64 o_1_1]), (9, .val false [.bool false])], [], 0⟩ : S))) := by
  induction m with
  | zero => intro a1 v2 o h; cases h
  | succ m ih =>
    intro a1 v2 o h
    rw [L_laws_heldByteSS_l0] at h
    rcases ite_some h with ⟨c1, h⟩ | ⟨c1, h⟩
    ·obtain ⟨i2, hi2, h⟩ := bs h
     obtain ⟨x3, hx3, h⟩ := bs h
     obtain ⟨r4, hr4, h⟩ := bs h
     rcases ite_some h with ⟨c5, h⟩ | ⟨c5, h⟩
     ·obtain rfl := Option.some.inj h
      exact loop_eQ [.le (e_sl e_u8) a0, .lT c1, .na hi2, .ix0 (e_sl e_u8) hx3, .cl (ok_laws_heldByteS x3 a1 _ hr4), .lT c5] (by kernel_rfl) (by intro h; cases h)
     ·exact loop_nQ [.le (e_sl e_u8) a0, .lT c1, .na hi2, .ix0 (e_sl e_u8) hx3, .cl (ok_laws_heldByteS x3 a1 _ hr4), .lF c5, .ad v2 1] (by kernel_rfl) (ih r4 (w64 (v2 + 1)) o h)
    ·obtain rfl := Option.some.inj h
     exact loop_eQ [.le (e_sl e_u8) a0, .lF c1] (by kernel_rfl) (by intro h; cases h)

def T_laws_heldByteSS (n : Nat) (a0 : (List (List UInt8))) (a1 : Int) : Option Int :=
  (L_laws_heldByteSS_l0 a0 n a1 0).bind fun o1 =>
  match o1 with
  | .inl o1_0 =>
    some o1_0
  | .inr (⟨o1_1_0, o1_1_1⟩) =>
    some o1_1_0

set_option maxRecDepth 100000 in
theorem fd_50 : cfg.funcs 50 = some (bodyOf Try.f50, Try.f50.ntmps, Try.f50.results.toList) := fn_of Try.func50 (by kernel_rfl) (by kernel_rfl)
theorem g_laws_heldByteSS (n : Nat) (a0 : (List (List UInt8))) (a1 : Int) (r : Int) (h : T_laws_heldByteSS n a0 a1 = some r) : (mach cfg).call 50 [] [.val false [.seq (eL (e_sl e_u8) a0)], .val false [.int .i64 a1]] = some (.val false [.int .i64 r], []) := by
  unfold T_laws_heldByteSS at h
  obtain ⟨o1, ho1, h⟩ := bs h
  rcases o1 with o1_0 | ⟨o1_1_0, o1_1_1⟩
  · try dsimp only at h
    obtain rfl := Option.some.inj h
    exact call_wQ [.lp (gl_laws_heldByteSS_l0 a0 _ a1 0 _ ho1)] rfl fd_50 (by kernel_rfl)
  · try dsimp only at h
    obtain rfl := Option.some.inj h
    exact call_wQ [.lp (gl_laws_heldByteSS_l0 a0 _ a1 0 _ ho1)] rfl fd_50 (by kernel_rfl)

theorem heldByteSS_loop {a : List (List UInt8)} : ∀ (l p : List (List UInt8)) (k : Int) (m : Nat), a = p ++ l → mBB k l = l → 0 ≤ k → k + 2 * bsz l ≤ 2 ^ 41 → p.length + l.length ≤ 2 ^ 41 → l.length < m → ∃ z, L_laws_heldByteSS_l0 a m k ((p.length : Nat) : Int) = some (.inr (k + cB l, z)) := by
  intro l
  induction l with
  | nil =>
    intro p k m ha _ _ _ _ hm
    subst ha
    obtain ⟨m, rfl, _⟩ := fuel hm
    exact ⟨_, by rw [L_laws_heldByteSS_l0, if_neg (nlt_end p)]; simp [cB]; rfl⟩
  | cons x l ih =>
    intro p k m ha hm0 h0 h1 h2 hm
    obtain ⟨m, rfl, hm'⟩ := fuel hm
    rw [bsz_cons] at h1
    simp only [List.length_cons] at h2 hm'
    rw [mBB] at hm0
    obtain ⟨e1, e2⟩ := List.cons.inj hm0
    obtain ⟨z, hz⟩ := ih (p ++ [x]) (k + x.length) m (by rw [ha]; simp) e2 (by omega) (by omega) (by simp; omega) (by omega)
    refine ⟨z, ?_⟩
    rw [L_laws_heldByteSS_l0, if_pos (by rw [ha]; exact lt_mid p x l), natO_nat, Option.bind_some, show a[p.length]? = some x by rw [ha]; exact get_mid p x l, Option.bind_some, heldByteS_eq e1 (by omega) (by omega), Option.bind_some, if_neg (by omega), w64_len p x (by omega), hz, cB_cons]
    rw [show k + (x.length : Int) + (cB l : Int) = k + ((x.length + cB l : Nat) : Int) by omega]
def S_laws_heldByteSS (a0 : (List (List UInt8))) (a1 : Int) : Option Int := if mBB a1 a0 = a0 ∧ 0 ≤ a1 ∧ a1 + 2 * bsz a0 ≤ 2 ^ 41 then some (a1 + cB a0) else none
theorem heldByteSS_eq {a : Int} {s : List (List UInt8)} (h : mBB a s = s) (h0 : 0 ≤ a) (h1 : a + 2 * bsz s ≤ 2 ^ 41) : S_laws_heldByteSS s a = some (a + cB s) := if_pos ⟨h, h0, h1⟩
theorem spec_laws_heldByteSS (a0 : (List (List UInt8))) (a1 : Int) (r : Int) (h : S_laws_heldByteSS a0 a1 = some r) : ∃ n, T_laws_heldByteSS n a0 a1 = some r := by
  unfold S_laws_heldByteSS at h
  obtain ⟨⟨he, h0, h1⟩, h⟩ := need_c h
  have := bsz_len a0
  obtain ⟨z, hz⟩ := heldByteSS_loop (a := a0) a0 [] a1 (a0.length + 1) rfl he h0 h1 (by simp; omega) (by omega)
  refine ⟨a0.length + 1, ?_⟩
  unfold T_laws_heldByteSS
  simp only [List.length_nil, Int.natCast_zero] at hz
  rw [hz]
  exact h
theorem ok_laws_heldByteSS (a0 : (List (List UInt8))) (a1 : Int) (r : Int) (h : S_laws_heldByteSS a0 a1 = some r) : (mach cfg).call 50 [] [.val false [.seq (eL (e_sl e_u8) a0)], .val false [.int .i64 a1]] = some (.val false [.int .i64 r], []) := by
  obtain ⟨n, hn⟩ := spec_laws_heldByteSS a0 a1 r h
  exact g_laws_heldByteSS n a0 a1 r hn
end
end Go.Am.Try
