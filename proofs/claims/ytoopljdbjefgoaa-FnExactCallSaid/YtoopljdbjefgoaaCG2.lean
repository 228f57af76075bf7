/- The functions of the program in plain Lean, and that the machine answers as they do; conditions at each theorem. -/
import Derived.Test.YtoopljdbjefgoaaCG1
set_option linter.unusedVariables false
set_option linter.unusedSimpArgs false
namespace Go.Am.Try
open Go.Am Go.Proofs
set_option linter.unusedVariables false
set_option maxRecDepth 20000
set_option maxHeartbeats 2000000
noncomputable section
def L_spec_l7call_l0 (a0 : (List UInt8)) (a1 : (List GValue)) (v2 : (List UInt8)) (v5 : Int) (v6 : Int) (v7 : (List UInt8)) (v8 : (List (List UInt8))) (v9 : (List GValue)) : Nat → Bool → Int → Option ((Int × Int × (List UInt8) × (List (List UInt8)) × (List GValue)) ⊕ (Bool × Int))
  | 0, _, _ => none
  | m + 1, v3, v4 =>
    if v4 < ((a1.length : Nat) : Int) then
      (natO v4).bind fun i2 =>
      (a1[i2]?).bind fun x3 =>
      if x3.Kind = 6 then
        L_spec_l7call_l0 a0 a1 v2 v5 v6 v7 v8 v9 m false (w64 (v4 + 1))
      else
        (v2[i2]?).bind fun x5 =>
        (S_spec_l7fits x3 x5).bind fun r6 =>
        match r6 with
        | true =>
          L_spec_l7call_l0 a0 a1 v2 v5 v6 v7 v8 v9 m v3 (w64 (v4 + 1))
        | false =>
          some (.inl (2, 0, [], [], []))
    else
      some (.inr (v3, v4))

theorem gl_spec_l7call_l0 (a0 : (List UInt8)) (a1 : (List GValue)) (v2 : (List UInt8)) (v5 : Int) (v6 : Int) (v7 : (List UInt8)) (v8 : (List (List UInt8))) (v9 : (List GValue)) (m : Nat) : ∀ (v3 : Bool) (v4 : Int) (o : ((Int × Int × (List UInt8) × (List (List UInt8)) × (List GValue)) ⊕ (Bool × Int))), L_spec_l7call_l0 a0 a1 v2 v5 v6 v7 v8 v9 m v3 v4 = some o → (mach cfg).loop 60 (loopB Try.f60 0) ⟨[(0, .val false [.seq (eL e_u8 a0)]), (1, .val false [.seq (eL e_GValue a1)]), (4, .val false [.ptr 0 0]), (6, .val false [.str v2]), (7, .val false [.bool v3]), (8, .val false [.int .i64 v4])], [.var [.int .i64 v5, .int .i64 v6, .ref 1, .ref 2, .ref 3], .obj 1 (eL e_u8 v7), .obj 1 (eL (e_sl e_u8) v8), .obj 5 (eL e_GValue v9)], 0⟩ = some (match o with | .inl ⟨o_0_0, o_0_1, o_0_2, o_0_3, o_0_4⟩ => (.ret, (⟨[(4, .val false [.ptr 0 0]), (5, .val false [.int .i64 o_0_0])], [.var [.int .i64 o_0_1, .int .i64 o_0_1, .ref 1, .ref 2, .ref 3], .obj 1 (eL e_u8 o_0_2), .obj 1 (eL (e_sl e_u8) o_0_3), .obj 5 (eL e_GValue o_0_4)], 0⟩ : S)) | .inr (⟨o_1_0, o_1_1⟩) => (.exit 0, (⟨[(0, .val false [.seq (eL e_u8 a0)]), (1, .val false [.seq (eL e_GValue a1)]), (4, .val false [.ptr 0 0]), (6, .val false [.str v2]), (7, .val false [.bool o_1_0]), (8, .val false [.int .i64 o_1_1]), (27, .val false [.bool false])], [.var [.int .i64 v5, .int .i64 v6, .ref 1, .ref 2, .ref 3], .obj 1 (eL e_u8 v7), .obj 1 (eL (e_sl e_u8) v8), .obj 5 (eL e_GValue v9)], 0⟩ : S))) := by
  induction m with
  | zero => intro v3 v4 o h; cases h
  | succ m ih =>
    intro v3 v4 o h
    rw [L_spec_l7call_l0] at h
    rcases ite_some h with ⟨c1, h⟩ | ⟨c1, h⟩
    ·obtain ⟨i2, hi2, h⟩ := bs h
     obtain ⟨x3, hx3, h⟩ := bs h
     rcases ite_some h with ⟨c4, h⟩ | ⟨c4, h⟩
     ·exact loop_nQ [.le e_GValue a1, .lT c1, .na hi2, .ix hx3 (eq_GValue x3), .eT c4, .ad v4 1] (by kernel_rfl) (ih false (w64 (v4 + 1)) o h)
     ·obtain ⟨x5, hx5, h⟩ := bs h
      obtain ⟨r6, hr6, h⟩ := bs h
      cases r6 with
      | true =>
       try dsimp only at h
       exact loop_nQ [.le e_GValue a1, .lT c1, .na hi2, .ix hx3 (eq_GValue x3), .eF c4, .na hi2, .ix hx3 (eq_GValue x3), .na hi2, ⟨.idxS v2 i2, .u x5, (A.idxS hx5)⟩, ⟨.byteI x5, .i ((x5.toNat : Nat) : Int), rfl⟩, .cl (ok_spec_l7fits x3 x5 _ hr6), .nt true, .ad v4 1] (by kernel_rfl) (ih v3 (w64 (v4 + 1)) o h)
      | false =>
       try dsimp only at h
       obtain rfl := Option.some.inj h
       exact loop_eQ [.le e_GValue a1, .lT c1, .na hi2, .ix hx3 (eq_GValue x3), .eF c4, .na hi2, .ix hx3 (eq_GValue x3), .na hi2, ⟨.idxS v2 i2, .u x5, (A.idxS hx5)⟩, ⟨.byteI x5, .i ((x5.toNat : Nat) : Int), rfl⟩, .cl (ok_spec_l7fits x3 x5 _ hr6), .nt false] (by kernel_rfl) (by intro h; cases h)
    ·obtain rfl := Option.some.inj h
     exact loop_eQ [.le e_GValue a1, .lF c1] (by kernel_rfl) (by intro h; cases h)

def L_spec_l7call_l1 (a1 : (List GValue)) (v2 : Int) (v3 : Int) (v4 : Int) (v5 : Int) (v6 : (List UInt8)) (v7 : (List (List UInt8))) (v8 : (List GValue)) (v9 : (List UInt8)) (v10 : (List (List UInt8))) : Nat → Int → (List GValue) → Option (Int × (List GValue))
  | 0, _, _ => none
  | m + 1, v1, v11 =>
    (a1[0]?).bind fun x1 =>
    if v1 < ((x1.K.length : Nat) : Int) then
      (natO v1).bind fun i3 =>
      (x1.K[i3]?).bind fun x4 =>
      if roomP 88 (v11.length + [(GValue.mk 3 0 x4 [] [])].length) then
      L_spec_l7call_l1 a1 v2 v3 v4 v5 v6 v7 v8 v9 v10 m (w64 (v1 + 1)) (v11 ++ [(GValue.mk 3 0 x4 [] [])])
      else none
    else
      some (v1, v11)

theorem gl_spec_l7call_l1 (a1 : (List GValue)) (v2 : Int) (v3 : Int) (v4 : Int) (v5 : Int) (v6 : (List UInt8)) (v7 : (List (List UInt8))) (v8 : (List GValue)) (v9 : (List UInt8)) (v10 : (List (List UInt8))) (m : Nat) : ∀ (v1 : Int) (v11 : (List GValue)) (o : (Int × (List GValue))), L_spec_l7call_l1 a1 v2 v3 v4 v5 v6 v7 v8 v9 v10 m v1 v11 = some o → (mach cfg).loop 60 (loopB Try.f60 1) ⟨[(1, .val false [.seq (eL e_GValue a1)]), (4, .val false [.ptr 0 0]), (9, .val false [.ptr 1 0]), (10, .val false [.int .i64 v1])], [.var [.int .i64 v2, .int .i64 v3, .ref 2, .ref 3, .ref 4], .var [.int .i64 v4, .int .i64 v5, .ref 5, .ref 6, .ref 7], .obj 1 (eL e_u8 v6), .obj 1 (eL (e_sl e_u8) v7), .obj 5 (eL e_GValue v8), .obj 1 (eL e_u8 v9), .obj 1 (eL (e_sl e_u8) v10), .obj 5 (eL e_GValue v11)], 0⟩ = some (match o with | ⟨o_0, o_1⟩ => (.exit 3, (⟨[(1, .val false [.seq (eL e_GValue a1)]), (4, .val false [.ptr 0 0]), (9, .val false [.ptr 1 0]), (10, .val false [.int .i64 o_0]), (96, .val false [.bool false])], [.var [.int .i64 v2, .int .i64 v3, .ref 2, .ref 3, .ref 4], .var [.int .i64 v4, .int .i64 v5, .ref 5, .ref 6, .ref 7], .obj 1 (eL e_u8 v6), .obj 1 (eL (e_sl e_u8) v7), .obj 5 (eL e_GValue v8), .obj 1 (eL e_u8 v9), .obj 1 (eL (e_sl e_u8) v10), .obj 5 (eL e_GValue o_1)], 0⟩ : S))) := by
  induction m with
  | zero => intro v1 v11 o h; cases h
  | succ m ih =>
    intro v1 v11 o h
    rw [L_spec_l7call_l1] at h
    obtain ⟨x1, hx1, h⟩ := bs h
    rcases ite_some h with ⟨c2, h⟩ | ⟨c2, h⟩
    ·obtain ⟨i3, hi3, h⟩ := bs h
     obtain ⟨x4, hx4, h⟩ := bs h
     obtain ⟨n5, h⟩ := need_some h
     exact loop_nQ [⟨.nat 0, .n 0, rfl⟩, .ix hx1 (eq_GValue x1), .le (e_sl e_u8) x1.K, .lT c2, ⟨.nat 0, .n 0, rfl⟩, .ix hx1 (eq_GValue x1), .na hi3, .ix0 (e_sl e_u8) hx4, ⟨.view (eL (e_sl e_u8) []), .l (eL (e_sl e_u8) []), (A.view (E_sl e_u8))⟩, ⟨.view (eL e_GValue []), .l (eL e_GValue []), (A.view E_GValue)⟩, ⟨.pl (eL e_GValue [(GValue.mk 3 0 x4 [] [])]), .b true, (A.pl E_GValue)⟩, ⟨.room 88 (eL e_GValue v11) (eL e_GValue [(GValue.mk 3 0 x4 [] [])]), .b true, (A.room n5)⟩, ⟨.uni 5 (eL e_GValue [(GValue.mk 3 0 x4 [] [])]), .b true, (A.uni E_GValue)⟩, ⟨.app (eL e_GValue v11) (eL e_GValue [(GValue.mk 3 0 x4 [] [])]), .l (eL e_GValue (v11 ++ [(GValue.mk 3 0 x4 [] [])])), A.app⟩, .ad v1 1] (by kernel_rfl) (ih (w64 (v1 + 1)) (v11 ++ [(GValue.mk 3 0 x4 [] [])]) o h)
    ·obtain rfl := Option.some.inj h
     exact loop_eQ [⟨.nat 0, .n 0, rfl⟩, .ix hx1 (eq_GValue x1), .le (e_sl e_u8) x1.K, .lF c2] (by kernel_rfl) (by intro h; cases h)

def T_spec_l7call (n : Nat) (a0 : (List UInt8)) (a1 : (List GValue)) : Option (GValue × Int) :=
  (S_spec_l7wants a0).bind fun r1 =>
  if ((r1.length : Nat) : Int) = 0 then
    some ((GValue.mk 0 0 [] [] []), 5)
  else
    if ((r1.length : Nat) : Int) = ((a1.length : Nat) : Int) then
      (L_spec_l7call_l0 a0 a1 r1 0 0 [] [] [] n true 0).bind fun o4 =>
      match o4 with
      | .inl ⟨o4_0_0, o4_0_1, o4_0_2, o4_0_3, o4_0_4⟩ =>
        some ((GValue.mk o4_0_1 o4_0_1 o4_0_2 o4_0_3 o4_0_4), o4_0_0)
      | .inr (⟨o4_1_0, o4_1_1⟩) =>
        match o4_1_0 with
        | true =>
          if a0 = [108, 101, 110] then
            (a1[0]?).bind fun x7 =>
            if x7.Kind = 3 then
              some ((GValue.mk 2 ((x7.S.length : Nat) : Int) [] [] []), 0)
            else
              some ((GValue.mk 2 ((x7.L.length : Nat) : Int) [] [] []), 0)
          else
            if a0 = [99, 97, 116] then
              (a1[0]?).bind fun x8 =>
              if roomP 1 (0 + x8.S.length) then
              (a1[1]?).bind fun x10 =>
              if roomP 1 (x8.S.length + x10.S.length) then
              (S_spec_l7made (GValue.mk 3 0 (x8.S ++ x10.S) [] [])).bind fun ⟨r12_0, r12_1⟩ =>
              some (r12_0, r12_1)
              else none
              else none
            else
              if a0 = [107, 101, 121, 115] then
                (L_spec_l7call_l1 a1 0 0 4 0 [] [] [] [] [] n 0 []).bind fun ⟨o9_0, o9_1⟩ =>
                some ((GValue.mk 4 0 [] [] o9_1), 0)
              else
                if a0 = [118, 97, 108, 115] then
                  (a1[0]?).bind fun x10 =>
                  some ((GValue.mk 4 0 [] [] x10.L), 0)
                else
                  if a0 = [104, 97, 115] then
                    (a1[0]?).bind fun x11 =>
                    (a1[1]?).bind fun x12 =>
                    (S_spec_l2find x11 x12.S).bind fun r13 =>
                    if 0 ≤ r13 then
                      (S_spec_l7bool true).bind fun r15 =>
                      some (r15, 0)
                    else
                      (S_spec_l7bool false).bind fun r15 =>
                      some (r15, 0)
                  else
                    if a0 = [109, 105, 110] then
                      (a1[1]?).bind fun x12 =>
                      (a1[0]?).bind fun x13 =>
                      if x12.N < x13.N then
                        some (x12, 0)
                      else
                        some (x13, 0)
                    else
                      (a1[1]?).bind fun x12 =>
                      (a1[0]?).bind fun x13 =>
                      if x13.N < x12.N then
                        some (x12, 0)
                      else
                        some (x13, 0)
        | false =>
          (S_spec_l7unknown).bind fun r6 =>
          some (r6, 0)
    else
      some ((GValue.mk 0 0 [] [] []), 5)

set_option maxRecDepth 100000 in
theorem fd_60 : cfg.funcs 60 = some (bodyOf Try.f60, Try.f60.ntmps, Try.f60.results.toList) := fn_of Try.func60 (by kernel_rfl) (by kernel_rfl)
theorem g_spec_l7call (n : Nat) (a0 : (List UInt8)) (a1 : (List GValue)) (r : (GValue × Int)) (h : T_spec_l7call n a0 a1 = some r) : (mach cfg).call 60 [] [.val false [.seq (eL e_u8 a0)], .val false [.seq (eL e_GValue a1)]] = some (.tup [(true, [.int .i64 r.1.Kind, .int .i64 r.1.N, .seq (eL e_u8 r.1.S), .seq (eL (e_sl e_u8) r.1.K), .seq (eL e_GValue r.1.L)]), (false, [.int .i64 r.2])], []) := by
  unfold T_spec_l7call at h
  obtain ⟨r1, hr1, h⟩ := bs h
  rcases ite_some h with ⟨c2, h⟩ | ⟨c2, h⟩
  ·obtain rfl := Option.some.inj h
   exact (call_wQ (r := (.tup [(true, [.int .i64 0, .int .i64 0, .seq (viewL (eL e_u8 [])), .seq (viewL (eL (e_sl e_u8) [])), .seq (viewL (eL e_GValue []))]), (false, [.int .i64 5])], [])) [.cl (ok_spec_l7wants a0 _ hr1), ⟨.lenS r1, .i ((r1.length : Nat) : Int), rfl⟩, .eT c2] rfl fd_60 (by kernel_rfl)).trans (by simp only [viewL_eL E_u8, viewL_eL (E_sl e_u8), viewL_eL E_GValue] <;> rfl)
  ·rcases ite_some h with ⟨c3, h⟩ | ⟨c3, h⟩
   ·obtain ⟨o4, ho4, h⟩ := bs h
    rcases o4 with ⟨o4_0_0, o4_0_1, o4_0_2, o4_0_3, o4_0_4⟩ | ⟨o4_1_0, o4_1_1⟩
    · try dsimp only at h
      obtain rfl := Option.some.inj h
      exact (call_wQ (r := (.tup [(true, [.int .i64 o4_0_1, .int .i64 o4_0_1, .seq (viewL (eL e_u8 o4_0_2)), .seq (viewL (eL (e_sl e_u8) o4_0_3)), .seq (viewL (eL e_GValue o4_0_4))]), (false, [.int .i64 o4_0_0])], [])) [.cl (ok_spec_l7wants a0 _ hr1), ⟨.lenS r1, .i ((r1.length : Nat) : Int), rfl⟩, .eF c2, ⟨.lenS r1, .i ((r1.length : Nat) : Int), rfl⟩, .le e_GValue a1, .eT c3, .nt true, .lp (gl_spec_l7call_l0 a0 a1 r1 0 0 [] [] [] _ true 0 _ ho4)] rfl fd_60 (by kernel_rfl)).trans (by simp only [viewL_eL E_u8, viewL_eL (E_sl e_u8), viewL_eL E_GValue] <;> rfl)
    · try dsimp only at h
      cases o4_1_0 with
      | true =>
       try dsimp only at h
       rcases ite_some h with ⟨c6, h⟩ | ⟨c6, h⟩
       ·obtain ⟨x7, hx7, h⟩ := bs h
        rcases ite_some h with ⟨c8, h⟩ | ⟨c8, h⟩
        ·obtain rfl := Option.some.inj h
         exact (call_wQ (r := (.tup [(true, [.int .i64 2, .int .i64 ((x7.S.length : Nat) : Int), .seq (viewL (eL e_u8 [])), .seq (viewL (eL (e_sl e_u8) [])), .seq (viewL (eL e_GValue []))]), (false, [.int .i64 0])], [])) [.cl (ok_spec_l7wants a0 _ hr1), ⟨.lenS r1, .i ((r1.length : Nat) : Int), rfl⟩, .eF c2, ⟨.lenS r1, .i ((r1.length : Nat) : Int), rfl⟩, .le e_GValue a1, .eT c3, .nt true, .lp (gl_spec_l7call_l0 a0 a1 r1 0 0 [] [] [] _ true 0 _ ho4), .nt true, ⟨.bytes (eL e_u8 a0), .s a0, A.bytes⟩, .sT c6, ⟨.nat 0, .n 0, rfl⟩, .ix hx7 (eq_GValue x7), .eT c8, ⟨.nat 0, .n 0, rfl⟩, .ix hx7 (eq_GValue x7), .le e_u8 x7.S] rfl fd_60 (by kernel_rfl)).trans (by simp only [viewL_eL E_u8, viewL_eL (E_sl e_u8), viewL_eL E_GValue] <;> rfl)
        ·obtain rfl := Option.some.inj h
         exact (call_wQ (r := (.tup [(true, [.int .i64 2, .int .i64 ((x7.L.length : Nat) : Int), .seq (viewL (eL e_u8 [])), .seq (viewL (eL (e_sl e_u8) [])), .seq (viewL (eL e_GValue []))]), (false, [.int .i64 0])], [])) [.cl (ok_spec_l7wants a0 _ hr1), ⟨.lenS r1, .i ((r1.length : Nat) : Int), rfl⟩, .eF c2, ⟨.lenS r1, .i ((r1.length : Nat) : Int), rfl⟩, .le e_GValue a1, .eT c3, .nt true, .lp (gl_spec_l7call_l0 a0 a1 r1 0 0 [] [] [] _ true 0 _ ho4), .nt true, ⟨.bytes (eL e_u8 a0), .s a0, A.bytes⟩, .sT c6, ⟨.nat 0, .n 0, rfl⟩, .ix hx7 (eq_GValue x7), .eF c8, ⟨.nat 0, .n 0, rfl⟩, .ix hx7 (eq_GValue x7), .le e_GValue x7.L] rfl fd_60 (by kernel_rfl)).trans (by simp only [viewL_eL E_u8, viewL_eL (E_sl e_u8), viewL_eL E_GValue] <;> rfl)
       ·rcases ite_some h with ⟨c7, h⟩ | ⟨c7, h⟩
        ·obtain ⟨x8, hx8, h⟩ := bs h
         obtain ⟨n9, h⟩ := need_some h
         obtain ⟨x10, hx10, h⟩ := bs h
         obtain ⟨n11, h⟩ := need_some h
         obtain ⟨⟨r12_0, r12_1⟩, hr12, h⟩ := bs h
         try dsimp only at h
         obtain rfl := Option.some.inj h
         exact call_wQ [.cl (ok_spec_l7wants a0 _ hr1), ⟨.lenS r1, .i ((r1.length : Nat) : Int), rfl⟩, .eF c2, ⟨.lenS r1, .i ((r1.length : Nat) : Int), rfl⟩, .le e_GValue a1, .eT c3, .nt true, .lp (gl_spec_l7call_l0 a0 a1 r1 0 0 [] [] [] _ true 0 _ ho4), .nt true, ⟨.bytes (eL e_u8 a0), .s a0, A.bytes⟩, .sF c6, .sT c7, ⟨.nat 0, .n 0, rfl⟩, .ix hx8 (eq_GValue x8), ⟨.room 1 (eL e_u8 []) (eL e_u8 x8.S), .b true, (A.room n9)⟩, ⟨.uni 1 (eL e_u8 x8.S), .b true, (A.uni E_u8)⟩, ⟨.app (eL e_u8 []) (eL e_u8 x8.S), .l (eL e_u8 x8.S), A.app0⟩, ⟨.nat 1, .n 1, rfl⟩, .ix hx10 (eq_GValue x10), ⟨.room 1 (eL e_u8 x8.S) (eL e_u8 x10.S), .b true, (A.room n11)⟩, ⟨.uni 1 (eL e_u8 x10.S), .b true, (A.uni E_u8)⟩, ⟨.app (eL e_u8 x8.S) (eL e_u8 x10.S), .l (eL e_u8 (x8.S ++ x10.S)), A.app⟩, ⟨.view (eL e_u8 (x8.S ++ x10.S)), .l (eL e_u8 (x8.S ++ x10.S)), (A.view E_u8)⟩, ⟨.view (eL (e_sl e_u8) []), .l (eL (e_sl e_u8) []), (A.view (E_sl e_u8))⟩, ⟨.view (eL e_GValue []), .l (eL e_GValue []), (A.view E_GValue)⟩, .cl (ok_spec_l7made (GValue.mk 3 0 (x8.S ++ x10.S) [] []) _ hr12)] rfl fd_60 (by kernel_rfl)
        ·rcases ite_some h with ⟨c8, h⟩ | ⟨c8, h⟩
         ·obtain ⟨⟨o9_0, o9_1⟩, ho9, h⟩ := bs h
          try dsimp only at h
          obtain rfl := Option.some.inj h
          exact (call_wQ (r := (.tup [(true, [.int .i64 4, .int .i64 0, .seq (viewL (eL e_u8 [])), .seq (viewL (eL (e_sl e_u8) [])), .seq (viewL (eL e_GValue o9_1))]), (false, [.int .i64 0])], [])) [.cl (ok_spec_l7wants a0 _ hr1), ⟨.lenS r1, .i ((r1.length : Nat) : Int), rfl⟩, .eF c2, ⟨.lenS r1, .i ((r1.length : Nat) : Int), rfl⟩, .le e_GValue a1, .eT c3, .nt true, .lp (gl_spec_l7call_l0 a0 a1 r1 0 0 [] [] [] _ true 0 _ ho4), .nt true, ⟨.bytes (eL e_u8 a0), .s a0, A.bytes⟩, .sF c6, .sF c7, .sT c8, .lp (gl_spec_l7call_l1 a1 0 0 4 0 [] [] [] [] [] _ 0 [] _ ho9)] rfl fd_60 (by kernel_rfl)).trans (by simp only [viewL_eL E_u8, viewL_eL (E_sl e_u8), viewL_eL E_GValue] <;> rfl)
         ·rcases ite_some h with ⟨c9, h⟩ | ⟨c9, h⟩
          ·obtain ⟨x10, hx10, h⟩ := bs h
           obtain rfl := Option.some.inj h
           exact (call_wQ (r := (.tup [(true, [.int .i64 4, .int .i64 0, .seq (viewL (eL e_u8 [])), .seq (viewL (eL (e_sl e_u8) [])), .seq (eL e_GValue x10.L)]), (false, [.int .i64 0])], [])) [.cl (ok_spec_l7wants a0 _ hr1), ⟨.lenS r1, .i ((r1.length : Nat) : Int), rfl⟩, .eF c2, ⟨.lenS r1, .i ((r1.length : Nat) : Int), rfl⟩, .le e_GValue a1, .eT c3, .nt true, .lp (gl_spec_l7call_l0 a0 a1 r1 0 0 [] [] [] _ true 0 _ ho4), .nt true, ⟨.bytes (eL e_u8 a0), .s a0, A.bytes⟩, .sF c6, .sF c7, .sF c8, .sT c9, ⟨.nat 0, .n 0, rfl⟩, .ix hx10 (eq_GValue x10)] rfl fd_60 (by kernel_rfl)).trans (by simp only [viewL_eL E_u8, viewL_eL (E_sl e_u8)] <;> rfl)
          ·rcases ite_some h with ⟨c10, h⟩ | ⟨c10, h⟩
           ·obtain ⟨x11, hx11, h⟩ := bs h
            obtain ⟨x12, hx12, h⟩ := bs h
            obtain ⟨r13, hr13, h⟩ := bs h
            rcases ite_some h with ⟨c14, h⟩ | ⟨c14, h⟩
            ·obtain ⟨r15, hr15, h⟩ := bs h
             obtain rfl := Option.some.inj h
             exact (call_wQ (r := (.tup [(true, [.int .i64 r15.Kind, .int .i64 r15.N, .seq (viewL (eL e_u8 r15.S)), .seq (viewL (eL (o_sl 1 e_u8) r15.K)), .seq (viewL (eL o_GValue r15.L))]), (false, [.int .i64 0])], [])) [.cl (ok_spec_l7wants a0 _ hr1), ⟨.lenS r1, .i ((r1.length : Nat) : Int), rfl⟩, .eF c2, ⟨.lenS r1, .i ((r1.length : Nat) : Int), rfl⟩, .le e_GValue a1, .eT c3, .nt true, .lp (gl_spec_l7call_l0 a0 a1 r1 0 0 [] [] [] _ true 0 _ ho4), .nt true, ⟨.bytes (eL e_u8 a0), .s a0, A.bytes⟩, .sF c6, .sF c7, .sF c8, .sF c9, .sT c10, ⟨.nat 0, .n 0, rfl⟩, .ix hx11 (eq_GValue x11), ⟨.nat 1, .n 1, rfl⟩, .ix hx12 (eq_GValue x12), .cl (ok_spec_l2find x11 x12.S _ hr13), .gT c14, .cl (ok_spec_l7bool true _ hr15)] rfl fd_60 (by kernel_rfl)).trans (by simp only [viewL_eL E_u8, viewL_oL (O_sl 1 O_u8), viewL_oL O_GValue] <;> rfl)
            ·obtain ⟨r15, hr15, h⟩ := bs h
             obtain rfl := Option.some.inj h
             exact (call_wQ (r := (.tup [(true, [.int .i64 r15.Kind, .int .i64 r15.N, .seq (viewL (eL e_u8 r15.S)), .seq (viewL (eL (o_sl 1 e_u8) r15.K)), .seq (viewL (eL o_GValue r15.L))]), (false, [.int .i64 0])], [])) [.cl (ok_spec_l7wants a0 _ hr1), ⟨.lenS r1, .i ((r1.length : Nat) : Int), rfl⟩, .eF c2, ⟨.lenS r1, .i ((r1.length : Nat) : Int), rfl⟩, .le e_GValue a1, .eT c3, .nt true, .lp (gl_spec_l7call_l0 a0 a1 r1 0 0 [] [] [] _ true 0 _ ho4), .nt true, ⟨.bytes (eL e_u8 a0), .s a0, A.bytes⟩, .sF c6, .sF c7, .sF c8, .sF c9, .sT c10, ⟨.nat 0, .n 0, rfl⟩, .ix hx11 (eq_GValue x11), ⟨.nat 1, .n 1, rfl⟩, .ix hx12 (eq_GValue x12), .cl (ok_spec_l2find x11 x12.S _ hr13), .gF c14, .cl (ok_spec_l7bool false _ hr15)] rfl fd_60 (by kernel_rfl)).trans (by simp only [viewL_eL E_u8, viewL_oL (O_sl 1 O_u8), viewL_oL O_GValue] <;> rfl)
           ·rcases ite_some h with ⟨c11, h⟩ | ⟨c11, h⟩
            ·obtain ⟨x12, hx12, h⟩ := bs h
             obtain ⟨x13, hx13, h⟩ := bs h
             rcases ite_some h with ⟨c14, h⟩ | ⟨c14, h⟩
             ·obtain rfl := Option.some.inj h
              exact call_wQ [.cl (ok_spec_l7wants a0 _ hr1), ⟨.lenS r1, .i ((r1.length : Nat) : Int), rfl⟩, .eF c2, ⟨.lenS r1, .i ((r1.length : Nat) : Int), rfl⟩, .le e_GValue a1, .eT c3, .nt true, .lp (gl_spec_l7call_l0 a0 a1 r1 0 0 [] [] [] _ true 0 _ ho4), .nt true, ⟨.bytes (eL e_u8 a0), .s a0, A.bytes⟩, .sF c6, .sF c7, .sF c8, .sF c9, .sF c10, .sT c11, ⟨.nat 1, .n 1, rfl⟩, .ix hx12 (eq_GValue x12), ⟨.nat 0, .n 0, rfl⟩, .ix hx13 (eq_GValue x13), .lT c14, ⟨.nat 1, .n 1, rfl⟩, .ix hx12 (eq_GValue x12)] rfl fd_60 (by kernel_rfl)
             ·obtain rfl := Option.some.inj h
              exact call_wQ [.cl (ok_spec_l7wants a0 _ hr1), ⟨.lenS r1, .i ((r1.length : Nat) : Int), rfl⟩, .eF c2, ⟨.lenS r1, .i ((r1.length : Nat) : Int), rfl⟩, .le e_GValue a1, .eT c3, .nt true, .lp (gl_spec_l7call_l0 a0 a1 r1 0 0 [] [] [] _ true 0 _ ho4), .nt true, ⟨.bytes (eL e_u8 a0), .s a0, A.bytes⟩, .sF c6, .sF c7, .sF c8, .sF c9, .sF c10, .sT c11, ⟨.nat 1, .n 1, rfl⟩, .ix hx12 (eq_GValue x12), ⟨.nat 0, .n 0, rfl⟩, .ix hx13 (eq_GValue x13), .lF c14, ⟨.nat 0, .n 0, rfl⟩, .ix hx13 (eq_GValue x13)] rfl fd_60 (by kernel_rfl)
            ·obtain ⟨x12, hx12, h⟩ := bs h
             obtain ⟨x13, hx13, h⟩ := bs h
             rcases ite_some h with ⟨c14, h⟩ | ⟨c14, h⟩
             ·obtain rfl := Option.some.inj h
              exact call_wQ [.cl (ok_spec_l7wants a0 _ hr1), ⟨.lenS r1, .i ((r1.length : Nat) : Int), rfl⟩, .eF c2, ⟨.lenS r1, .i ((r1.length : Nat) : Int), rfl⟩, .le e_GValue a1, .eT c3, .nt true, .lp (gl_spec_l7call_l0 a0 a1 r1 0 0 [] [] [] _ true 0 _ ho4), .nt true, ⟨.bytes (eL e_u8 a0), .s a0, A.bytes⟩, .sF c6, .sF c7, .sF c8, .sF c9, .sF c10, .sF c11, ⟨.nat 1, .n 1, rfl⟩, .ix hx12 (eq_GValue x12), ⟨.nat 0, .n 0, rfl⟩, .ix hx13 (eq_GValue x13), .lT c14, ⟨.nat 1, .n 1, rfl⟩, .ix hx12 (eq_GValue x12)] rfl fd_60 (by kernel_rfl)
             ·obtain rfl := Option.some.inj h
              exact call_wQ [.cl (ok_spec_l7wants a0 _ hr1), ⟨.lenS r1, .i ((r1.length : Nat) : Int), rfl⟩, .eF c2, ⟨.lenS r1, .i ((r1.length : Nat) : Int), rfl⟩, .le e_GValue a1, .eT c3, .nt true, .lp (gl_spec_l7call_l0 a0 a1 r1 0 0 [] [] [] _ true 0 _ ho4), .nt true, ⟨.bytes (eL e_u8 a0), .s a0, A.bytes⟩, .sF c6, .sF c7, .sF c8, .sF c9, .sF c10, .sF c11, ⟨.nat 1, .n 1, rfl⟩, .ix hx12 (eq_GValue x12), ⟨.nat 0, .n 0, rfl⟩, .ix hx13 (eq_GValue x13), .lF c14, ⟨.nat 0, .n 0, rfl⟩, .ix hx13 (eq_GValue x13)] rfl fd_60 (by kernel_rfl)
      | false =>
       try dsimp only at h
       obtain ⟨r6, hr6, h⟩ := bs h
       obtain rfl := Option.some.inj h
       exact (call_wQ (r := (.tup [(true, [.int .i64 r6.Kind, .int .i64 r6.N, .seq (viewL (eL e_u8 r6.S)), .seq (viewL (eL (o_sl 1 e_u8) r6.K)), .seq (viewL (eL o_GValue r6.L))]), (false, [.int .i64 0])], [])) [.cl (ok_spec_l7wants a0 _ hr1), ⟨.lenS r1, .i ((r1.length : Nat) : Int), rfl⟩, .eF c2, ⟨.lenS r1, .i ((r1.length : Nat) : Int), rfl⟩, .le e_GValue a1, .eT c3, .nt true, .lp (gl_spec_l7call_l0 a0 a1 r1 0 0 [] [] [] _ true 0 _ ho4), .nt false, .cl (ok_spec_l7unknown  _ hr6)] rfl fd_60 (by kernel_rfl)).trans (by simp only [viewL_eL E_u8, viewL_oL (O_sl 1 O_u8), viewL_oL O_GValue] <;> rfl)
   ·obtain rfl := Option.some.inj h
    exact (call_wQ (r := (.tup [(true, [.int .i64 0, .int .i64 0, .seq (viewL (eL e_u8 [])), .seq (viewL (eL (e_sl e_u8) [])), .seq (viewL (eL e_GValue []))]), (false, [.int .i64 5])], [])) [.cl (ok_spec_l7wants a0 _ hr1), ⟨.lenS r1, .i ((r1.length : Nat) : Int), rfl⟩, .eF c2, ⟨.lenS r1, .i ((r1.length : Nat) : Int), rfl⟩, .le e_GValue a1, .eF c3, .nt false] rfl fd_60 (by kernel_rfl)).trans (by simp only [viewL_eL E_u8, viewL_eL (E_sl e_u8), viewL_eL E_GValue] <;> rfl)

theorem wantsC_eq (a : List UInt8) : S_spec_l7wants a = some (wantsC a) := by
  unfold S_spec_l7wants wantsC
  by_cases h : a = [108, 101, 110]
  · rw [if_pos h, if_pos h]
  rw [if_neg h, if_neg h]
  clear h
  by_cases h : a = [99, 97, 116]
  · rw [if_pos h, if_pos h]
  rw [if_neg h, if_neg h]
  clear h
  by_cases h : a = [107, 101, 121, 115]
  · rw [if_pos h, if_pos h]
  rw [if_neg h, if_neg h]
  clear h
  by_cases h : a = [118, 97, 108, 115]
  · rw [if_pos h, if_pos h]
  rw [if_neg h, if_neg h]
  clear h
  by_cases h : a = [104, 97, 115]
  · rw [if_pos h, if_pos h]
  rw [if_neg h, if_neg h]
  clear h
  by_cases h : a = [109, 105, 110]
  · rw [if_pos h, if_pos h]
  rw [if_neg h, if_neg h]
  clear h
  by_cases h : a = [109, 97, 120]
  · rw [if_pos h, if_pos h]
  rw [if_neg h, if_neg h]
theorem fits_eq (x : GValue) (c : UInt8) : S_spec_l7fits x c = some (fitB x c) := by
  unfold S_spec_l7fits fitB
  by_cases h1 : ((c.toNat : Nat) : Int) = 116
  · rw [if_pos h1, if_pos h1]
  rw [if_neg h1, if_neg h1]
  by_cases h2 : ((c.toNat : Nat) : Int) = 105
  · rw [if_pos h2, if_pos h2]
  rw [if_neg h2, if_neg h2]
  by_cases h3 : ((c.toNat : Nat) : Int) = 109
  · rw [if_pos h3, if_pos h3]
  rw [if_neg h3, if_neg h3]
  by_cases h4 : x.Kind = 3
  · rw [if_pos h4]; simp [h4]
  by_cases h5 : x.Kind = 4
  · rw [if_neg h4, if_pos h5]; simp [h5]
  · rw [if_neg h4, if_neg h5]; simp [h4, h5]
theorem l7call_loop0 {a0 : List UInt8} {a1 : List GValue} {v2 : List UInt8} {v5 v6 : Int} {v7 : List UInt8} {v8 : List (List UInt8)} {v9 : List GValue} (ha : a1.length ≤ 2 ^ 40) : ∀ (l p : List GValue) (cs q : List UInt8) (m : Nat) (b : Bool), a1 = p ++ l → v2 = q ++ cs → q.length = p.length → cs.length = l.length → l.length < m →
    ∃ z, L_spec_l7call_l0 a0 a1 v2 v5 v6 v7 v8 v9 m b ((p.length : Nat) : Int) = some (if argsF cs l = true then .inr (b && knownA l, z) else .inl (2, 0, [], [], [])) := by
  intro l
  induction l with
  | nil =>
    intro p cs q m b he h2 hq hc hm
    subst he
    obtain ⟨m, rfl, _⟩ := fuel hm
    obtain rfl := List.length_eq_zero_iff.1 hc
    exact ⟨_, by rw [L_spec_l7call_l0, if_neg (nlt_end p)]; simp [argsF, knownA]; rfl⟩
  | cons x l ih =>
    intro p cs q m b he h2 hq hc hm
    obtain ⟨m, rfl, hm'⟩ := fuel hm
    have hlen : a1.length = p.length + (l.length + 1) := by rw [he]; simp
    cases cs with
    | nil => simp at hc
    | cons c cs =>
    simp only [List.length_cons] at hc hm'
    rw [L_spec_l7call_l0, if_pos (by omega), natO_nat, Option.bind_some, show a1[p.length]? = some x by rw [he]; exact get_mid p x l, Option.bind_some, w64_len p x (by omega)]
    have ihb := fun b => ih (p ++ [x]) cs (q ++ [c]) m b (by rw [he]; simp) (by rw [h2]; simp) (by simp [hq]) (by omega) (by omega)
    rw [argsF]
    unfold knownA
    rw [List.all_cons]
    by_cases h6 : x.Kind = 6
    · obtain ⟨z, hz⟩ := ihb false
      refine ⟨z, ?_⟩
      rw [if_pos h6, hz]
      simp [h6]
    · rw [if_neg h6, show v2[p.length]? = some c by rw [h2, ← hq]; exact get_mid q c cs, Option.bind_some, fits_eq, Option.bind_some]
      cases hf : fitB x c with
      | true =>
        obtain ⟨z, hz⟩ := ihb b
        refine ⟨z, ?_⟩
        dsimp only
        rw [hz]
        simp [h6, knownA]
      | false =>
        exact ⟨0, by simp [h6]⟩
theorem l7call_loop1 {a1 : List GValue} {x : GValue} {v2 v3 v4 v5 : Int} {v6 : List UInt8} {v7 : List (List UInt8)} {v8 : List GValue} {v9 : List UInt8} {v10 : List (List UInt8)} (h0 : a1[0]? = some x) (hx : x.K.length ≤ 2 ^ 39) : ∀ (l p : List (List UInt8)) (m : Nat), x.K = p ++ l → l.length < m → ∃ z, L_spec_l7call_l1 a1 v2 v3 v4 v5 v6 v7 v8 v9 v10 m ((p.length : Nat) : Int) (p.map fun k => GValue.mk 3 0 k [] []) = some (z, x.K.map fun k => GValue.mk 3 0 k [] []) := by
  intro l
  induction l with
  | nil =>
    intro p m he hm
    obtain ⟨m, rfl, _⟩ := fuel hm
    exact ⟨_, by rw [L_spec_l7call_l1, h0, Option.bind_some, he, if_neg (nlt_end p), List.append_nil]⟩
  | cons y l ih =>
    intro p m he hm
    obtain ⟨m, rfl, hm'⟩ := fuel hm
    have hlen : x.K.length = p.length + (l.length + 1) := by rw [he]; simp
    obtain ⟨z, hz⟩ := ih (p ++ [y]) m (by rw [he]; simp) (by simp only [List.length_cons] at hm'; omega)
    refine ⟨z, ?_⟩
    rw [L_spec_l7call_l1, h0, Option.bind_some, if_pos (by omega), natO_nat, Option.bind_some, show x.K[p.length]? = some y by rw [he]; exact get_mid p y l, Option.bind_some, if_pos (room_ok (by decide) (by simp only [List.length_map, List.length_cons, List.length_nil]; omega)), w64_len p y (by omega)]
    rw [List.map_append] at hz
    exact hz
theorem valOkS_eq {v : GValue} (h : vsz v ≤ 2 ^ 20) : S_spec_ValOk v = some (valB v) := by
  unfold S_spec_ValOk S_spec_l2ok
  rw [if_pos ⟨h, by decide, by decide, by decide⟩, Option.bind_some]
  congr 1
  unfold okV valB
  rw [show (6 - (1 : Int)).toNat = 5 from rfl]
  by_cases hc : shV 5 v = true ∧ (ptV v : Int) ≤ 40
  · rw [if_pos hc, decide_eq_true hc]; exact decide_eq_true (by omega)
  · rw [if_neg hc, decide_eq_false hc]; rfl
theorem valB_text (s : List UInt8) : valB (.mk 3 0 s [] []) = textB s := by
  unfold valB
  have h1 : shV 5 (.mk 3 0 s [] []) = textB s := by
    simp [shV, locV, GValue.Kind, GValue.N, GValue.S, GValue.K, GValue.L]
  have h2 : ptV (.mk 3 0 s [] []) = 1 := by simp [ptV, ptVs]
  rw [h1, h2]
  cases textB s <;> simp
theorem text_app {s t : List UInt8} (hs : textB s = true) (ht : textB t = true) : textB (s ++ t) = decide ((s ++ t).length ≤ 20) := by
  unfold textB at hs ht ⊢
  rw [Bool.and_eq_true] at hs ht
  rw [List.all_append, hs.2, ht.2]; simp
theorem val3 {v : GValue} (h : valB v = true) (hk : v.Kind = 3) : textB v.S = true := by
  have := (valB_loc h).1
  unfold locV at this
  rw [if_neg (by omega), if_neg (by omega), if_neg (by omega), if_pos hk, Bool.and_eq_true] at this
  exact this.1
theorem val2 {v : GValue} (h : valB v = true) (hk : v.Kind = 2) : v = .mk 2 v.N [] [] [] := by
  have := (valB_loc h).1
  unfold locV at this
  rw [if_neg (by omega), if_neg (by omega), if_pos hk] at this
  have := of_decide_eq_true this
  obtain ⟨k, n, s, kk, l⟩ := v
  simp only [GValue.Kind, GValue.S, GValue.K, GValue.L, GValue.N] at *
  obtain ⟨_, h1, h2, h3⟩ := this
  subst hk
  rw [List.length_eq_zero_iff.1 h1, List.length_eq_zero_iff.1 h2, List.length_eq_zero_iff.1 h3]
theorem val5 {v : GValue} (h : valB v = true) (hk : v.Kind = 5) : Asc v.K ∧ v.K.length ≤ 40 := by
  have := (valB_loc h).1
  unfold locV at this
  rw [if_neg (by omega), if_neg (by omega), if_neg (by omega), if_neg (by omega), if_neg (by omega), if_pos hk, Bool.and_eq_true] at this
  have h1 := of_decide_eq_true this.1
  exact ⟨kAll_asc this.2, by omega⟩
theorem one_of {α : Type} {l : List α} (h : 1 = l.length) : ∃ x, l = [x] := List.length_eq_one_iff.1 h.symm
theorem two_of {α : Type} {l : List α} (h : 2 = l.length) : ∃ x y, l = [x, y] := by
  match l, h with
  | [x, y], _ => exact ⟨x, y, rfl⟩
theorem l7call_T {a0 : List UInt8} {a1 : List GValue} (hv : ∀ v ∈ a1, vsz v ≤ 2 ^ 20 ∧ valB v = true) (hl : a1.length ≤ 40) : T_spec_l7call 64 a0 a1 = some (callR a0 a1) := by
  unfold T_spec_l7call callR
  rw [wantsC_eq, Option.bind_some]
  by_cases h0 : (wantsC a0).length = 0
  · rw [if_pos (by omega), if_pos h0]; rfl
  rw [if_neg (by omega), if_neg h0]
  by_cases he : (wantsC a0).length = a1.length
  case neg =>
    rw [if_neg (by omega), if_neg he]; rfl
  rw [if_pos (by omega), if_pos he]
  obtain ⟨z, hz⟩ := l7call_loop0 (a0 := a0) (a1 := a1) (v2 := wantsC a0) (v5 := 0) (v6 := 0) (v7 := []) (v8 := []) (v9 := []) (by omega) a1 [] (wantsC a0) [] 64 true rfl rfl rfl he (by omega)
  simp only [List.length_nil, Int.natCast_zero] at hz
  rw [hz, Option.bind_some]
  by_cases hA : argsF (wantsC a0) a1 = true
  case neg =>
    rw [if_neg hA, if_neg hA]; rfl
  rw [if_pos hA, if_pos hA]
  dsimp only
  by_cases hK : knownA a1 = true
  case neg =>
    rw [if_neg hK, Bool.eq_false_iff.2 hK]; rfl
  rw [if_pos hK, hK]
  simp only [Bool.and_self]
  clear hz
  by_cases n1 : a0 = [108, 101, 110]
  · subst n1
    rw [show wantsC [108, 101, 110] = [99] from rfl] at he hA
    obtain ⟨x, rfl⟩ := one_of he
    have hx := hv x (by simp)
    simp only [argsF, knownA, List.all_cons, List.all_nil, fit_t, fit_i, fit_m, fit_c, Bool.and_true, Bool.or_eq_true, decide_eq_true_eq] at hA hK
    rw [if_pos rfl]
    show (if x.Kind = 3 then _ else _ : Option (GValue × Int)) = some (appR _ x _)
    rw [appR_len]
    by_cases h3 : x.Kind = 3
    · rw [if_pos h3, if_pos h3]
    · rw [if_neg h3, if_neg h3]
  rw [if_neg n1]
  by_cases n1 : a0 = [99, 97, 116]
  · subst n1
    rw [show wantsC [99, 97, 116] = [116, 116] from rfl] at he hA
    obtain ⟨x, y, rfl⟩ := two_of he
    have hx := hv x (by simp)
    have hy := hv y (by simp)
    simp only [argsF, knownA, List.all_cons, List.all_nil, fit_t, fit_i, fit_m, fit_c, Bool.and_true, Bool.and_eq_true, Bool.or_eq_true, decide_eq_true_eq] at hA hK
    have k1 : x.Kind = 3 := hA.1.resolve_left hK.1
    have k2 : y.Kind = 3 := hA.2.resolve_left hK.2
    have t1 := val3 hx.2 k1
    have t2 := val3 hy.2 k2
    have l1 : x.S.length ≤ 20 := by unfold textB at t1; rw [Bool.and_eq_true] at t1; exact of_decide_eq_true t1.1
    have l2 : y.S.length ≤ 20 := by unfold textB at t2; rw [Bool.and_eq_true] at t2; exact of_decide_eq_true t2.1
    rw [if_pos rfl, show ([x, y] : List GValue)[0]? = some x from rfl, Option.bind_some, if_pos (room_ok (by decide) (by omega)), show ([x, y] : List GValue)[1]? = some y from rfl, Option.bind_some, if_pos (room_ok (by decide) (by omega))]
    unfold S_spec_l7made
    rw [valOkS_eq (by simp [vsz, vszs, bsz]; omega), valB_text, text_app t1 t2]
    show _ = some (appR _ x y)
    rw [appR_cat]
    by_cases h20 : (x.S ++ y.S).length ≤ 20
    · rw [decide_eq_true h20, if_neg (by omega)]; rfl
    · rw [decide_eq_false h20, if_pos (by omega)]; rfl
  rw [if_neg n1]
  by_cases n1 : a0 = [107, 101, 121, 115]
  · subst n1
    rw [show wantsC [107, 101, 121, 115] = [109] from rfl] at he hA
    obtain ⟨x, rfl⟩ := one_of he
    have hx := hv x (by simp)
    simp only [argsF, knownA, List.all_cons, List.all_nil, fit_t, fit_i, fit_m, fit_c, Bool.and_true, Bool.or_eq_true, decide_eq_true_eq] at hA hK
    have k1 : x.Kind = 5 := hA.resolve_left hK
    rw [if_pos rfl]
    have h5 := (val5 hx.2 k1).2
    obtain ⟨z, hz⟩ := l7call_loop1 (a1 := [x]) (x := x) (v2 := 0) (v3 := 0) (v4 := 4) (v5 := 0) (v6 := []) (v7 := []) (v8 := []) (v9 := []) (v10 := []) rfl (by omega) x.K [] 64 rfl (by omega)
    simp only [List.length_nil, Int.natCast_zero, List.map_nil] at hz
    rw [hz]
    show _ = some (appR _ x _)
    rw [appR_keys]; rfl
  rw [if_neg n1]
  by_cases n1 : a0 = [118, 97, 108, 115]
  · subst n1
    rw [show wantsC [118, 97, 108, 115] = [109] from rfl] at he hA
    obtain ⟨x, rfl⟩ := one_of he
    have hx := hv x (by simp)
    simp only [argsF, knownA, List.all_cons, List.all_nil, fit_t, fit_i, fit_m, fit_c, Bool.and_true, Bool.or_eq_true, decide_eq_true_eq] at hA hK
    rw [if_pos rfl]
    show _ = some (appR _ x _)
    rw [appR_vals]; rfl
  rw [if_neg n1]
  by_cases n1 : a0 = [104, 97, 115]
  · subst n1
    rw [show wantsC [104, 97, 115] = [109, 116] from rfl] at he hA
    obtain ⟨x, y, rfl⟩ := two_of he
    have hx := hv x (by simp)
    have hy := hv y (by simp)
    simp only [argsF, knownA, List.all_cons, List.all_nil, fit_t, fit_i, fit_m, fit_c, Bool.and_true, Bool.and_eq_true, Bool.or_eq_true, decide_eq_true_eq] at hA hK
    have k1 : x.Kind = 5 := hA.1.resolve_left hK.1
    have h5 := (val5 hx.2 k1).2
    rw [if_pos rfl, show ([x, y] : List GValue)[0]? = some x from rfl, Option.bind_some, show ([x, y] : List GValue)[1]? = some y from rfl, Option.bind_some]
    unfold S_spec_l2find S_spec_l7bool
    rw [if_pos (by omega), Option.bind_some]
    show _ = some (appR _ x y)
    rw [appR_has]
    by_cases hm : y.S ∈ x.K
    · rw [if_pos (by rw [ixB_pos]; exact hm), if_pos hm]; rfl
    · rw [if_neg (by rw [ixB_pos]; exact hm), if_neg hm]; rfl
  rw [if_neg n1]
  by_cases n1 : a0 = [109, 105, 110]
  · subst n1
    rw [show wantsC [109, 105, 110] = [105, 105] from rfl] at he hA
    obtain ⟨x, y, rfl⟩ := two_of he
    have hx := hv x (by simp)
    have hy := hv y (by simp)
    simp only [argsF, knownA, List.all_cons, List.all_nil, fit_t, fit_i, fit_m, fit_c, Bool.and_true, Bool.and_eq_true, Bool.or_eq_true, decide_eq_true_eq] at hA hK
    have k1 : x.Kind = 2 := hA.1.resolve_left hK.1
    have k2 : y.Kind = 2 := hA.2.resolve_left hK.2
    rw [if_pos rfl, show ([x, y] : List GValue)[1]? = some y from rfl, Option.bind_some, show ([x, y] : List GValue)[0]? = some x from rfl, Option.bind_some]
    show _ = some (appR _ x y)
    rw [appR_min]
    by_cases hm : y.N < x.N
    · rw [if_pos hm, if_pos hm, ← val2 hy.2 k2]
    · rw [if_neg hm, if_neg hm, ← val2 hx.2 k1]
  rw [if_neg n1]
  by_cases n1 : a0 = [109, 97, 120]
  · subst n1
    rw [show wantsC [109, 97, 120] = [105, 105] from rfl] at he hA
    obtain ⟨x, y, rfl⟩ := two_of he
    have hx := hv x (by simp)
    have hy := hv y (by simp)
    simp only [argsF, knownA, List.all_cons, List.all_nil, fit_t, fit_i, fit_m, fit_c, Bool.and_true, Bool.and_eq_true, Bool.or_eq_true, decide_eq_true_eq] at hA hK
    have k1 : x.Kind = 2 := hA.1.resolve_left hK.1
    have k2 : y.Kind = 2 := hA.2.resolve_left hK.2
    rw [show ([x, y] : List GValue)[1]? = some y from rfl, Option.bind_some, show ([x, y] : List GValue)[0]? = some x from rfl, Option.bind_some]
    show _ = some (appR _ x y)
    rw [appR_max]
    by_cases hm : x.N < y.N
    · rw [if_pos hm, if_pos hm, ← val2 hy.2 k2]
    · rw [if_neg hm, if_neg hm, ← val2 hx.2 k1]
  exfalso
  have : wantsC a0 = [] := by
    unfold wantsC
    simp [*]
  simp [this] at h0
open Classical in
noncomputable def S_spec_l7call (a0 : (List UInt8)) (a1 : (List GValue)) : Option (GValue × Int) := if (∀ v ∈ a1, vsz v ≤ 2 ^ 20 ∧ valB v = true) ∧ a1.length ≤ 40 then some (callR a0 a1) else none
theorem spec_spec_l7call (a0 : (List UInt8)) (a1 : (List GValue)) (r : (GValue × Int)) (h : S_spec_l7call a0 a1 = some r) : ∃ n, T_spec_l7call n a0 a1 = some r := by
  unfold S_spec_l7call at h
  obtain ⟨⟨hv, hl⟩, h⟩ := need_c h
  exact ⟨64, by rw [l7call_T hv hl, h]⟩
theorem ok_spec_l7call (a0 : (List UInt8)) (a1 : (List GValue)) (r : (GValue × Int)) (h : S_spec_l7call a0 a1 = some r) : (mach cfg).call 60 [] [.val false [.seq (eL e_u8 a0)], .val false [.seq (eL e_GValue a1)]] = some (.tup [(true, [.int .i64 r.1.Kind, .int .i64 r.1.N, .seq (eL e_u8 r.1.S), .seq (eL (e_sl e_u8) r.1.K), .seq (eL e_GValue r.1.L)]), (false, [.int .i64 r.2])], []) := by
  obtain ⟨n, hn⟩ := spec_spec_l7call a0 a1 r h
  exact g_spec_l7call n a0 a1 r hn
def L_spec_l2own_l0 (G_spec_l2own : GValue → Option GValue) (a0 : GValue) (v2 : Int) (v3 : Int) (v4 : Int) (v5 : Int) (v6 : (List UInt8)) (v7 : (List (List UInt8))) (v8 : (List GValue)) (v9 : (List UInt8)) (v11 : (List GValue)) : Nat → Int → (List (List UInt8)) → Option (Int × (List (List UInt8)))
  | 0, _, _ => none
  | m + 1, v0, v10 =>
    if v0 < ((a0.K.length : Nat) : Int) then
      (natO v0).bind fun i2 =>
      (a0.K[i2]?).bind fun x3 =>
      if roomP 1 (0 + x3.length) then
      if roomP 24 (v10.length + [x3].length) then
      L_spec_l2own_l0 G_spec_l2own a0 v2 v3 v4 v5 v6 v7 v8 v9 v11 m (w64 (v0 + 1)) (v10 ++ [x3])
      else none
      else none
    else
      some (v0, v10)

theorem gl_spec_l2own_l0 (G_spec_l2own : GValue → Option GValue) (H_spec_l2own : ∀ (a0 : GValue) (r : GValue), G_spec_l2own a0 = some r → (mach cfg).call 61 [] [.val true [.int .i64 a0.Kind, .int .i64 a0.N, .seq (eL e_u8 a0.S), .seq (eL (e_sl e_u8) a0.K), .seq (eL e_GValue a0.L)]] = some (.val true [.int .i64 r.Kind, .int .i64 r.N, .own 1 (eL e_u8 r.S), .own 1 (eL (o_sl 1 e_u8) r.K), .own 5 (eL o_GValue r.L)], [])) (a0 : GValue) (v2 : Int) (v3 : Int) (v4 : Int) (v5 : Int) (v6 : (List UInt8)) (v7 : (List (List UInt8))) (v8 : (List GValue)) (v9 : (List UInt8)) (v11 : (List GValue)) (m : Nat) : ∀ (v0 : Int) (v10 : (List (List UInt8))) (o : (Int × (List (List UInt8)))), L_spec_l2own_l0 G_spec_l2own a0 v2 v3 v4 v5 v6 v7 v8 v9 v11 m v0 v10 = some o → (mach cfg).loop 61 (loopB Try.f61 0) ⟨[(1, .val false [.ptr 0 0]), (2, .val false [.ptr 1 0]), (3, .val false [.ptr 2 0]), (4, .val false [.int .i64 v0])], [.var [.int .i64 a0.Kind, .int .i64 a0.N, .seq (eL e_u8 a0.S), .seq (eL (e_sl e_u8) a0.K), .seq (eL e_GValue a0.L)], .var [.int .i64 v2, .int .i64 v3, .ref 3, .ref 4, .ref 5], .var [.int .i64 v4, .int .i64 v5, .ref 6, .ref 7, .ref 8], .obj 1 (eL e_u8 v6), .obj 1 (eL (o_sl 1 e_u8) v7), .obj 5 (eL o_GValue v8), .obj 1 (eL e_u8 v9), .obj 1 (eL (o_sl 1 e_u8) v10), .obj 5 (eL o_GValue v11)], 0⟩ = some (match o with | ⟨o_0, o_1⟩ => (.exit 0, (⟨[(1, .val false [.ptr 0 0]), (2, .val false [.ptr 1 0]), (3, .val false [.ptr 2 0]), (4, .val false [.int .i64 o_0]), (19, .val false [.bool false])], [.var [.int .i64 a0.Kind, .int .i64 a0.N, .seq (eL e_u8 a0.S), .seq (eL (e_sl e_u8) a0.K), .seq (eL e_GValue a0.L)], .var [.int .i64 v2, .int .i64 v3, .ref 3, .ref 4, .ref 5], .var [.int .i64 v4, .int .i64 v5, .ref 6, .ref 7, .ref 8], .obj 1 (eL e_u8 v6), .obj 1 (eL (o_sl 1 e_u8) v7), .obj 5 (eL o_GValue v8), .obj 1 (eL e_u8 v9), .obj 1 (eL (o_sl 1 e_u8) o_1), .obj 5 (eL o_GValue v11)], 0⟩ : S))) := by
  induction m with
  | zero => intro v0 v10 o h; cases h
  | succ m ih =>
    intro v0 v10 o h
    rw [L_spec_l2own_l0] at h
    rcases ite_some h with ⟨c1, h⟩ | ⟨c1, h⟩
    ·obtain ⟨i2, hi2, h⟩ := bs h
     obtain ⟨x3, hx3, h⟩ := bs h
     obtain ⟨n4, h⟩ := need_some h
     obtain ⟨n5, h⟩ := need_some h
     exact loop_nQ [.le (e_sl e_u8) a0.K, .lT c1, .na hi2, .ix0 (e_sl e_u8) hx3, ⟨.room 1 (eL e_u8 []) (eL e_u8 x3), .b true, (A.room n4)⟩, ⟨.uni 1 (eL e_u8 x3), .b true, (A.uni E_u8)⟩, ⟨.app (eL e_u8 []) (eL e_u8 x3), .l (eL e_u8 x3), A.app0⟩, ⟨.room 24 (eL (o_sl 1 e_u8) v10) (eL (o_sl 1 e_u8) [x3]), .b true, (A.room n5)⟩, ⟨.uni 1 (eL (o_sl 1 e_u8) [x3]), .b true, (A.uniO (O_sl 1 O_u8))⟩, ⟨.app (eL (o_sl 1 e_u8) v10) (eL (o_sl 1 e_u8) [x3]), .l (eL (o_sl 1 e_u8) (v10 ++ [x3])), A.app⟩, .ad v0 1] (by kernel_rfl) (ih (w64 (v0 + 1)) (v10 ++ [x3]) o h)
    ·obtain rfl := Option.some.inj h
     exact loop_eQ [.le (e_sl e_u8) a0.K, .lF c1] (by kernel_rfl) (by intro h; cases h)

def L_spec_l2own_l1 (G_spec_l2own : GValue → Option GValue) (a0 : GValue) (v2 : Int) (v3 : Int) (v4 : Int) (v5 : Int) (v6 : (List UInt8)) (v7 : (List (List UInt8))) (v8 : (List GValue)) (v9 : (List UInt8)) (v10 : (List (List UInt8))) : Nat → Int → (List GValue) → Option (Int × (List GValue))
  | 0, _, _ => none
  | m + 1, v0, v11 =>
    if v0 < ((a0.L.length : Nat) : Int) then
      (natO v0).bind fun i2 =>
      (a0.L[i2]?).bind fun x3 =>
      (G_spec_l2own x3).bind fun r4 =>
      if roomP 88 (v11.length + [r4].length) then
      L_spec_l2own_l1 G_spec_l2own a0 v2 v3 v4 v5 v6 v7 v8 v9 v10 m (w64 (v0 + 1)) (v11 ++ [r4])
      else none
    else
      some (v0, v11)

theorem gl_spec_l2own_l1 (G_spec_l2own : GValue → Option GValue) (H_spec_l2own : ∀ (a0 : GValue) (r : GValue), G_spec_l2own a0 = some r → (mach cfg).call 61 [] [.val true [.int .i64 a0.Kind, .int .i64 a0.N, .seq (eL e_u8 a0.S), .seq (eL (e_sl e_u8) a0.K), .seq (eL e_GValue a0.L)]] = some (.val true [.int .i64 r.Kind, .int .i64 r.N, .own 1 (eL e_u8 r.S), .own 1 (eL (o_sl 1 e_u8) r.K), .own 5 (eL o_GValue r.L)], [])) (a0 : GValue) (v2 : Int) (v3 : Int) (v4 : Int) (v5 : Int) (v6 : (List UInt8)) (v7 : (List (List UInt8))) (v8 : (List GValue)) (v9 : (List UInt8)) (v10 : (List (List UInt8))) (m : Nat) : ∀ (v0 : Int) (v11 : (List GValue)) (o : (Int × (List GValue))), L_spec_l2own_l1 G_spec_l2own a0 v2 v3 v4 v5 v6 v7 v8 v9 v10 m v0 v11 = some o → (mach cfg).loop 61 (loopB Try.f61 1) ⟨[(1, .val false [.ptr 0 0]), (2, .val false [.ptr 1 0]), (3, .val false [.ptr 2 0]), (5, .val false [.int .i64 v0])], [.var [.int .i64 a0.Kind, .int .i64 a0.N, .seq (eL e_u8 a0.S), .seq (eL (e_sl e_u8) a0.K), .seq (eL e_GValue a0.L)], .var [.int .i64 v2, .int .i64 v3, .ref 3, .ref 4, .ref 5], .var [.int .i64 v4, .int .i64 v5, .ref 6, .ref 7, .ref 8], .obj 1 (eL e_u8 v6), .obj 1 (eL (o_sl 1 e_u8) v7), .obj 5 (eL o_GValue v8), .obj 1 (eL e_u8 v9), .obj 1 (eL (o_sl 1 e_u8) v10), .obj 5 (eL o_GValue v11)], 0⟩ = some (match o with | ⟨o_0, o_1⟩ => (.exit 2, (⟨[(1, .val false [.ptr 0 0]), (2, .val false [.ptr 1 0]), (3, .val false [.ptr 2 0]), (5, .val false [.int .i64 o_0]), (38, .val false [.bool false])], [.var [.int .i64 a0.Kind, .int .i64 a0.N, .seq (eL e_u8 a0.S), .seq (eL (e_sl e_u8) a0.K), .seq (eL e_GValue a0.L)], .var [.int .i64 v2, .int .i64 v3, .ref 3, .ref 4, .ref 5], .var [.int .i64 v4, .int .i64 v5, .ref 6, .ref 7, .ref 8], .obj 1 (eL e_u8 v6), .obj 1 (eL (o_sl 1 e_u8) v7), .obj 5 (eL o_GValue v8), .obj 1 (eL e_u8 v9), .obj 1 (eL (o_sl 1 e_u8) v10), .obj 5 (eL o_GValue o_1)], 0⟩ : S))) := by
  induction m with
  | zero => intro v0 v11 o h; cases h
  | succ m ih =>
    intro v0 v11 o h
    rw [L_spec_l2own_l1] at h
    rcases ite_some h with ⟨c1, h⟩ | ⟨c1, h⟩
    ·obtain ⟨i2, hi2, h⟩ := bs h
     obtain ⟨x3, hx3, h⟩ := bs h
     obtain ⟨r4, hr4, h⟩ := bs h
     obtain ⟨n5, h⟩ := need_some h
     exact loop_nQ [.le e_GValue a0.L, .lT c1, .na hi2, .ix hx3 (eq_GValue x3), .cl (H_spec_l2own x3 _ hr4), ⟨.room 88 (eL o_GValue v11) ([[.int .i64 r4.Kind, .int .i64 r4.N, .own 1 (eL e_u8 r4.S), .own 1 (eL (o_sl 1 e_u8) r4.K), .own 5 (eL o_GValue r4.L)]] : List (List C)), .b true, by rw [(show ([[.int .i64 r4.Kind, .int .i64 r4.N, .own 1 (eL e_u8 r4.S), .own 1 (eL (o_sl 1 e_u8) r4.K), .own 5 (eL o_GValue r4.L)]] : List (List C)) = eL o_GValue [r4] from (raw_cons (oeq_GValue r4) raw_nil))]; exact (A.room n5)⟩, ⟨.uni 5 ([[.int .i64 r4.Kind, .int .i64 r4.N, .own 1 (eL e_u8 r4.S), .own 1 (eL (o_sl 1 e_u8) r4.K), .own 5 (eL o_GValue r4.L)]] : List (List C)), .b true, by rw [(show ([[.int .i64 r4.Kind, .int .i64 r4.N, .own 1 (eL e_u8 r4.S), .own 1 (eL (o_sl 1 e_u8) r4.K), .own 5 (eL o_GValue r4.L)]] : List (List C)) = eL o_GValue [r4] from (raw_cons (oeq_GValue r4) raw_nil))]; exact (A.uniO O_GValue)⟩, ⟨.app (eL o_GValue v11) ([[.int .i64 r4.Kind, .int .i64 r4.N, .own 1 (eL e_u8 r4.S), .own 1 (eL (o_sl 1 e_u8) r4.K), .own 5 (eL o_GValue r4.L)]] : List (List C)), .l (eL o_GValue (v11 ++ [r4])), by rw [(show ([[.int .i64 r4.Kind, .int .i64 r4.N, .own 1 (eL e_u8 r4.S), .own 1 (eL (o_sl 1 e_u8) r4.K), .own 5 (eL o_GValue r4.L)]] : List (List C)) = eL o_GValue [r4] from (raw_cons (oeq_GValue r4) raw_nil))]; exact A.app⟩, .ad v0 1] (by kernel_rfl) (ih (w64 (v0 + 1)) (v11 ++ [r4]) o h)
    ·obtain rfl := Option.some.inj h
     exact loop_eQ [.le e_GValue a0.L, .lF c1] (by kernel_rfl) (by intro h; cases h)

def T_spec_l2own (G_spec_l2own : GValue → Option GValue) (n : Nat) (a0 : GValue) : Option GValue :=
  if roomP 1 (0 + a0.S.length) then
  (L_spec_l2own_l0 G_spec_l2own a0 0 0 a0.Kind a0.N [] [] [] a0.S [] n 0 []).bind fun ⟨o2_0, o2_1⟩ =>
  (L_spec_l2own_l1 G_spec_l2own a0 0 0 a0.Kind a0.N [] [] [] a0.S o2_1 n 0 []).bind fun ⟨o3_0, o3_1⟩ =>
  some (GValue.mk a0.Kind a0.N a0.S o2_1 o3_1)
  else none

set_option maxRecDepth 100000 in
theorem fd_61 : cfg.funcs 61 = some (bodyOf Try.f61, Try.f61.ntmps, Try.f61.results.toList) := fn_of Try.func61 (by kernel_rfl) (by kernel_rfl)
theorem g_spec_l2own (G_spec_l2own : GValue → Option GValue) (H_spec_l2own : ∀ (a0 : GValue) (r : GValue), G_spec_l2own a0 = some r → (mach cfg).call 61 [] [.val true [.int .i64 a0.Kind, .int .i64 a0.N, .seq (eL e_u8 a0.S), .seq (eL (e_sl e_u8) a0.K), .seq (eL e_GValue a0.L)]] = some (.val true [.int .i64 r.Kind, .int .i64 r.N, .own 1 (eL e_u8 r.S), .own 1 (eL (o_sl 1 e_u8) r.K), .own 5 (eL o_GValue r.L)], [])) (n : Nat) (a0 : GValue) (r : GValue) (h : T_spec_l2own G_spec_l2own n a0 = some r) : (mach cfg).call 61 [] [.val true [.int .i64 a0.Kind, .int .i64 a0.N, .seq (eL e_u8 a0.S), .seq (eL (e_sl e_u8) a0.K), .seq (eL e_GValue a0.L)]] = some (.val true [.int .i64 r.Kind, .int .i64 r.N, .own 1 (eL e_u8 r.S), .own 1 (eL (o_sl 1 e_u8) r.K), .own 5 (eL o_GValue r.L)], []) := by
  unfold T_spec_l2own at h
  obtain ⟨n1, h⟩ := need_some h
  obtain ⟨⟨o2_0, o2_1⟩, ho2, h⟩ := bs h
  try dsimp only at h
  obtain ⟨⟨o3_0, o3_1⟩, ho3, h⟩ := bs h
  try dsimp only at h
  obtain rfl := Option.some.inj h
  exact call_wQ [⟨.room 1 (eL e_u8 []) (eL e_u8 a0.S), .b true, (A.room n1)⟩, ⟨.uni 1 (eL e_u8 a0.S), .b true, (A.uni E_u8)⟩, ⟨.app (eL e_u8 []) (eL e_u8 a0.S), .l (eL e_u8 a0.S), A.app0⟩, .lp (gl_spec_l2own_l0 G_spec_l2own H_spec_l2own a0 0 0 a0.Kind a0.N [] [] [] a0.S [] _ 0 [] _ ho2), .lp (gl_spec_l2own_l1 G_spec_l2own H_spec_l2own a0 0 0 a0.Kind a0.N [] [] [] a0.S o2_1 _ 0 [] _ ho3)] rfl fd_61 (by kernel_rfl)

def U_spec_l2own : Nat → GValue → Option GValue
  | 0, _ => none
  | n + 1, a0 => T_spec_l2own (U_spec_l2own n) n a0
theorem rec_spec_l2own (n : Nat) : (∀ (a0 : GValue) (r : GValue), U_spec_l2own n a0 = some r → (mach cfg).call 61 [] [.val true [.int .i64 a0.Kind, .int .i64 a0.N, .seq (eL e_u8 a0.S), .seq (eL (e_sl e_u8) a0.K), .seq (eL e_GValue a0.L)]] = some (.val true [.int .i64 r.Kind, .int .i64 r.N, .own 1 (eL e_u8 r.S), .own 1 (eL (o_sl 1 e_u8) r.K), .own 5 (eL o_GValue r.L)], [])) := by
  induction n with
  | zero => exact fun _ _ h => (by rw [U_spec_l2own] at h; cases h)
  | succ n ih =>
    have ih_spec_l2own := ih
    exact fun a0 r h => g_spec_l2own (U_spec_l2own n) ih_spec_l2own n a0 r (by rw [U_spec_l2own] at h; exact h)
theorem l2own_loop0 {G : GValue → Option GValue} {a : GValue} {v2 v3 v4 v5 : Int} {v6 : List UInt8} {v7 : List (List UInt8)} {v8 : List GValue} {v9 : List UInt8} {v11 : List GValue} (ha : bsz a.K ≤ 2 ^ 39) : ∀ (l p : List (List UInt8)) (m : Nat), a.K = p ++ l → l.length < m → ∃ z, L_spec_l2own_l0 G a v2 v3 v4 v5 v6 v7 v8 v9 v11 m ((p.length : Nat) : Int) p = some (z, a.K) := by
  have hl := bsz_len a.K
  intro l
  induction l with
  | nil =>
    intro p m he hm
    obtain ⟨m, rfl, _⟩ := fuel hm
    exact ⟨_, by rw [L_spec_l2own_l0, he, if_neg (nlt_end p)]; simp; rfl⟩
  | cons x l ih =>
    intro p m he hm
    obtain ⟨m, rfl, hm'⟩ := fuel hm
    have hx : 1 + x.length ≤ bsz a.K := bsz_mem (by rw [he]; simp)
    have hlen : a.K.length = p.length + (l.length + 1) := by rw [he]; simp
    obtain ⟨z, hz⟩ := ih (p ++ [x]) m (by rw [he]; simp) (by simp only [List.length_cons] at hm'; omega)
    refine ⟨z, ?_⟩
    rw [L_spec_l2own_l0, if_pos (by rw [he]; exact lt_mid p x l), natO_nat, Option.bind_some, show a.K[p.length]? = some x by rw [he]; exact get_mid p x l, Option.bind_some, if_pos (room_ok (by decide) (by omega)), if_pos (room_ok (by decide) (by simp only [List.length_cons, List.length_nil]; omega)), w64_len p x (by omega), hz]
theorem l2own_loop1 {G : GValue → Option GValue} {a : GValue} {v2 v3 v4 v5 : Int} {v6 : List UInt8} {v7 : List (List UInt8)} {v8 : List GValue} {v9 : List UInt8} {v10 : List (List UInt8)} (ha : vszs a.L ≤ 2 ^ 39) : ∀ (l p : List GValue) (m : Nat), a.L = p ++ l → (∀ x ∈ l, G x = some x) → l.length < m → ∃ z, L_spec_l2own_l1 G a v2 v3 v4 v5 v6 v7 v8 v9 v10 m ((p.length : Nat) : Int) p = some (z, a.L) := by
  have hl := vszs_len a.L
  intro l
  induction l with
  | nil =>
    intro p m he _ hm
    obtain ⟨m, rfl, _⟩ := fuel hm
    exact ⟨_, by rw [L_spec_l2own_l1, he, if_neg (nlt_end p)]; simp; rfl⟩
  | cons x l ih =>
    intro p m he hG hm
    obtain ⟨m, rfl, hm'⟩ := fuel hm
    have hlen : a.L.length = p.length + (l.length + 1) := by rw [he]; simp
    obtain ⟨z, hz⟩ := ih (p ++ [x]) m (by rw [he]; simp) (fun y hy => hG y (List.mem_cons_of_mem _ hy)) (by simp only [List.length_cons] at hm'; omega)
    refine ⟨z, ?_⟩
    rw [L_spec_l2own_l1, if_pos (by omega), natO_nat, Option.bind_some, show a.L[p.length]? = some x by rw [he]; exact get_mid p x l, Option.bind_some, hG x List.mem_cons_self, Option.bind_some, if_pos (room_ok (by decide) (by simp only [List.length_cons, List.length_nil]; omega)), w64_len p x (by omega), hz]
theorem l2own_U : ∀ (N : Nat) (v : GValue), vsz v < N → vsz v ≤ 2 ^ 39 → ∀ f : Nat, vsz v + 2 ≤ f → U_spec_l2own f v = some v := by
  intro N
  induction N with
  | zero => intro v hv; omega
  | succ N ih =>
    intro v hv hs f hf
    obtain ⟨f, rfl, _⟩ := fuel (show 0 < f by omega)
    have he := vsz_eq v
    have hl := vszs_len v.L
    have hb := bsz_len v.K
    rw [U_spec_l2own]
    unfold T_spec_l2own
    rw [if_pos (room_ok (by decide) (by omega))]
    obtain ⟨y, hy⟩ := l2own_loop0 (G := U_spec_l2own f) (a := v) (v2 := 0) (v3 := 0) (v4 := v.Kind) (v5 := v.N) (v6 := []) (v7 := []) (v8 := []) (v9 := v.S) (v11 := []) (by omega) v.K [] f rfl (by omega)
    simp only [List.length_nil, Int.natCast_zero] at hy
    rw [hy, Option.bind_some]
    dsimp only
    obtain ⟨z, hz⟩ := l2own_loop1 (G := U_spec_l2own f) (a := v) (v2 := 0) (v3 := 0) (v4 := v.Kind) (v5 := v.N) (v6 := []) (v7 := []) (v8 := []) (v9 := v.S) (v10 := v.K) (by omega) v.L [] f rfl (fun x hx => by
      have := vszs_mem hx
      exact ih x (by omega) (by omega) f (by omega)) (by omega)
    simp only [List.length_nil, Int.natCast_zero] at hz
    rw [hz]
    exact congrArg some (GValue.eta v)
def S_spec_l2own (a0 : GValue) : Option GValue := if vsz a0 ≤ 2 ^ 39 then some a0 else none
theorem spec_spec_l2own (a0 : GValue) (r : GValue) (h : S_spec_l2own a0 = some r) : ∃ n, U_spec_l2own n a0 = some r := by
  unfold S_spec_l2own at h
  obtain ⟨ha, h⟩ := need_c h
  exact ⟨vsz a0 + 2, by rw [← h]; exact l2own_U _ a0 (Nat.lt_succ_self _) ha _ (Nat.le_refl _)⟩
theorem ok_spec_l2own (a0 : GValue) (r : GValue) (h : S_spec_l2own a0 = some r) : (mach cfg).call 61 [] [.val true [.int .i64 a0.Kind, .int .i64 a0.N, .seq (eL e_u8 a0.S), .seq (eL (e_sl e_u8) a0.K), .seq (eL e_GValue a0.L)]] = some (.val true [.int .i64 r.Kind, .int .i64 r.N, .own 1 (eL e_u8 r.S), .own 1 (eL (o_sl 1 e_u8) r.K), .own 5 (eL o_GValue r.L)], []) := by
  obtain ⟨n, hn⟩ := spec_spec_l2own a0 r h
  exact (rec_spec_l2own n) a0 r hn
def L_spec_Call_l0 (a0 : (List UInt8)) (a1 : (List GValue)) (v3 : Int) (v4 : Int) (v5 : (List UInt8)) (v6 : (List (List UInt8))) (v7 : (List GValue)) : Nat → Int → Option ((Int × Int × (List UInt8) × (List (List UInt8)) × (List GValue)) ⊕ Int)
  | 0, _ => none
  | m + 1, v2 =>
    if v2 < ((a1.length : Nat) : Int) then
      (natO v2).bind fun i2 =>
      (a1[i2]?).bind fun x3 =>
      (S_spec_ValOk x3).bind fun r4 =>
      match r4 with
      | true =>
        L_spec_Call_l0 a0 a1 v3 v4 v5 v6 v7 m (w64 (v2 + 1))
      | false =>
        some (.inl (1, 0, [], [], []))
    else
      some (.inr v2)

theorem gl_spec_Call_l0 (a0 : (List UInt8)) (a1 : (List GValue)) (v3 : Int) (v4 : Int) (v5 : (List UInt8)) (v6 : (List (List UInt8))) (v7 : (List GValue)) (m : Nat) : ∀ (v2 : Int) (o : ((Int × Int × (List UInt8) × (List (List UInt8)) × (List GValue)) ⊕ Int)), L_spec_Call_l0 a0 a1 v3 v4 v5 v6 v7 m v2 = some o → (mach cfg).loop 24 (loopB Try.f24 0) ⟨[(0, .val false [.seq (eL e_u8 a0)]), (1, .val false [.seq (eL e_GValue a1)]), (4, .val false [.ptr 0 0]), (6, .val false [.int .i64 v2])], [.var [.int .i64 v3, .int .i64 v4, .ref 1, .ref 2, .ref 3], .obj 1 (eL e_u8 v5), .obj 1 (eL (e_sl e_u8) v6), .obj 5 (eL e_GValue v7)], 0⟩ = some (match o with | .inl ⟨o_0_0, o_0_1, o_0_2, o_0_3, o_0_4⟩ => (.ret, (⟨[(4, .val false [.ptr 0 0]), (5, .val false [.int .i64 o_0_0])], [.var [.int .i64 o_0_1, .int .i64 o_0_1, .ref 1, .ref 2, .ref 3], .obj 1 (eL e_u8 o_0_2), .obj 1 (eL (e_sl e_u8) o_0_3), .obj 5 (eL e_GValue o_0_4)], 0⟩ : S)) | .inr (o_1) => (.exit 0, (⟨[(0, .val false [.seq (eL e_u8 a0)]), (1, .val false [.seq (eL e_GValue a1)]), (4, .val false [.ptr 0 0]), (6, .val false [.int .i64 o_1]), (16, .val false [.bool false])], [.var [.int .i64 v3, .int .i64 v4, .ref 1, .ref 2, .ref 3], .obj 1 (eL e_u8 v5), .obj 1 (eL (e_sl e_u8) v6), .obj 5 (eL e_GValue v7)], 0⟩ : S))) := by
  induction m with
  | zero => intro v2 o h; cases h
  | succ m ih =>
    intro v2 o h
    rw [L_spec_Call_l0] at h
    rcases ite_some h with ⟨c1, h⟩ | ⟨c1, h⟩
    ·obtain ⟨i2, hi2, h⟩ := bs h
     obtain ⟨x3, hx3, h⟩ := bs h
     obtain ⟨r4, hr4, h⟩ := bs h
     cases r4 with
     | true =>
      try dsimp only at h
      exact loop_nQ [.le e_GValue a1, .lT c1, .na hi2, .ix hx3 (eq_GValue x3), .cl (ok_spec_ValOk x3 _ hr4), .nt true, .ad v2 1] (by kernel_rfl) (ih (w64 (v2 + 1)) o h)
     | false =>
      try dsimp only at h
      obtain rfl := Option.some.inj h
      exact loop_eQ [.le e_GValue a1, .lT c1, .na hi2, .ix hx3 (eq_GValue x3), .cl (ok_spec_ValOk x3 _ hr4), .nt false] (by kernel_rfl) (by intro h; cases h)
    ·obtain rfl := Option.some.inj h
     exact loop_eQ [.le e_GValue a1, .lF c1] (by kernel_rfl) (by intro h; cases h)

def T_spec_Call (n : Nat) (a0 : (List UInt8)) (a1 : (List GValue)) : Option (GValue × Int) :=
  if 40 < ((a1.length : Nat) : Int) then
    some ((GValue.mk 0 0 [] [] []), 1)
  else
    (L_spec_Call_l0 a0 a1 0 0 [] [] [] n 0).bind fun o2 =>
    match o2 with
    | .inl ⟨o2_0_0, o2_0_1, o2_0_2, o2_0_3, o2_0_4⟩ =>
      some ((GValue.mk o2_0_1 o2_0_1 o2_0_2 o2_0_3 o2_0_4), o2_0_0)
    | .inr (o2_1) =>
      (S_spec_l7call a0 a1).bind fun ⟨r3_0, r3_1⟩ =>
      (S_spec_l2own r3_0).bind fun r4 =>
      some (r4, r3_1)

set_option maxRecDepth 100000 in
theorem fd_24 : cfg.funcs 24 = some (bodyOf Try.f24, Try.f24.ntmps, Try.f24.results.toList) := fn_of Try.func24 (by kernel_rfl) (by kernel_rfl)
theorem g_spec_Call (n : Nat) (a0 : (List UInt8)) (a1 : (List GValue)) (r : (GValue × Int)) (h : T_spec_Call n a0 a1 = some r) : (mach cfg).call 24 [] [.val false [.seq (eL e_u8 a0)], .val false [.seq (eL e_GValue a1)]] = some (.tup [(true, [.int .i64 r.1.Kind, .int .i64 r.1.N, .seq (eL e_u8 r.1.S), .seq (eL (e_sl e_u8) r.1.K), .seq (eL e_GValue r.1.L)]), (false, [.int .i64 r.2])], []) := by
  unfold T_spec_Call at h
  rcases ite_some h with ⟨c1, h⟩ | ⟨c1, h⟩
  ·obtain rfl := Option.some.inj h
   exact (call_wQ (r := (.tup [(true, [.int .i64 0, .int .i64 0, .seq (viewL (eL e_u8 [])), .seq (viewL (eL (e_sl e_u8) [])), .seq (viewL (eL e_GValue []))]), (false, [.int .i64 1])], [])) [.le e_GValue a1, .lT c1] rfl fd_24 (by kernel_rfl)).trans (by simp only [viewL_eL E_u8, viewL_eL (E_sl e_u8), viewL_eL E_GValue] <;> rfl)
  ·obtain ⟨o2, ho2, h⟩ := bs h
   rcases o2 with ⟨o2_0_0, o2_0_1, o2_0_2, o2_0_3, o2_0_4⟩ | o2_1
   · try dsimp only at h
     obtain rfl := Option.some.inj h
     exact (call_wQ (r := (.tup [(true, [.int .i64 o2_0_1, .int .i64 o2_0_1, .seq (viewL (eL e_u8 o2_0_2)), .seq (viewL (eL (e_sl e_u8) o2_0_3)), .seq (viewL (eL e_GValue o2_0_4))]), (false, [.int .i64 o2_0_0])], [])) [.le e_GValue a1, .lF c1, .lp (gl_spec_Call_l0 a0 a1 0 0 [] [] [] _ 0 _ ho2)] rfl fd_24 (by kernel_rfl)).trans (by simp only [viewL_eL E_u8, viewL_eL (E_sl e_u8), viewL_eL E_GValue] <;> rfl)
   · try dsimp only at h
     obtain ⟨⟨r3_0, r3_1⟩, hr3, h⟩ := bs h
     try dsimp only at h
     obtain ⟨r4, hr4, h⟩ := bs h
     obtain rfl := Option.some.inj h
     exact (call_wQ (r := (.tup [(true, [.int .i64 r4.Kind, .int .i64 r4.N, .seq (viewL (eL e_u8 r4.S)), .seq (viewL (eL (o_sl 1 e_u8) r4.K)), .seq (viewL (eL o_GValue r4.L))]), (false, [.int .i64 r3_1])], [])) [.le e_GValue a1, .lF c1, .lp (gl_spec_Call_l0 a0 a1 0 0 [] [] [] _ 0 _ ho2), .cl (ok_spec_l7call a0 a1 _ hr3), .cl (ok_spec_l2own r3_0 _ hr4)] rfl fd_24 (by kernel_rfl)).trans (by simp only [viewL_eL E_u8, viewL_oL (O_sl 1 O_u8), viewL_oL O_GValue] <;> rfl)

theorem specCall_loop {a0 : List UInt8} {a1 : List GValue} {v3 v4 : Int} {v5 : List UInt8} {v6 : List (List UInt8)} {v7 : List GValue} (ha : a1.length ≤ 2 ^ 40) (hs : ∀ v ∈ a1, vsz v ≤ 2 ^ 20) : ∀ (l p : List GValue) (m : Nat), a1 = p ++ l → l.length < m → ∃ z, L_spec_Call_l0 a0 a1 v3 v4 v5 v6 v7 m ((p.length : Nat) : Int) = some (if l.all valB = true then .inr z else .inl (1, 0, [], [], [])) := by
  intro l
  induction l with
  | nil =>
    intro p m he hm
    subst he
    obtain ⟨m, rfl, _⟩ := fuel hm
    exact ⟨_, by rw [L_spec_Call_l0, if_neg (nlt_end p)]; rfl⟩
  | cons x l ih =>
    intro p m he hm
    obtain ⟨m, rfl, hm'⟩ := fuel hm
    have hlen : a1.length = p.length + (l.length + 1) := by rw [he]; simp
    rw [L_spec_Call_l0, if_pos (by omega), natO_nat, Option.bind_some, show a1[p.length]? = some x by rw [he]; exact get_mid p x l, Option.bind_some, valOkS_eq (hs x (by rw [he]; simp)), Option.bind_some, w64_len p x (by omega)]
    by_cases hp : valB x = true
    · obtain ⟨z, hz⟩ := ih (p ++ [x]) m (by rw [he]; simp) (by simp only [List.length_cons] at hm'; omega)
      refine ⟨z, ?_⟩
      rw [hp, List.all_cons, hp, Bool.true_and]
      exact hz
    · exact ⟨0, by rw [Bool.eq_false_iff.2 hp, List.all_cons, Bool.eq_false_iff.2 hp]; rfl⟩
theorem vsz_app {a : List UInt8} {l : List GValue} (hs : ∀ v ∈ l, vsz v ≤ 2 ^ 20) : vsz (callS a l).1 ≤ 2 ^ 23 := by
  have z0 : vsz zV ≤ 2 ^ 23 := by simp [zV, vsz, vszs, bsz]
  have hg : ∀ i : Nat, vsz ((l[i]?).getD zV) ≤ 2 ^ 20 := fun i => by
    cases h : l[i]? with
    | none => simp [zV, vsz, vszs, bsz]
    | some v => exact hs v (List.mem_of_getElem? h)
  unfold callS callR
  split
  · exact z0
  split
  · split
    · exact z0
    split
    · split
      · split
        · have h0 := hg 0
          have h1 := hg 1
          generalize (l[0]?).getD zV = x at h0
          generalize (l[1]?).getD zV = y at h1
          have e0 := vsz_eq x
          have e1 := vsz_eq y
          have hk : ∀ k : List (List UInt8), vszs (k.map fun k => GValue.mk 3 0 k [] []) ≤ bsz k := by
            intro k
            induction k with
            | nil => simp [vszs]
            | cons b k ih =>
              have hb : vsz (GValue.mk 3 0 b [] []) = b.length := by simp [vsz, bsz, vszs]
              rw [bsz_cons]
              simp only [List.map_cons, vszs]
              omega
          have hkx := hk x.K
          unfold appR
          split
          · split <;> simp [vsz, vszs, bsz]
          split
          · split
            · exact z0
            · simp [vsz, vszs, bsz]; omega
          split
          · simp [vsz, bsz]; omega
          split
          · simp [vsz, bsz]; omega
          split
          · simp [vsz, vszs, bsz]
          split <;> simp [vsz, vszs, bsz]
        · simp [vsz, vszs, bsz]
      · exact z0
    · exact z0
  · exact z0
open Classical in
noncomputable def S_spec_Call (a0 : (List UInt8)) (a1 : (List GValue)) : Option (GValue × Int) := if (∀ v ∈ a1, vsz v ≤ 2 ^ 20) ∧ a1.length ≤ 2 ^ 39 then some (callS a0 a1) else none
theorem spec_spec_Call (a0 : (List UInt8)) (a1 : (List GValue)) (r : (GValue × Int)) (h : S_spec_Call a0 a1 = some r) : ∃ n, T_spec_Call n a0 a1 = some r := by
  unfold S_spec_Call at h
  obtain ⟨⟨hs, hl⟩, h⟩ := need_c h
  refine ⟨a1.length + 1, ?_⟩
  have hz0 := vsz_app (a := a0) hs
  rw [← h]
  unfold T_spec_Call
  unfold callS at hz0 ⊢
  by_cases h40 : 40 < a1.length
  · rw [if_pos (by omega), if_pos h40]; rfl
  rw [if_neg h40] at hz0
  rw [if_neg (by omega), if_neg h40]
  obtain ⟨z, hz⟩ := specCall_loop (a0 := a0) (a1 := a1) (v3 := 0) (v4 := 0) (v5 := []) (v6 := []) (v7 := []) (by omega) hs a1 [] (a1.length + 1) rfl (by omega)
  simp only [List.length_nil, Int.natCast_zero] at hz
  rw [hz, Option.bind_some]
  by_cases hv : a1.all valB = true
  · rw [if_pos hv] at hz0
    rw [if_pos hv, if_pos hv]
    dsimp only
    unfold S_spec_l7call S_spec_l2own
    rw [if_pos ⟨fun v hm => ⟨hs v hm, List.all_eq_true.1 hv v hm⟩, by omega⟩, Option.bind_some]
    rw [if_pos (by omega)]; rfl
  · rw [if_neg hv, if_neg hv]; rfl
theorem ok_spec_Call (a0 : (List UInt8)) (a1 : (List GValue)) (r : (GValue × Int)) (h : S_spec_Call a0 a1 = some r) : (mach cfg).call 24 [] [.val false [.seq (eL e_u8 a0)], .val false [.seq (eL e_GValue a1)]] = some (.tup [(true, [.int .i64 r.1.Kind, .int .i64 r.1.N, .seq (eL e_u8 r.1.S), .seq (eL (e_sl e_u8) r.1.K), .seq (eL e_GValue r.1.L)]), (false, [.int .i64 r.2])], []) := by
  obtain ⟨n, hn⟩ := spec_spec_Call a0 a1 r h
  exact g_spec_Call n a0 a1 r hn
def S_impl_in (a0 : Int) (a1 : Int) (a2 : Int) : Option Bool :=
  if a1 ≤ a0 then
    some (decide (a0 ≤ a2))
  else
    some false

set_option maxRecDepth 100000 in
theorem fd_82 : cfg.funcs 82 = some (bodyOf Try.f82, Try.f82.ntmps, Try.f82.results.toList) := fn_of Try.func82 (by kernel_rfl) (by kernel_rfl)
theorem ok_impl_in (a0 : Int) (a1 : Int) (a2 : Int) (r : Bool) (h : S_impl_in a0 a1 a2 = some r) : (mach cfg).call 82 [] [.val false [.int .i64 a0], .val false [.int .i64 a1], .val false [.int .i64 a2]] = some (.val false [.bool r], []) := by
  unfold S_impl_in at h
  rcases ite_some h with ⟨c1, h⟩ | ⟨c1, h⟩
  ·obtain rfl := Option.some.inj h
   exact call_wQ [.gT c1, .gD a0 a2] rfl fd_82 (by kernel_rfl)
  ·obtain rfl := Option.some.inj h
   exact call_wQ [.gF c1] rfl fd_82 (by kernel_rfl)

def L_impl_isText_l0 (a0 : (List UInt8)) (v1 : Int) : Nat → Int → Option (Bool ⊕ Int)
  | 0, _ => none
  | m + 1, v2 =>
    if v2 < v1 then
      (natO v2).bind fun i2 =>
      (a0[i2]?).bind fun x3 =>
      if ((x3.toNat : Nat) : Int) < 32 then
        some (.inl false)
      else
        if 126 < ((x3.toNat : Nat) : Int) then
          some (.inl false)
        else
          L_impl_isText_l0 a0 v1 m (w64 (v2 + 1))
    else
      some (.inr v2)

theorem gl_impl_isText_l0 (a0 : (List UInt8)) (v1 : Int) (m : Nat) : ∀ (v2 : Int) (o : (Bool ⊕ Int)), L_impl_isText_l0 a0 v1 m v2 = some o → (mach cfg).loop 109 (loopB Try.f109 0) ⟨[(0, .val false [.seq (eL e_u8 a0)]), (5, .val false [.seq (eL e_u8 a0)]), (6, .val false [.int .i64 v1]), (7, .val false [.int .i64 v2])], [], 0⟩ = some (match o with | .inl o_0 => (.ret, (⟨[(2, .val false [.bool o_0])], [], 0⟩ : S)) | .inr (o_1) => (.exit 0, (⟨[(0, .val false [.seq (eL e_u8 a0)]), (5, .val false [.seq (eL e_u8 a0)]), (6, .val false [.int .i64 v1]), (7, .val false [.int .i64 o_1]), (8, .val false [.bool false])], [], 0⟩ : S))) := by
  induction m with
  | zero => intro v2 o h; cases h
  | succ m ih =>
    intro v2 o h
    rw [L_impl_isText_l0] at h
    rcases ite_some h with ⟨c1, h⟩ | ⟨c1, h⟩
    ·obtain ⟨i2, hi2, h⟩ := bs h
     obtain ⟨x3, hx3, h⟩ := bs h
     rcases ite_some h with ⟨c4, h⟩ | ⟨c4, h⟩
     ·obtain rfl := Option.some.inj h
      exact loop_eQ [.lT c1, .na hi2, .ix0 e_u8 hx3, .lT c4] (by kernel_rfl) (by intro h; cases h)
     ·rcases ite_some h with ⟨c5, h⟩ | ⟨c5, h⟩
      ·obtain rfl := Option.some.inj h
       exact loop_eQ [.lT c1, .na hi2, .ix0 e_u8 hx3, .lF c4, .lT c5] (by kernel_rfl) (by intro h; cases h)
      ·exact loop_nQ [.lT c1, .na hi2, .ix0 e_u8 hx3, .lF c4, .lF c5, .ad v2 1] (by kernel_rfl) (ih (w64 (v2 + 1)) o h)
    ·obtain rfl := Option.some.inj h
     exact loop_eQ [.lF c1] (by kernel_rfl) (by intro h; cases h)

def T_impl_isText (n : Nat) (a0 : (List UInt8)) : Option Bool :=
  (L_impl_isText_l0 a0 ((a0.length : Nat) : Int) n 0).bind fun o1 =>
  match o1 with
  | .inl o1_0 =>
    some o1_0
  | .inr (o1_1) =>
    some (decide (((a0.length : Nat) : Int) ≤ 20))

set_option maxRecDepth 100000 in
theorem fd_109 : cfg.funcs 109 = some (bodyOf Try.f109, Try.f109.ntmps, Try.f109.results.toList) := fn_of Try.func109 (by kernel_rfl) (by kernel_rfl)
theorem g_impl_isText (n : Nat) (a0 : (List UInt8)) (r : Bool) (h : T_impl_isText n a0 = some r) : (mach cfg).call 109 [] [.val false [.seq (eL e_u8 a0)]] = some (.val false [.bool r], []) := by
  unfold T_impl_isText at h
  obtain ⟨o1, ho1, h⟩ := bs h
  rcases o1 with o1_0 | o1_1
  · try dsimp only at h
    obtain rfl := Option.some.inj h
    exact call_wQ [.le e_u8 a0, .lp (gl_impl_isText_l0 a0 ((a0.length : Nat) : Int) _ 0 _ ho1)] rfl fd_109 (by kernel_rfl)
  · try dsimp only at h
    obtain rfl := Option.some.inj h
    exact call_wQ [.le e_u8 a0, .lp (gl_impl_isText_l0 a0 ((a0.length : Nat) : Int) _ 0 _ ho1), .le e_u8 a0, .gD ((a0.length : Nat) : Int) 20] rfl fd_109 (by kernel_rfl)

theorem impl_isText_loop {a : List UInt8} (ha : a.length ≤ 2 ^ 20) : ∀ (d i m : Nat), i + d = a.length → d < m → ∃ z, L_impl_isText_l0 a (a.length : Int) m (i : Int) = some (if (a.drop i).all (inB 32 126) = true then .inr z else .inl false) := by
  intro d
  induction d with
  | zero =>
    intro i m hi hm
    obtain ⟨m, rfl, _⟩ := fuel hm
    exact ⟨_, by rw [L_impl_isText_l0, if_neg (by omega), List.drop_eq_nil_of_le (by omega)]; rfl⟩
  | succ d ih =>
    intro i m hi hm
    obtain ⟨m, rfl, hm'⟩ := fuel hm
    have hil : i < a.length := by omega
    rw [L_impl_isText_l0, if_pos (by omega), natO_nat, Option.bind_some, get_some hil, Option.bind_some, w64_succ (by omega), drop_cons hil, List.all_cons]
    by_cases h1 : ((a[i].toNat : Nat) : Int) < 32
    · exact ⟨0, by rw [if_pos h1, if_neg]; simp [inB]; omega⟩
    · rw [if_neg h1]
      by_cases h2 : (126 : Int) < ((a[i].toNat : Nat) : Int)
      · exact ⟨0, by rw [if_pos h2, if_neg]; simp [inB]; omega⟩
      · rw [if_neg h2, show inB 32 126 a[i] = true by simp [inB]; omega, Bool.true_and]
        exact ih (i + 1) m (by omega) (by omega)
def S_impl_isText (a0 : (List UInt8)) : Option Bool := if a0.length ≤ 2 ^ 20 then some (textB a0) else none
theorem spec_impl_isText (a0 : (List UInt8)) (r : Bool) (h : S_impl_isText a0 = some r) : ∃ n, T_impl_isText n a0 = some r := by
  unfold S_impl_isText at h
  obtain ⟨ha, h⟩ := need_c h
  refine ⟨a0.length + 1, ?_⟩
  obtain ⟨z, hz⟩ := impl_isText_loop ha a0.length 0 (a0.length + 1) (by omega) (by omega)
  rw [show ((0 : Nat) : Int) = 0 from rfl, List.drop_zero] at hz
  unfold T_impl_isText
  rw [← h, hz]
  unfold textB
  by_cases hl : a0.length ≤ 20
  · rw [decide_eq_true hl]
    cases a0.all (inB 32 126)
    · rfl
    · show some (decide _) = _; rw [decide_eq_true (by omega)]; rfl
  · rw [decide_eq_false hl]
    cases a0.all (inB 32 126)
    · rfl
    · show some (decide _) = _; rw [decide_eq_false (by omega)]; rfl
theorem ok_impl_isText (a0 : (List UInt8)) (r : Bool) (h : S_impl_isText a0 = some r) : (mach cfg).call 109 [] [.val false [.seq (eL e_u8 a0)]] = some (.val false [.bool r], []) := by
  obtain ⟨n, hn⟩ := spec_impl_isText a0 r h
  exact g_impl_isText n a0 r hn
def L_impl_isName_l0 (a0 : (List UInt8)) (v1 : Int) : Nat → Int → Option (Bool ⊕ Int)
  | 0, _ => none
  | m + 1, v2 =>
    if v2 < v1 then
      (natO v2).bind fun i2 =>
      (a0[i2]?).bind fun x3 =>
      if ((x3.toNat : Nat) : Int) < 97 then
        some (.inl false)
      else
        if 122 < ((x3.toNat : Nat) : Int) then
          some (.inl false)
        else
          L_impl_isName_l0 a0 v1 m (w64 (v2 + 1))
    else
      some (.inr v2)

theorem gl_impl_isName_l0 (a0 : (List UInt8)) (v1 : Int) (m : Nat) : ∀ (v2 : Int) (o : (Bool ⊕ Int)), L_impl_isName_l0 a0 v1 m v2 = some o → (mach cfg).loop 58 (loopB Try.f58 0) ⟨[(0, .val false [.seq (eL e_u8 a0)]), (5, .val false [.seq (eL e_u8 a0)]), (6, .val false [.int .i64 v1]), (7, .val false [.int .i64 v2])], [], 0⟩ = some (match o with | .inl o_0 => (.ret, (⟨[(2, .val false [.bool o_0])], [], 0⟩ : S)) | .inr (o_1) => (.exit 0, (⟨[(0, .val false [.seq (eL e_u8 a0)]), (5, .val false [.seq (eL e_u8 a0)]), (6, .val false [.int .i64 v1]), (7, .val false [.int .i64 o_1]), (8, .val false [.bool false])], [], 0⟩ : S))) := by
  induction m with
  | zero => intro v2 o h; cases h
  | succ m ih =>
    intro v2 o h
    rw [L_impl_isName_l0] at h
    rcases ite_some h with ⟨c1, h⟩ | ⟨c1, h⟩
    ·obtain ⟨i2, hi2, h⟩ := bs h
     obtain ⟨x3, hx3, h⟩ := bs h
     rcases ite_some h with ⟨c4, h⟩ | ⟨c4, h⟩
     ·obtain rfl := Option.some.inj h
      exact loop_eQ [.lT c1, .na hi2, .ix0 e_u8 hx3, .lT c4] (by kernel_rfl) (by intro h; cases h)
     ·rcases ite_some h with ⟨c5, h⟩ | ⟨c5, h⟩
      ·obtain rfl := Option.some.inj h
       exact loop_eQ [.lT c1, .na hi2, .ix0 e_u8 hx3, .lF c4, .lT c5] (by kernel_rfl) (by intro h; cases h)
      ·exact loop_nQ [.lT c1, .na hi2, .ix0 e_u8 hx3, .lF c4, .lF c5, .ad v2 1] (by kernel_rfl) (ih (w64 (v2 + 1)) o h)
    ·obtain rfl := Option.some.inj h
     exact loop_eQ [.lF c1] (by kernel_rfl) (by intro h; cases h)

def T_impl_isName (n : Nat) (a0 : (List UInt8)) : Option Bool :=
  (L_impl_isName_l0 a0 ((a0.length : Nat) : Int) n 0).bind fun o1 =>
  match o1 with
  | .inl o1_0 =>
    some o1_0
  | .inr (o1_1) =>
    (S_impl_in ((a0.length : Nat) : Int) 1 8).bind fun r2 =>
    some r2

set_option maxRecDepth 100000 in
theorem fd_58 : cfg.funcs 58 = some (bodyOf Try.f58, Try.f58.ntmps, Try.f58.results.toList) := fn_of Try.func58 (by kernel_rfl) (by kernel_rfl)
theorem g_impl_isName (n : Nat) (a0 : (List UInt8)) (r : Bool) (h : T_impl_isName n a0 = some r) : (mach cfg).call 58 [] [.val false [.seq (eL e_u8 a0)]] = some (.val false [.bool r], []) := by
  unfold T_impl_isName at h
  obtain ⟨o1, ho1, h⟩ := bs h
  rcases o1 with o1_0 | o1_1
  · try dsimp only at h
    obtain rfl := Option.some.inj h
    exact call_wQ [.le e_u8 a0, .lp (gl_impl_isName_l0 a0 ((a0.length : Nat) : Int) _ 0 _ ho1)] rfl fd_58 (by kernel_rfl)
  · try dsimp only at h
    obtain ⟨r2, hr2, h⟩ := bs h
    obtain rfl := Option.some.inj h
    exact call_wQ [.le e_u8 a0, .lp (gl_impl_isName_l0 a0 ((a0.length : Nat) : Int) _ 0 _ ho1), .le e_u8 a0, .cl (ok_impl_in ((a0.length : Nat) : Int) 1 8 _ hr2)] rfl fd_58 (by kernel_rfl)

theorem impl_isName_loop {a : List UInt8} (ha : a.length ≤ 2 ^ 20) : ∀ (d i m : Nat), i + d = a.length → d < m → ∃ z, L_impl_isName_l0 a (a.length : Int) m (i : Int) = some (if (a.drop i).all (inB 97 122) = true then .inr z else .inl false) := by
  intro d
  induction d with
  | zero =>
    intro i m hi hm
    obtain ⟨m, rfl, _⟩ := fuel hm
    exact ⟨_, by rw [L_impl_isName_l0, if_neg (by omega), List.drop_eq_nil_of_le (by omega)]; rfl⟩
  | succ d ih =>
    intro i m hi hm
    obtain ⟨m, rfl, hm'⟩ := fuel hm
    have hil : i < a.length := by omega
    rw [L_impl_isName_l0, if_pos (by omega), natO_nat, Option.bind_some, get_some hil, Option.bind_some, w64_succ (by omega), drop_cons hil, List.all_cons]
    by_cases h1 : ((a[i].toNat : Nat) : Int) < 97
    · exact ⟨0, by rw [if_pos h1, if_neg]; simp [inB]; omega⟩
    · rw [if_neg h1]
      by_cases h2 : (122 : Int) < ((a[i].toNat : Nat) : Int)
      · exact ⟨0, by rw [if_pos h2, if_neg]; simp [inB]; omega⟩
      · rw [if_neg h2, show inB 97 122 a[i] = true by simp [inB]; omega, Bool.true_and]
        exact ih (i + 1) m (by omega) (by omega)
theorem in_eq (a b c : Int) : S_impl_in a b c = some (decide (b ≤ a ∧ a ≤ c)) := by
  unfold S_impl_in
  by_cases h : b ≤ a
  · rw [if_pos h]; simp [h]
  · rw [if_neg h]; simp [h]
def S_impl_isName (a0 : (List UInt8)) : Option Bool := if a0.length ≤ 2 ^ 20 then some (nameB a0) else none
theorem spec_impl_isName (a0 : (List UInt8)) (r : Bool) (h : S_impl_isName a0 = some r) : ∃ n, T_impl_isName n a0 = some r := by
  unfold S_impl_isName at h
  obtain ⟨ha, h⟩ := need_c h
  refine ⟨a0.length + 1, ?_⟩
  obtain ⟨z, hz⟩ := impl_isName_loop ha a0.length 0 (a0.length + 1) (by omega) (by omega)
  rw [show ((0 : Nat) : Int) = 0 from rfl, List.drop_zero] at hz
  unfold T_impl_isName
  rw [← h, hz]
  unfold nameB
  have hd : decide (1 ≤ a0.length ∧ a0.length ≤ 8) = decide ((1 : Int) ≤ (a0.length : Int) ∧ (a0.length : Int) ≤ 8) := decide_eq_decide.2 (by omega)
  rw [hd]
  cases a0.all (inB 97 122)
  · rw [Bool.and_false]; rfl
  · rw [Bool.and_true]
    simp only [if_true, Option.bind_some, in_eq]
theorem ok_impl_isName (a0 : (List UInt8)) (r : Bool) (h : S_impl_isName a0 = some r) : (mach cfg).call 58 [] [.val false [.seq (eL e_u8 a0)]] = some (.val false [.bool r], []) := by
  obtain ⟨n, hn⟩ := spec_impl_isName a0 r h
  exact g_impl_isName n a0 r hn
def S_bytes_Compare (a0 : (List UInt8)) (a1 : (List UInt8)) : Option Int :=
  (S_internal_bytealg_Compare a0 a1).bind fun r1 =>
  some r1

set_option maxRecDepth 100000 in
theorem fd_110 : cfg.funcs 110 = some (bodyOf Try.f110, Try.f110.ntmps, Try.f110.results.toList) := fn_of Try.func110 (by kernel_rfl) (by kernel_rfl)
theorem ok_bytes_Compare (a0 : (List UInt8)) (a1 : (List UInt8)) (r : Int) (h : S_bytes_Compare a0 a1 = some r) : (mach cfg).call 110 [] [.val false [.seq (eL e_u8 a0)], .val false [.seq (eL e_u8 a1)]] = some (.val false [.int .i64 r], []) := by
  unfold S_bytes_Compare at h
  obtain ⟨r1, hr1, h⟩ := bs h
  obtain rfl := Option.some.inj h
  exact call_wQ [.cl (ok_internal_bytealg_Compare a0 a1 _ hr1)] rfl fd_110 (by kernel_rfl)

end
end Go.Am.Try
