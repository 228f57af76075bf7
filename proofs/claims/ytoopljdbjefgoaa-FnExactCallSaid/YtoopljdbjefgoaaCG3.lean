/- The functions of the program in plain Lean, and that the machine answers as they do; conditions at each theorem. -/
import Derived.Test.YtoopljdbjefgoaaCG2
set_option linter.unusedVariables false
set_option linter.unusedSimpArgs false
namespace Go.Am.Try
open Go.Am Go.Proofs
set_option linter.unusedVariables false
set_option maxRecDepth 20000
set_option maxHeartbeats 2000000
noncomputable section
def T_impl_isShaped_1 (G_impl_isShaped : GValue → Int → Option Bool) (a0 : GValue) (e0 : Int) : Option Bool :=
  (G_impl_isShaped a0 (w64 (e0 - 1))).bind fun r1 =>
  some (!r1)

set_option maxRecDepth 100000 in
theorem fd_111 : cfg.funcs 111 = some (bodyOf Try.f111, Try.f111.ntmps, Try.f111.results.toList) := fn_of Try.func111 (by kernel_rfl) (by kernel_rfl)
theorem g_impl_isShaped_1 (G_impl_isShaped : GValue → Int → Option Bool) (H_impl_isShaped : ∀ (a0 : GValue) (a1 : Int) (r : Bool), G_impl_isShaped a0 a1 = some r → (mach cfg).call 73 [] [.val true [.int .i64 a0.Kind, .int .i64 a0.N, .seq (eL e_u8 a0.S), .seq (eL (e_sl e_u8) a0.K), .seq (eL e_GValue a0.L)], .val false [.int .i64 a1]] = some (.val false [.bool r], [])) (a0 : GValue) (e0 : Int) (r : Bool) (h : T_impl_isShaped_1 G_impl_isShaped a0 e0 = some r) : (mach cfg).call 111 [.var [.int .i64 e0]] [.val true [.int .i64 a0.Kind, .int .i64 a0.N, .seq (eL e_u8 a0.S), .seq (eL (e_sl e_u8) a0.K), .seq (eL e_GValue a0.L)], .val false [.ptr 0 0]] = some (.val false [.bool r], [.var [.int .i64 e0]]) := by
  unfold T_impl_isShaped_1 at h
  obtain ⟨r1, hr1, h⟩ := bs h
  obtain rfl := Option.some.inj h
  exact call_wQ [.su e0 1, .cl (H_impl_isShaped a0 (w64 (e0 - 1)) _ hr1), .nt r1] rfl fd_111 (by kernel_rfl)

def L_slices_IndexFunc_Value_isShaped_1_l0 (G_impl_isShaped_1 : GValue → Int → Option Bool) (a0 : (List GValue)) (v1 : Int) (e0 : Int) : Nat → Int → Option (Int ⊕ Int)
  | 0, _ => none
  | m + 1, v2 =>
    if v2 < v1 then
      (natO v2).bind fun i2 =>
      (a0[i2]?).bind fun x3 =>
      (G_impl_isShaped_1 x3 e0).bind fun r4 =>
      match r4 with
      | true =>
        some (.inl v2)
      | false =>
        L_slices_IndexFunc_Value_isShaped_1_l0 G_impl_isShaped_1 a0 v1 e0 m (w64 (v2 + 1))
    else
      some (.inr v2)

theorem gl_slices_IndexFunc_Value_isShaped_1_l0 (G_impl_isShaped_1 : GValue → Int → Option Bool) (H_impl_isShaped_1 : ∀ (a0 : GValue) (e0 : Int) (r : Bool), G_impl_isShaped_1 a0 e0 = some r → (mach cfg).call 111 [.var [.int .i64 e0]] [.val true [.int .i64 a0.Kind, .int .i64 a0.N, .seq (eL e_u8 a0.S), .seq (eL (e_sl e_u8) a0.K), .seq (eL e_GValue a0.L)], .val false [.ptr 0 0]] = some (.val false [.bool r], [.var [.int .i64 e0]])) (a0 : (List GValue)) (v1 : Int) (e0 : Int) (m : Nat) : ∀ (v2 : Int) (o : (Int ⊕ Int)), L_slices_IndexFunc_Value_isShaped_1_l0 G_impl_isShaped_1 a0 v1 e0 m v2 = some o → (mach cfg).loop 112 (loopB Try.f112 0) ⟨[(0, .val false [.seq (eL e_GValue a0)]), (1, .val false [.fn 111 [.ptr 0 0]]), (7, .val false [.int .i64 v1]), (8, .val false [.int .i64 v2])], [.var [.int .i64 e0]], 1⟩ = some (match o with | .inl o_0 => (.ret, (⟨[(4, .val false [.int .i64 o_0])], [.var [.int .i64 e0]], 1⟩ : S)) | .inr (o_1) => (.exit 0, (⟨[(0, .val false [.seq (eL e_GValue a0)]), (1, .val false [.fn 111 [.ptr 0 0]]), (7, .val false [.int .i64 v1]), (8, .val false [.int .i64 o_1]), (9, .val false [.bool false])], [.var [.int .i64 e0]], 1⟩ : S))) := by
  induction m with
  | zero => intro v2 o h; cases h
  | succ m ih =>
    intro v2 o h
    rw [L_slices_IndexFunc_Value_isShaped_1_l0] at h
    rcases ite_some h with ⟨c1, h⟩ | ⟨c1, h⟩
    ·obtain ⟨i2, hi2, h⟩ := bs h
     obtain ⟨x3, hx3, h⟩ := bs h
     obtain ⟨r4, hr4, h⟩ := bs h
     cases r4 with
     | true =>
      try dsimp only at h
      obtain rfl := Option.some.inj h
      exact loop_eQ [.lT c1, .na hi2, .ix hx3 (eq_GValue x3), .cl (H_impl_isShaped_1 x3 e0 _ hr4)] (by kernel_rfl) (by intro h; cases h)
     | false =>
      try dsimp only at h
      exact loop_nQ [.lT c1, .na hi2, .ix hx3 (eq_GValue x3), .cl (H_impl_isShaped_1 x3 e0 _ hr4), .ad v2 1] (by kernel_rfl) (ih (w64 (v2 + 1)) o h)
    ·obtain rfl := Option.some.inj h
     exact loop_eQ [.lF c1] (by kernel_rfl) (by intro h; cases h)

def T_slices_IndexFunc_Value_isShaped_1 (G_impl_isShaped_1 : GValue → Int → Option Bool) (n : Nat) (a0 : (List GValue)) (e0 : Int) : Option Int :=
  (L_slices_IndexFunc_Value_isShaped_1_l0 G_impl_isShaped_1 a0 ((a0.length : Nat) : Int) e0 n 0).bind fun o1 =>
  match o1 with
  | .inl o1_0 =>
    some o1_0
  | .inr (o1_1) =>
    some (-1)

set_option maxRecDepth 100000 in
theorem fd_112 : cfg.funcs 112 = some (bodyOf Try.f112, Try.f112.ntmps, Try.f112.results.toList) := fn_of Try.func112 (by kernel_rfl) (by kernel_rfl)
theorem g_slices_IndexFunc_Value_isShaped_1 (G_impl_isShaped_1 : GValue → Int → Option Bool) (H_impl_isShaped_1 : ∀ (a0 : GValue) (e0 : Int) (r : Bool), G_impl_isShaped_1 a0 e0 = some r → (mach cfg).call 111 [.var [.int .i64 e0]] [.val true [.int .i64 a0.Kind, .int .i64 a0.N, .seq (eL e_u8 a0.S), .seq (eL (e_sl e_u8) a0.K), .seq (eL e_GValue a0.L)], .val false [.ptr 0 0]] = some (.val false [.bool r], [.var [.int .i64 e0]])) (n : Nat) (a0 : (List GValue)) (e0 : Int) (r : Int) (h : T_slices_IndexFunc_Value_isShaped_1 G_impl_isShaped_1 n a0 e0 = some r) : (mach cfg).call 112 [.var [.int .i64 e0]] [.val false [.seq (eL e_GValue a0)], .val false [.fn 111 [.ptr 0 0]]] = some (.val false [.int .i64 r], [.var [.int .i64 e0]]) := by
  unfold T_slices_IndexFunc_Value_isShaped_1 at h
  obtain ⟨o1, ho1, h⟩ := bs h
  rcases o1 with o1_0 | o1_1
  · try dsimp only at h
    obtain rfl := Option.some.inj h
    exact call_wQ [.le e_GValue a0, .lp (gl_slices_IndexFunc_Value_isShaped_1_l0 G_impl_isShaped_1 H_impl_isShaped_1 a0 ((a0.length : Nat) : Int) e0 _ 0 _ ho1)] rfl fd_112 (by kernel_rfl)
  · try dsimp only at h
    obtain rfl := Option.some.inj h
    exact call_wQ [.le e_GValue a0, .lp (gl_slices_IndexFunc_Value_isShaped_1_l0 G_impl_isShaped_1 H_impl_isShaped_1 a0 ((a0.length : Nat) : Int) e0 _ 0 _ ho1)] rfl fd_112 (by kernel_rfl)

def T_slices_ContainsFunc_Value_isShaped_1 (G_slices_IndexFunc_Value_isShaped_1 : (List GValue) → Int → Option Int) (a0 : (List GValue)) (e0 : Int) : Option Bool :=
  (G_slices_IndexFunc_Value_isShaped_1 a0 e0).bind fun r1 =>
  some (decide (0 ≤ r1))

set_option maxRecDepth 100000 in
theorem fd_75 : cfg.funcs 75 = some (bodyOf Try.f75, Try.f75.ntmps, Try.f75.results.toList) := fn_of Try.func75 (by kernel_rfl) (by kernel_rfl)
theorem g_slices_ContainsFunc_Value_isShaped_1 (G_slices_IndexFunc_Value_isShaped_1 : (List GValue) → Int → Option Int) (H_slices_IndexFunc_Value_isShaped_1 : ∀ (a0 : (List GValue)) (e0 : Int) (r : Int), G_slices_IndexFunc_Value_isShaped_1 a0 e0 = some r → (mach cfg).call 112 [.var [.int .i64 e0]] [.val false [.seq (eL e_GValue a0)], .val false [.fn 111 [.ptr 0 0]]] = some (.val false [.int .i64 r], [.var [.int .i64 e0]])) (a0 : (List GValue)) (e0 : Int) (r : Bool) (h : T_slices_ContainsFunc_Value_isShaped_1 G_slices_IndexFunc_Value_isShaped_1 a0 e0 = some r) : (mach cfg).call 75 [.var [.int .i64 e0]] [.val false [.seq (eL e_GValue a0)], .val false [.fn 111 [.ptr 0 0]]] = some (.val false [.bool r], [.var [.int .i64 e0]]) := by
  unfold T_slices_ContainsFunc_Value_isShaped_1 at h
  obtain ⟨r1, hr1, h⟩ := bs h
  obtain rfl := Option.some.inj h
  exact call_wQ [.cl (H_slices_IndexFunc_Value_isShaped_1 a0 e0 _ hr1), .gD 0 r1] rfl fd_75 (by kernel_rfl)

def L_impl_isShaped_l0 (G_slices_ContainsFunc_Value_isShaped_1 : (List GValue) → Int → Option Bool) (v0 : Bool) (v1 : Bool) (v2 : (List (List UInt8))) (v3 : Int) (a0 : GValue) (a1 : Int) : Nat → Int → Option (Bool ⊕ Int)
  | 0, _ => none
  | m + 1, v4 =>
    if v4 < v3 then
      (natO v4).bind fun i2 =>
      (v2[i2]?).bind fun x3 =>
      (S_impl_isName x3).bind fun r4 =>
      match r4 with
      | true =>
        if 0 < v4 then
          (natO (w64 (v4 - 1))).bind fun i7 =>
          (a0.K[i7]?).bind fun x8 =>
          (S_bytes_Compare x8 x3).bind fun r9 =>
          if 0 ≤ r9 then
            some (.inl false)
          else
            L_impl_isShaped_l0 G_slices_ContainsFunc_Value_isShaped_1 v0 v1 v2 v3 a0 a1 m (w64 (v4 + 1))
        else
          L_impl_isShaped_l0 G_slices_ContainsFunc_Value_isShaped_1 v0 v1 v2 v3 a0 a1 m (w64 (v4 + 1))
      | false =>
        some (.inl false)
    else
      some (.inr v4)

theorem gl_impl_isShaped_l0 (G_slices_ContainsFunc_Value_isShaped_1 : (List GValue) → Int → Option Bool) (H_slices_ContainsFunc_Value_isShaped_1 : ∀ (a0 : (List GValue)) (e0 : Int) (r : Bool), G_slices_ContainsFunc_Value_isShaped_1 a0 e0 = some r → (mach cfg).call 75 [.var [.int .i64 e0]] [.val false [.seq (eL e_GValue a0)], .val false [.fn 111 [.ptr 0 0]]] = some (.val false [.bool r], [.var [.int .i64 e0]])) (v0 : Bool) (v1 : Bool) (v2 : (List (List UInt8))) (v3 : Int) (a0 : GValue) (a1 : Int) (m : Nat) : ∀ (v4 : Int) (o : (Bool ⊕ Int)), L_impl_isShaped_l0 G_slices_ContainsFunc_Value_isShaped_1 v0 v1 v2 v3 a0 a1 m v4 = some o → (mach cfg).loop 73 (loopB Try.f73 0) ⟨[(2, .val false [.ptr 0 0]), (3, .val false [.ptr 1 0]), (5, .val false [.bool v0]), (6, .val false [.bool v1]), (99, .val false [.seq (eL (e_sl e_u8) v2)]), (100, .val false [.int .i64 v3]), (101, .val false [.int .i64 v4])], [.var [.int .i64 a0.Kind, .int .i64 a0.N, .seq (eL e_u8 a0.S), .seq (eL (e_sl e_u8) a0.K), .seq (eL e_GValue a0.L)], .var [.int .i64 a1]], 0⟩ = some (match o with | .inl o_0 => (.ret, (⟨[(4, .val false [.bool o_0])], [], 0⟩ : S)) | .inr (o_1) => (.exit 1, (⟨[(2, .val false [.ptr 0 0]), (3, .val false [.ptr 1 0]), (5, .val false [.bool v0]), (6, .val false [.bool v1]), (99, .val false [.seq (eL (e_sl e_u8) v2)]), (100, .val false [.int .i64 v3]), (101, .val false [.int .i64 o_1]), (102, .val false [.bool false])], [.var [.int .i64 a0.Kind, .int .i64 a0.N, .seq (eL e_u8 a0.S), .seq (eL (e_sl e_u8) a0.K), .seq (eL e_GValue a0.L)], .var [.int .i64 a1]], 0⟩ : S))) := by
  induction m with
  | zero => intro v4 o h; cases h
  | succ m ih =>
    intro v4 o h
    rw [L_impl_isShaped_l0] at h
    rcases ite_some h with ⟨c1, h⟩ | ⟨c1, h⟩
    ·obtain ⟨i2, hi2, h⟩ := bs h
     obtain ⟨x3, hx3, h⟩ := bs h
     obtain ⟨r4, hr4, h⟩ := bs h
     cases r4 with
     | true =>
      try dsimp only at h
      rcases ite_some h with ⟨c6, h⟩ | ⟨c6, h⟩
      ·obtain ⟨i7, hi7, h⟩ := bs h
       obtain ⟨x8, hx8, h⟩ := bs h
       obtain ⟨r9, hr9, h⟩ := bs h
       rcases ite_some h with ⟨c10, h⟩ | ⟨c10, h⟩
       ·obtain rfl := Option.some.inj h
        exact loop_eQ [.lT c1, .na hi2, .ix0 (e_sl e_u8) hx3, .cl (ok_impl_isName x3 _ hr4), .nt true, .lT c6, .su v4 1, .na hi7, .ix0 (e_sl e_u8) hx8, .cl (ok_bytes_Compare x8 x3 _ hr9), .gT c10] (by kernel_rfl) (by intro h; cases h)
       ·exact loop_nQ [.lT c1, .na hi2, .ix0 (e_sl e_u8) hx3, .cl (ok_impl_isName x3 _ hr4), .nt true, .lT c6, .su v4 1, .na hi7, .ix0 (e_sl e_u8) hx8, .cl (ok_bytes_Compare x8 x3 _ hr9), .gF c10, .ad v4 1] (by kernel_rfl) (ih (w64 (v4 + 1)) o h)
      ·exact loop_nQ [.lT c1, .na hi2, .ix0 (e_sl e_u8) hx3, .cl (ok_impl_isName x3 _ hr4), .nt true, .lF c6, .ad v4 1] (by kernel_rfl) (ih (w64 (v4 + 1)) o h)
     | false =>
      try dsimp only at h
      obtain rfl := Option.some.inj h
      exact loop_eQ [.lT c1, .na hi2, .ix0 (e_sl e_u8) hx3, .cl (ok_impl_isName x3 _ hr4), .nt false] (by kernel_rfl) (by intro h; cases h)
    ·obtain rfl := Option.some.inj h
     exact loop_eQ [.lF c1] (by kernel_rfl) (by intro h; cases h)

def T_impl_isShaped (G_slices_ContainsFunc_Value_isShaped_1 : (List GValue) → Int → Option Bool) (n : Nat) (a0 : GValue) (a1 : Int) : Option Bool :=
  if a1 = 0 then
    some false
  else
    if a0.Kind = 0 then
      if a0.N = 0 then
        if ((a0.S.length : Nat) : Int) = 0 then
          if ((a0.K.length : Nat) : Int) = 0 then
            some (decide (((a0.L.length : Nat) : Int) = 0))
          else
            some false
        else
          some false
      else
        some false
    else
      if a0.Kind = 6 then
        if a0.N = 0 then
          if ((a0.S.length : Nat) : Int) = 0 then
            if ((a0.K.length : Nat) : Int) = 0 then
              some (decide (((a0.L.length : Nat) : Int) = 0))
            else
              some false
          else
            some false
        else
          some false
      else
        if a0.Kind = 1 then
          (S_impl_in a0.N 0 1).bind fun r5 =>
          match r5 with
          | true =>
            if ((a0.S.length : Nat) : Int) = 0 then
              if ((a0.K.length : Nat) : Int) = 0 then
                some (decide (((a0.L.length : Nat) : Int) = 0))
              else
                some false
            else
              some false
          | false =>
            some false
        else
          if a0.Kind = 2 then
            (S_impl_in a0.N (-1000000000000) 1000000000000).bind fun r6 =>
            match r6 with
            | true =>
              if ((a0.S.length : Nat) : Int) = 0 then
                if ((a0.K.length : Nat) : Int) = 0 then
                  some (decide (((a0.L.length : Nat) : Int) = 0))
                else
                  some false
              else
                some false
            | false =>
              some false
          else
            if a0.Kind = 3 then
              (S_impl_isText a0.S).bind fun r7 =>
              match r7 with
              | true =>
                if a0.N = 0 then
                  if ((a0.K.length : Nat) : Int) = 0 then
                    some (decide (((a0.L.length : Nat) : Int) = 0))
                  else
                    some false
                else
                  some false
              | false =>
                some false
            else
              if a0.Kind = 4 then
                if ((a0.K.length : Nat) : Int) = 0 then
                  if a0.N = 0 then
                    if ((a0.S.length : Nat) : Int) = 0 then
                      if ((a0.L.length : Nat) : Int) ≤ 40 then
                        (G_slices_ContainsFunc_Value_isShaped_1 a0.L a1).bind fun r12 =>
                        some (!r12)
                      else
                        some false
                    else
                      some false
                  else
                    some false
                else
                  some false
              else
                if a0.Kind = 5 then
                  if ((a0.K.length : Nat) : Int) = ((a0.L.length : Nat) : Int) then
                    if a0.N = 0 then
                      if ((a0.S.length : Nat) : Int) = 0 then
                        (L_impl_isShaped_l0 G_slices_ContainsFunc_Value_isShaped_1 true true a0.K ((a0.K.length : Nat) : Int) a0 a1 n 0).bind fun o12 =>
                        match o12 with
                        | .inl o12_0 =>
                          some o12_0
                        | .inr (o12_1) =>
                          if ((a0.L.length : Nat) : Int) ≤ 40 then
                            (G_slices_ContainsFunc_Value_isShaped_1 a0.L a1).bind fun r14 =>
                            some (!r14)
                          else
                            some false
                      else
                        (L_impl_isShaped_l0 G_slices_ContainsFunc_Value_isShaped_1 true false a0.K ((a0.K.length : Nat) : Int) a0 a1 n 0).bind fun o12 =>
                        match o12 with
                        | .inl o12_0 =>
                          some o12_0
                        | .inr (o12_1) =>
                          some false
                    else
                      if ((a0.S.length : Nat) : Int) = 0 then
                        (L_impl_isShaped_l0 G_slices_ContainsFunc_Value_isShaped_1 false true a0.K ((a0.K.length : Nat) : Int) a0 a1 n 0).bind fun o12 =>
                        match o12 with
                        | .inl o12_0 =>
                          some o12_0
                        | .inr (o12_1) =>
                          some false
                      else
                        (L_impl_isShaped_l0 G_slices_ContainsFunc_Value_isShaped_1 false false a0.K ((a0.K.length : Nat) : Int) a0 a1 n 0).bind fun o12 =>
                        match o12 with
                        | .inl o12_0 =>
                          some o12_0
                        | .inr (o12_1) =>
                          some false
                  else
                    some false
                else
                  some false

set_option maxRecDepth 100000 in
theorem fd_73 : cfg.funcs 73 = some (bodyOf Try.f73, Try.f73.ntmps, Try.f73.results.toList) := fn_of Try.func73 (by kernel_rfl) (by kernel_rfl)
theorem g_impl_isShaped (G_slices_ContainsFunc_Value_isShaped_1 : (List GValue) → Int → Option Bool) (H_slices_ContainsFunc_Value_isShaped_1 : ∀ (a0 : (List GValue)) (e0 : Int) (r : Bool), G_slices_ContainsFunc_Value_isShaped_1 a0 e0 = some r → (mach cfg).call 75 [.var [.int .i64 e0]] [.val false [.seq (eL e_GValue a0)], .val false [.fn 111 [.ptr 0 0]]] = some (.val false [.bool r], [.var [.int .i64 e0]])) (n : Nat) (a0 : GValue) (a1 : Int) (r : Bool) (h : T_impl_isShaped G_slices_ContainsFunc_Value_isShaped_1 n a0 a1 = some r) : (mach cfg).call 73 [] [.val true [.int .i64 a0.Kind, .int .i64 a0.N, .seq (eL e_u8 a0.S), .seq (eL (e_sl e_u8) a0.K), .seq (eL e_GValue a0.L)], .val false [.int .i64 a1]] = some (.val false [.bool r], []) := by
  unfold T_impl_isShaped at h
  rcases ite_some h with ⟨c1, h⟩ | ⟨c1, h⟩
  ·obtain rfl := Option.some.inj h
   exact call_wQ [.eT c1] rfl fd_73 (by kernel_rfl)
  ·rcases ite_some h with ⟨c2, h⟩ | ⟨c2, h⟩
   ·rcases ite_some h with ⟨c3, h⟩ | ⟨c3, h⟩
    ·rcases ite_some h with ⟨c4, h⟩ | ⟨c4, h⟩
     ·rcases ite_some h with ⟨c5, h⟩ | ⟨c5, h⟩
      ·obtain rfl := Option.some.inj h
       exact call_wQ [.eF c1, .eT c3, .le e_u8 a0.S, .eT c4, .le (e_sl e_u8) a0.K, .eT c5, .le e_GValue a0.L, .eD ((a0.L.length : Nat) : Int) 0, .eT c2] rfl fd_73 (by kernel_rfl)
      ·obtain rfl := Option.some.inj h
       exact call_wQ [.eF c1, .eT c3, .le e_u8 a0.S, .eT c4, .le (e_sl e_u8) a0.K, .eF c5, .le e_GValue a0.L, .eD ((a0.L.length : Nat) : Int) 0, .eT c2] rfl fd_73 (by kernel_rfl)
     ·obtain rfl := Option.some.inj h
      exact call_wQ [.eF c1, .eT c3, .le e_u8 a0.S, .eF c4, .le (e_sl e_u8) a0.K, .eD ((a0.K.length : Nat) : Int) 0, .le e_GValue a0.L, .eD ((a0.L.length : Nat) : Int) 0, .eT c2] rfl fd_73 (by kernel_rfl)
    ·obtain rfl := Option.some.inj h
     exact call_wQ [.eF c1, .eF c3, .le e_u8 a0.S, .eD ((a0.S.length : Nat) : Int) 0, .le (e_sl e_u8) a0.K, .eD ((a0.K.length : Nat) : Int) 0, .le e_GValue a0.L, .eD ((a0.L.length : Nat) : Int) 0, .eT c2] rfl fd_73 (by kernel_rfl)
   ·rcases ite_some h with ⟨c3, h⟩ | ⟨c3, h⟩
    ·rcases ite_some h with ⟨c4, h⟩ | ⟨c4, h⟩
     ·rcases ite_some h with ⟨c5, h⟩ | ⟨c5, h⟩
      ·rcases ite_some h with ⟨c6, h⟩ | ⟨c6, h⟩
       ·obtain rfl := Option.some.inj h
        exact call_wQ [.eF c1, .eT c4, .le e_u8 a0.S, .eT c5, .le (e_sl e_u8) a0.K, .eT c6, .le e_GValue a0.L, .eD ((a0.L.length : Nat) : Int) 0, .eF c2, .eT c3] rfl fd_73 (by kernel_rfl)
       ·obtain rfl := Option.some.inj h
        exact call_wQ [.eF c1, .eT c4, .le e_u8 a0.S, .eT c5, .le (e_sl e_u8) a0.K, .eF c6, .le e_GValue a0.L, .eD ((a0.L.length : Nat) : Int) 0, .eF c2, .eT c3] rfl fd_73 (by kernel_rfl)
      ·obtain rfl := Option.some.inj h
       exact call_wQ [.eF c1, .eT c4, .le e_u8 a0.S, .eF c5, .le (e_sl e_u8) a0.K, .eD ((a0.K.length : Nat) : Int) 0, .le e_GValue a0.L, .eD ((a0.L.length : Nat) : Int) 0, .eF c2, .eT c3] rfl fd_73 (by kernel_rfl)
     ·obtain rfl := Option.some.inj h
      exact call_wQ [.eF c1, .eF c4, .le e_u8 a0.S, .eD ((a0.S.length : Nat) : Int) 0, .le (e_sl e_u8) a0.K, .eD ((a0.K.length : Nat) : Int) 0, .le e_GValue a0.L, .eD ((a0.L.length : Nat) : Int) 0, .eF c2, .eT c3] rfl fd_73 (by kernel_rfl)
    ·rcases ite_some h with ⟨c4, h⟩ | ⟨c4, h⟩
     ·obtain ⟨r5, hr5, h⟩ := bs h
      cases r5 with
      | true =>
       try dsimp only at h
       rcases ite_some h with ⟨c7, h⟩ | ⟨c7, h⟩
       ·rcases ite_some h with ⟨c8, h⟩ | ⟨c8, h⟩
        ·obtain rfl := Option.some.inj h
         exact call_wQ [.eF c1, .eD a0.N 0, .le e_u8 a0.S, .eT c7, .le (e_sl e_u8) a0.K, .eT c8, .le e_GValue a0.L, .eD ((a0.L.length : Nat) : Int) 0, .eF c2, .eF c3, .eT c4, .cl (ok_impl_in a0.N 0 1 _ hr5)] rfl fd_73 (by kernel_rfl)
        ·obtain rfl := Option.some.inj h
         exact call_wQ [.eF c1, .eD a0.N 0, .le e_u8 a0.S, .eT c7, .le (e_sl e_u8) a0.K, .eF c8, .le e_GValue a0.L, .eD ((a0.L.length : Nat) : Int) 0, .eF c2, .eF c3, .eT c4, .cl (ok_impl_in a0.N 0 1 _ hr5)] rfl fd_73 (by kernel_rfl)
       ·obtain rfl := Option.some.inj h
        exact call_wQ [.eF c1, .eD a0.N 0, .le e_u8 a0.S, .eF c7, .le (e_sl e_u8) a0.K, .eD ((a0.K.length : Nat) : Int) 0, .le e_GValue a0.L, .eD ((a0.L.length : Nat) : Int) 0, .eF c2, .eF c3, .eT c4, .cl (ok_impl_in a0.N 0 1 _ hr5)] rfl fd_73 (by kernel_rfl)
      | false =>
       try dsimp only at h
       obtain rfl := Option.some.inj h
       exact call_wQ [.eF c1, .eD a0.N 0, .le e_u8 a0.S, .eD ((a0.S.length : Nat) : Int) 0, .le (e_sl e_u8) a0.K, .eD ((a0.K.length : Nat) : Int) 0, .le e_GValue a0.L, .eD ((a0.L.length : Nat) : Int) 0, .eF c2, .eF c3, .eT c4, .cl (ok_impl_in a0.N 0 1 _ hr5)] rfl fd_73 (by kernel_rfl)
     ·rcases ite_some h with ⟨c5, h⟩ | ⟨c5, h⟩
      ·obtain ⟨r6, hr6, h⟩ := bs h
       cases r6 with
       | true =>
        try dsimp only at h
        rcases ite_some h with ⟨c8, h⟩ | ⟨c8, h⟩
        ·rcases ite_some h with ⟨c9, h⟩ | ⟨c9, h⟩
         ·obtain rfl := Option.some.inj h
          exact call_wQ [.eF c1, .eD a0.N 0, .le e_u8 a0.S, .eT c8, .le (e_sl e_u8) a0.K, .eT c9, .le e_GValue a0.L, .eD ((a0.L.length : Nat) : Int) 0, .eF c2, .eF c3, .eF c4, .eT c5, .cl (ok_impl_in a0.N (-1000000000000) 1000000000000 _ hr6)] rfl fd_73 (by kernel_rfl)
         ·obtain rfl := Option.some.inj h
          exact call_wQ [.eF c1, .eD a0.N 0, .le e_u8 a0.S, .eT c8, .le (e_sl e_u8) a0.K, .eF c9, .le e_GValue a0.L, .eD ((a0.L.length : Nat) : Int) 0, .eF c2, .eF c3, .eF c4, .eT c5, .cl (ok_impl_in a0.N (-1000000000000) 1000000000000 _ hr6)] rfl fd_73 (by kernel_rfl)
        ·obtain rfl := Option.some.inj h
         exact call_wQ [.eF c1, .eD a0.N 0, .le e_u8 a0.S, .eF c8, .le (e_sl e_u8) a0.K, .eD ((a0.K.length : Nat) : Int) 0, .le e_GValue a0.L, .eD ((a0.L.length : Nat) : Int) 0, .eF c2, .eF c3, .eF c4, .eT c5, .cl (ok_impl_in a0.N (-1000000000000) 1000000000000 _ hr6)] rfl fd_73 (by kernel_rfl)
       | false =>
        try dsimp only at h
        obtain rfl := Option.some.inj h
        exact call_wQ [.eF c1, .eD a0.N 0, .le e_u8 a0.S, .eD ((a0.S.length : Nat) : Int) 0, .le (e_sl e_u8) a0.K, .eD ((a0.K.length : Nat) : Int) 0, .le e_GValue a0.L, .eD ((a0.L.length : Nat) : Int) 0, .eF c2, .eF c3, .eF c4, .eT c5, .cl (ok_impl_in a0.N (-1000000000000) 1000000000000 _ hr6)] rfl fd_73 (by kernel_rfl)
      ·rcases ite_some h with ⟨c6, h⟩ | ⟨c6, h⟩
       ·obtain ⟨r7, hr7, h⟩ := bs h
        cases r7 with
        | true =>
         try dsimp only at h
         rcases ite_some h with ⟨c9, h⟩ | ⟨c9, h⟩
         ·rcases ite_some h with ⟨c10, h⟩ | ⟨c10, h⟩
          ·obtain rfl := Option.some.inj h
           exact call_wQ [.eF c1, .eT c9, .le e_u8 a0.S, .eD ((a0.S.length : Nat) : Int) 0, .le (e_sl e_u8) a0.K, .eT c10, .le e_GValue a0.L, .eD ((a0.L.length : Nat) : Int) 0, .eF c2, .eF c3, .eF c4, .eF c5, .eT c6, .cl (ok_impl_isText a0.S _ hr7)] rfl fd_73 (by kernel_rfl)
          ·obtain rfl := Option.some.inj h
           exact call_wQ [.eF c1, .eT c9, .le e_u8 a0.S, .eD ((a0.S.length : Nat) : Int) 0, .le (e_sl e_u8) a0.K, .eF c10, .le e_GValue a0.L, .eD ((a0.L.length : Nat) : Int) 0, .eF c2, .eF c3, .eF c4, .eF c5, .eT c6, .cl (ok_impl_isText a0.S _ hr7)] rfl fd_73 (by kernel_rfl)
         ·obtain rfl := Option.some.inj h
          exact call_wQ [.eF c1, .eF c9, .le e_u8 a0.S, .eD ((a0.S.length : Nat) : Int) 0, .le (e_sl e_u8) a0.K, .eD ((a0.K.length : Nat) : Int) 0, .le e_GValue a0.L, .eD ((a0.L.length : Nat) : Int) 0, .eF c2, .eF c3, .eF c4, .eF c5, .eT c6, .cl (ok_impl_isText a0.S _ hr7)] rfl fd_73 (by kernel_rfl)
        | false =>
         try dsimp only at h
         obtain rfl := Option.some.inj h
         exact call_wQ [.eF c1, .eD a0.N 0, .le e_u8 a0.S, .eD ((a0.S.length : Nat) : Int) 0, .le (e_sl e_u8) a0.K, .eD ((a0.K.length : Nat) : Int) 0, .le e_GValue a0.L, .eD ((a0.L.length : Nat) : Int) 0, .eF c2, .eF c3, .eF c4, .eF c5, .eT c6, .cl (ok_impl_isText a0.S _ hr7)] rfl fd_73 (by kernel_rfl)
       ·rcases ite_some h with ⟨c7, h⟩ | ⟨c7, h⟩
        ·rcases ite_some h with ⟨c8, h⟩ | ⟨c8, h⟩
         ·rcases ite_some h with ⟨c9, h⟩ | ⟨c9, h⟩
          ·rcases ite_some h with ⟨c10, h⟩ | ⟨c10, h⟩
           ·rcases ite_some h with ⟨c11, h⟩ | ⟨c11, h⟩
            ·obtain ⟨r12, hr12, h⟩ := bs h
             obtain rfl := Option.some.inj h
             exact call_wQ [.eF c1, .eT c9, .le e_u8 a0.S, .eT c10, .le (e_sl e_u8) a0.K, .eT c8, .le e_GValue a0.L, .eD ((a0.L.length : Nat) : Int) 0, .eF c2, .eF c3, .eF c4, .eF c5, .eF c6, .eT c7, .nt true, .le e_GValue a0.L, .gT c11, .cl (H_slices_ContainsFunc_Value_isShaped_1 a0.L a1 _ hr12), .nt r12] rfl fd_73 (by kernel_rfl)
            ·obtain rfl := Option.some.inj h
             exact call_wQ [.eF c1, .eT c9, .le e_u8 a0.S, .eT c10, .le (e_sl e_u8) a0.K, .eT c8, .le e_GValue a0.L, .eD ((a0.L.length : Nat) : Int) 0, .eF c2, .eF c3, .eF c4, .eF c5, .eF c6, .eT c7, .nt true, .le e_GValue a0.L, .gF c11] rfl fd_73 (by kernel_rfl)
           ·obtain rfl := Option.some.inj h
            exact call_wQ [.eF c1, .eT c9, .le e_u8 a0.S, .eF c10, .le (e_sl e_u8) a0.K, .eT c8, .le e_GValue a0.L, .eD ((a0.L.length : Nat) : Int) 0, .eF c2, .eF c3, .eF c4, .eF c5, .eF c6, .eT c7, .nt true] rfl fd_73 (by kernel_rfl)
          ·obtain rfl := Option.some.inj h
           exact call_wQ [.eF c1, .eF c9, .le e_u8 a0.S, .eD ((a0.S.length : Nat) : Int) 0, .le (e_sl e_u8) a0.K, .eT c8, .le e_GValue a0.L, .eD ((a0.L.length : Nat) : Int) 0, .eF c2, .eF c3, .eF c4, .eF c5, .eF c6, .eT c7, .nt true] rfl fd_73 (by kernel_rfl)
         ·obtain rfl := Option.some.inj h
          exact call_wQ [.eF c1, .eD a0.N 0, .le e_u8 a0.S, .eD ((a0.S.length : Nat) : Int) 0, .le (e_sl e_u8) a0.K, .eF c8, .le e_GValue a0.L, .eD ((a0.L.length : Nat) : Int) 0, .eF c2, .eF c3, .eF c4, .eF c5, .eF c6, .eT c7, .nt false] rfl fd_73 (by kernel_rfl)
        ·rcases ite_some h with ⟨c8, h⟩ | ⟨c8, h⟩
         ·rcases ite_some h with ⟨c9, h⟩ | ⟨c9, h⟩
          ·rcases ite_some h with ⟨c10, h⟩ | ⟨c10, h⟩
           ·rcases ite_some h with ⟨c11, h⟩ | ⟨c11, h⟩
            ·obtain ⟨o12, ho12, h⟩ := bs h
             rcases o12 with o12_0 | o12_1
             · try dsimp only at h
               obtain rfl := Option.some.inj h
               exact call_wQ [.eF c1, .eT c10, .le e_u8 a0.S, .eT c11, .le (e_sl e_u8) a0.K, .eD ((a0.K.length : Nat) : Int) 0, .le e_GValue a0.L, .eD ((a0.L.length : Nat) : Int) 0, .eF c2, .eF c3, .eF c4, .eF c5, .eF c6, .eF c7, .eT c8, .le (e_sl e_u8) a0.K, .le e_GValue a0.L, .eT c9, .nt true, .le (e_sl e_u8) a0.K, .lp (gl_impl_isShaped_l0 G_slices_ContainsFunc_Value_isShaped_1 H_slices_ContainsFunc_Value_isShaped_1 true true a0.K ((a0.K.length : Nat) : Int) a0 a1 _ 0 _ ho12)] rfl fd_73 (by kernel_rfl)
             · try dsimp only at h
               rcases ite_some h with ⟨c13, h⟩ | ⟨c13, h⟩
               ·obtain ⟨r14, hr14, h⟩ := bs h
                obtain rfl := Option.some.inj h
                exact call_wQ [.eF c1, .eT c10, .le e_u8 a0.S, .eT c11, .le (e_sl e_u8) a0.K, .eD ((a0.K.length : Nat) : Int) 0, .le e_GValue a0.L, .eD ((a0.L.length : Nat) : Int) 0, .eF c2, .eF c3, .eF c4, .eF c5, .eF c6, .eF c7, .eT c8, .le (e_sl e_u8) a0.K, .le e_GValue a0.L, .eT c9, .nt true, .le (e_sl e_u8) a0.K, .lp (gl_impl_isShaped_l0 G_slices_ContainsFunc_Value_isShaped_1 H_slices_ContainsFunc_Value_isShaped_1 true true a0.K ((a0.K.length : Nat) : Int) a0 a1 _ 0 _ ho12), .le e_GValue a0.L, .gT c13, .cl (H_slices_ContainsFunc_Value_isShaped_1 a0.L a1 _ hr14), .nt r14] rfl fd_73 (by kernel_rfl)
               ·obtain rfl := Option.some.inj h
                exact call_wQ [.eF c1, .eT c10, .le e_u8 a0.S, .eT c11, .le (e_sl e_u8) a0.K, .eD ((a0.K.length : Nat) : Int) 0, .le e_GValue a0.L, .eD ((a0.L.length : Nat) : Int) 0, .eF c2, .eF c3, .eF c4, .eF c5, .eF c6, .eF c7, .eT c8, .le (e_sl e_u8) a0.K, .le e_GValue a0.L, .eT c9, .nt true, .le (e_sl e_u8) a0.K, .lp (gl_impl_isShaped_l0 G_slices_ContainsFunc_Value_isShaped_1 H_slices_ContainsFunc_Value_isShaped_1 true true a0.K ((a0.K.length : Nat) : Int) a0 a1 _ 0 _ ho12), .le e_GValue a0.L, .gF c13] rfl fd_73 (by kernel_rfl)
            ·obtain ⟨o12, ho12, h⟩ := bs h
             rcases o12 with o12_0 | o12_1
             · try dsimp only at h
               obtain rfl := Option.some.inj h
               exact call_wQ [.eF c1, .eT c10, .le e_u8 a0.S, .eF c11, .le (e_sl e_u8) a0.K, .eD ((a0.K.length : Nat) : Int) 0, .le e_GValue a0.L, .eD ((a0.L.length : Nat) : Int) 0, .eF c2, .eF c3, .eF c4, .eF c5, .eF c6, .eF c7, .eT c8, .le (e_sl e_u8) a0.K, .le e_GValue a0.L, .eT c9, .nt true, .le (e_sl e_u8) a0.K, .lp (gl_impl_isShaped_l0 G_slices_ContainsFunc_Value_isShaped_1 H_slices_ContainsFunc_Value_isShaped_1 true false a0.K ((a0.K.length : Nat) : Int) a0 a1 _ 0 _ ho12)] rfl fd_73 (by kernel_rfl)
             · try dsimp only at h
               obtain rfl := Option.some.inj h
               exact call_wQ [.eF c1, .eT c10, .le e_u8 a0.S, .eF c11, .le (e_sl e_u8) a0.K, .eD ((a0.K.length : Nat) : Int) 0, .le e_GValue a0.L, .eD ((a0.L.length : Nat) : Int) 0, .eF c2, .eF c3, .eF c4, .eF c5, .eF c6, .eF c7, .eT c8, .le (e_sl e_u8) a0.K, .le e_GValue a0.L, .eT c9, .nt true, .le (e_sl e_u8) a0.K, .lp (gl_impl_isShaped_l0 G_slices_ContainsFunc_Value_isShaped_1 H_slices_ContainsFunc_Value_isShaped_1 true false a0.K ((a0.K.length : Nat) : Int) a0 a1 _ 0 _ ho12)] rfl fd_73 (by kernel_rfl)
           ·rcases ite_some h with ⟨c11, h⟩ | ⟨c11, h⟩
            ·obtain ⟨o12, ho12, h⟩ := bs h
             rcases o12 with o12_0 | o12_1
             · try dsimp only at h
               obtain rfl := Option.some.inj h
               exact call_wQ [.eF c1, .eF c10, .le e_u8 a0.S, .eT c11, .le (e_sl e_u8) a0.K, .eD ((a0.K.length : Nat) : Int) 0, .le e_GValue a0.L, .eD ((a0.L.length : Nat) : Int) 0, .eF c2, .eF c3, .eF c4, .eF c5, .eF c6, .eF c7, .eT c8, .le (e_sl e_u8) a0.K, .le e_GValue a0.L, .eT c9, .nt true, .le (e_sl e_u8) a0.K, .lp (gl_impl_isShaped_l0 G_slices_ContainsFunc_Value_isShaped_1 H_slices_ContainsFunc_Value_isShaped_1 false true a0.K ((a0.K.length : Nat) : Int) a0 a1 _ 0 _ ho12)] rfl fd_73 (by kernel_rfl)
             · try dsimp only at h
               obtain rfl := Option.some.inj h
               exact call_wQ [.eF c1, .eF c10, .le e_u8 a0.S, .eT c11, .le (e_sl e_u8) a0.K, .eD ((a0.K.length : Nat) : Int) 0, .le e_GValue a0.L, .eD ((a0.L.length : Nat) : Int) 0, .eF c2, .eF c3, .eF c4, .eF c5, .eF c6, .eF c7, .eT c8, .le (e_sl e_u8) a0.K, .le e_GValue a0.L, .eT c9, .nt true, .le (e_sl e_u8) a0.K, .lp (gl_impl_isShaped_l0 G_slices_ContainsFunc_Value_isShaped_1 H_slices_ContainsFunc_Value_isShaped_1 false true a0.K ((a0.K.length : Nat) : Int) a0 a1 _ 0 _ ho12)] rfl fd_73 (by kernel_rfl)
            ·obtain ⟨o12, ho12, h⟩ := bs h
             rcases o12 with o12_0 | o12_1
             · try dsimp only at h
               obtain rfl := Option.some.inj h
               exact call_wQ [.eF c1, .eF c10, .le e_u8 a0.S, .eF c11, .le (e_sl e_u8) a0.K, .eD ((a0.K.length : Nat) : Int) 0, .le e_GValue a0.L, .eD ((a0.L.length : Nat) : Int) 0, .eF c2, .eF c3, .eF c4, .eF c5, .eF c6, .eF c7, .eT c8, .le (e_sl e_u8) a0.K, .le e_GValue a0.L, .eT c9, .nt true, .le (e_sl e_u8) a0.K, .lp (gl_impl_isShaped_l0 G_slices_ContainsFunc_Value_isShaped_1 H_slices_ContainsFunc_Value_isShaped_1 false false a0.K ((a0.K.length : Nat) : Int) a0 a1 _ 0 _ ho12)] rfl fd_73 (by kernel_rfl)
             · try dsimp only at h
               obtain rfl := Option.some.inj h
               exact call_wQ [.eF c1, .eF c10, .le e_u8 a0.S, .eF c11, .le (e_sl e_u8) a0.K, .eD ((a0.K.length : Nat) : Int) 0, .le e_GValue a0.L, .eD ((a0.L.length : Nat) : Int) 0, .eF c2, .eF c3, .eF c4, .eF c5, .eF c6, .eF c7, .eT c8, .le (e_sl e_u8) a0.K, .le e_GValue a0.L, .eT c9, .nt true, .le (e_sl e_u8) a0.K, .lp (gl_impl_isShaped_l0 G_slices_ContainsFunc_Value_isShaped_1 H_slices_ContainsFunc_Value_isShaped_1 false false a0.K ((a0.K.length : Nat) : Int) a0 a1 _ 0 _ ho12)] rfl fd_73 (by kernel_rfl)
          ·obtain rfl := Option.some.inj h
           exact call_wQ [.eF c1, .eD a0.N 0, .le e_u8 a0.S, .eD ((a0.S.length : Nat) : Int) 0, .le (e_sl e_u8) a0.K, .eD ((a0.K.length : Nat) : Int) 0, .le e_GValue a0.L, .eD ((a0.L.length : Nat) : Int) 0, .eF c2, .eF c3, .eF c4, .eF c5, .eF c6, .eF c7, .eT c8, .le (e_sl e_u8) a0.K, .le e_GValue a0.L, .eF c9, .nt false] rfl fd_73 (by kernel_rfl)
         ·obtain rfl := Option.some.inj h
          exact call_wQ [.eF c1, .eD a0.N 0, .le e_u8 a0.S, .eD ((a0.S.length : Nat) : Int) 0, .le (e_sl e_u8) a0.K, .eD ((a0.K.length : Nat) : Int) 0, .le e_GValue a0.L, .eD ((a0.L.length : Nat) : Int) 0, .eF c2, .eF c3, .eF c4, .eF c5, .eF c6, .eF c7, .eF c8] rfl fd_73 (by kernel_rfl)

mutual
def U_impl_isShaped_1 : Nat → GValue → Int → Option Bool
  | 0, _, _ => none
  | n + 1, a0, e0 => T_impl_isShaped_1 (U_impl_isShaped n) a0 e0
def U_slices_IndexFunc_Value_isShaped_1 : Nat → (List GValue) → Int → Option Int
  | 0, _, _ => none
  | n + 1, a0, e0 => T_slices_IndexFunc_Value_isShaped_1 (U_impl_isShaped_1 n) n a0 e0
def U_slices_ContainsFunc_Value_isShaped_1 : Nat → (List GValue) → Int → Option Bool
  | 0, _, _ => none
  | n + 1, a0, e0 => T_slices_ContainsFunc_Value_isShaped_1 (U_slices_IndexFunc_Value_isShaped_1 n) a0 e0
def U_impl_isShaped : Nat → GValue → Int → Option Bool
  | 0, _, _ => none
  | n + 1, a0, a1 => T_impl_isShaped (U_slices_ContainsFunc_Value_isShaped_1 n) n a0 a1
end
theorem rec_impl_isShaped_1 (n : Nat) : (∀ (a0 : GValue) (e0 : Int) (r : Bool), U_impl_isShaped_1 n a0 e0 = some r → (mach cfg).call 111 [.var [.int .i64 e0]] [.val true [.int .i64 a0.Kind, .int .i64 a0.N, .seq (eL e_u8 a0.S), .seq (eL (e_sl e_u8) a0.K), .seq (eL e_GValue a0.L)], .val false [.ptr 0 0]] = some (.val false [.bool r], [.var [.int .i64 e0]])) ∧ (∀ (a0 : (List GValue)) (e0 : Int) (r : Int), U_slices_IndexFunc_Value_isShaped_1 n a0 e0 = some r → (mach cfg).call 112 [.var [.int .i64 e0]] [.val false [.seq (eL e_GValue a0)], .val false [.fn 111 [.ptr 0 0]]] = some (.val false [.int .i64 r], [.var [.int .i64 e0]])) ∧ (∀ (a0 : (List GValue)) (e0 : Int) (r : Bool), U_slices_ContainsFunc_Value_isShaped_1 n a0 e0 = some r → (mach cfg).call 75 [.var [.int .i64 e0]] [.val false [.seq (eL e_GValue a0)], .val false [.fn 111 [.ptr 0 0]]] = some (.val false [.bool r], [.var [.int .i64 e0]])) ∧ (∀ (a0 : GValue) (a1 : Int) (r : Bool), U_impl_isShaped n a0 a1 = some r → (mach cfg).call 73 [] [.val true [.int .i64 a0.Kind, .int .i64 a0.N, .seq (eL e_u8 a0.S), .seq (eL (e_sl e_u8) a0.K), .seq (eL e_GValue a0.L)], .val false [.int .i64 a1]] = some (.val false [.bool r], [])) := by
  induction n with
  | zero => exact ⟨fun _ _ _ h => (by rw [U_impl_isShaped_1] at h; cases h), fun _ _ _ h => (by rw [U_slices_IndexFunc_Value_isShaped_1] at h; cases h), fun _ _ _ h => (by rw [U_slices_ContainsFunc_Value_isShaped_1] at h; cases h), fun _ _ _ h => (by rw [U_impl_isShaped] at h; cases h)⟩
  | succ n ih =>
    obtain ⟨ih_impl_isShaped_1, ih_slices_IndexFunc_Value_isShaped_1, ih_slices_ContainsFunc_Value_isShaped_1, ih_impl_isShaped⟩ := ih
    exact ⟨fun a0 e0 r h => g_impl_isShaped_1 (U_impl_isShaped n) ih_impl_isShaped a0 e0 r (by rw [U_impl_isShaped_1] at h; exact h),
      fun a0 e0 r h => g_slices_IndexFunc_Value_isShaped_1 (U_impl_isShaped_1 n) ih_impl_isShaped_1 n a0 e0 r (by rw [U_slices_IndexFunc_Value_isShaped_1] at h; exact h),
      fun a0 e0 r h => g_slices_ContainsFunc_Value_isShaped_1 (U_slices_IndexFunc_Value_isShaped_1 n) ih_slices_IndexFunc_Value_isShaped_1 a0 e0 r (by rw [U_slices_ContainsFunc_Value_isShaped_1] at h; exact h),
      fun a0 a1 r h => g_impl_isShaped (U_slices_ContainsFunc_Value_isShaped_1 n) ih_slices_ContainsFunc_Value_isShaped_1 n a0 a1 r (by rw [U_impl_isShaped] at h; exact h)⟩
theorem cmpS_eq (a b : List UInt8) : S_bytes_Compare a b = some (Lib.compareBytes a b) := rfl
theorem isName_eq {a : List UInt8} (h : a.length ≤ 2 ^ 20) : S_impl_isName a = some (nameB a) := if_pos h
theorem isText_eq {a : List UInt8} (h : a.length ≤ 2 ^ 20) : S_impl_isText a = some (textB a) := if_pos h
theorem slices_ContainsFunc_Value_isShaped_1_T {G : GValue → Int → Option Bool} {a : List GValue} {f : Nat} {e : Int} {p : GValue → Bool} (ha : a.length ≤ 2 ^ 20) (hf : a.length < f) (hG : ∀ x ∈ a, G x e = some (!p x)) : ∃ r : Int, T_slices_IndexFunc_Value_isShaped_1 G f a e = some r ∧ decide (0 ≤ r) = !(a.all p) := by
  have loop : ∀ (d i m : Nat), i + d = a.length → d < m → ∃ (q : Nat) (z : Int), L_slices_IndexFunc_Value_isShaped_1_l0 G a ((a.length : Nat) : Int) e m (i : Int) = some (if (a.drop i).all p = true then .inr z else .inl (q : Int)) := by
    intro d
    induction d with
    | zero =>
      intro i m hi hm
      obtain ⟨m, rfl, _⟩ := fuel hm
      exact ⟨0, _, by rw [L_slices_IndexFunc_Value_isShaped_1_l0, if_neg (by omega), List.drop_eq_nil_of_le (by omega)]; rfl⟩
    | succ d ih =>
      intro i m hi hm
      obtain ⟨m, rfl, hm'⟩ := fuel hm
      have hil : i < a.length := by omega
      rw [L_slices_IndexFunc_Value_isShaped_1_l0, if_pos (by omega), natO_nat, Option.bind_some, get_some hil, Option.bind_some, hG _ (List.getElem_mem hil), Option.bind_some, w64_succ (by omega), drop_cons hil, List.all_cons]
      cases hp : p a[i] with
      | false => exact ⟨i, 0, rfl⟩
      | true =>
        obtain ⟨q, z, hz⟩ := ih (i + 1) m (by omega) (by omega)
        exact ⟨q, z, by rw [Bool.true_and]; exact hz⟩
  obtain ⟨q, z, hz⟩ := loop a.length 0 f (by omega) (by omega)
  rw [show ((0 : Nat) : Int) = 0 from rfl, List.drop_zero] at hz
  unfold T_slices_IndexFunc_Value_isShaped_1
  rw [hz, Option.bind_some]
  cases hp : a.all p with
  | true => exact ⟨-1, rfl, rfl⟩
  | false => exact ⟨(q : Int), rfl, by simp⟩
theorem isShaped_keys {G : List GValue → Int → Option Bool} {v : GValue} {v0 v1 : Bool} {a1 : Int} (hs : vsz v ≤ 2 ^ 20) : ∀ (d i m : Nat), i + d = v.K.length → d < m → ∃ z, L_impl_isShaped_l0 G v0 v1 v.K ((v.K.length : Nat) : Int) v a1 m (i : Int) = some (if kAll v.K i d = true then .inr z else .inl false) := by
  have he := vsz_eq v
  have hl := bsz_len v.K
  intro d
  induction d with
  | zero =>
    intro i m hi hm
    obtain ⟨m, rfl, _⟩ := fuel hm
    exact ⟨_, by rw [L_impl_isShaped_l0, if_neg (by omega)]; rfl⟩
  | succ d ih =>
    intro i m hi hm
    obtain ⟨m, rfl, hm'⟩ := fuel hm
    have hil : i < v.K.length := by omega
    have hx := bsz_mem (List.getElem_mem hil)
    rw [L_impl_isShaped_l0, if_pos (by omega), natO_nat, Option.bind_some, get_some hil, Option.bind_some, isName_eq (by omega), Option.bind_some, w64_succ (by omega), kAll_succ]
    obtain ⟨z, hz⟩ := ih (i + 1) m (by omega) (by omega)
    cases hnm : nameB v.K[i] with
    | false =>
      refine ⟨0, ?_⟩
      have : kOk v.K i = false := by
        by_cases h0 : i = 0
        · subst h0; rw [kOk_zero hil, hnm]
        · rw [kOk_eq hil (by omega), hnm]; rfl
      rw [this]; rfl
    | true =>
      dsimp only
      by_cases h0 : 0 < i
      · rw [if_pos (by omega), w64_pred (by omega) h0, natO_nat, Option.bind_some, get_some (show i - 1 < v.K.length by omega), Option.bind_some, cmpS_eq, Option.bind_some]
        by_cases hb : Op.bytesLess (v.K[i - 1]'(by omega)) v.K[i] = true
        · rw [if_neg (by rw [less_cmp]; exact fun h => h hb), kOk_eq hil h0, hnm, hb]
          exact ⟨z, hz⟩
        · rw [if_pos (by rw [less_cmp]; exact hb), kOk_eq hil h0, hnm, show Op.bytesLess (v.K[i - 1]'(by omega)) v.K[i] = false by simpa using hb]
          exact ⟨0, rfl⟩
      · have : i = 0 := by omega
        subst this
        rw [if_neg (by omega), kOk_zero hil, hnm]
        exact ⟨z, hz⟩
theorem isShaped_T {G : List GValue → Int → Option Bool} {v : GValue} {f d : Nat} (hs : vsz v ≤ 2 ^ 20) (hf : v.K.length < f) (hd : 0 < d) (hG : G v.L (d : Int) = some (!(v.L.all (shV (d - 1))))) : T_impl_isShaped G f v (d : Int) = some (shV d v) := by
  obtain ⟨e, rfl⟩ : ∃ e, d = e + 1 := ⟨d - 1, by omega⟩
  have he := vsz_eq v
  have hl := vszs_len v.L
  have hb := bsz_len v.K
  rw [show e + 1 - 1 = e by omega] at hG
  unfold T_impl_isShaped
  rw [if_neg (by omega)]
  simp only [shV]
  have nil : v.L.length = 0 → v.L.all (shV e) = true := fun h => by rw [List.eq_nil_of_length_eq_zero h]; rfl
  have c0 : ∀ n : Nat, (((n : Nat) : Int) = 0) = (n = 0) := fun n => by simp
  simp only [c0]
  have leaf : ∀ {b : Bool}, locV v = (b && decide (v.L.length = 0)) → b = true → some (decide (v.L.length = 0)) = some (locV v && v.L.all (shV e)) := fun h hb' => by
    rw [h, hb', Bool.true_and]
    by_cases hz : v.L.length = 0
    · rw [decide_eq_true hz, nil hz]; rfl
    · rw [decide_eq_false hz]; rfl
  have no : locV v = false → some false = some (locV v && v.L.all (shV e)) := fun h => by rw [h]; rfl
  have four : ∀ {p : Prop} [Decidable p], locV v = decide (p ∧ v.S.length = 0 ∧ v.K.length = 0 ∧ v.L.length = 0) → p → (if v.S.length = 0 then if v.K.length = 0 then some (decide (v.L.length = 0)) else some false else some false) = some (locV v && v.L.all (shV e)) := fun h hp => by
    by_cases h1 : v.S.length = 0
    · rw [if_pos h1]
      by_cases h2 : v.K.length = 0
      · rw [if_pos h2]
        exact leaf (b := true) (by rw [h]; simp [hp, h1, h2]) rfl
      · rw [if_neg h2]; exact no (by rw [h, decide_eq_false (fun h => h2 h.2.2.1)])
    · rw [if_neg h1]; exact no (by rw [h, decide_eq_false (fun h => h1 h.2.1)])
  by_cases k0 : v.Kind = 0
  · rw [if_pos k0]
    have hv : locV v = decide (v.N = 0 ∧ v.S.length = 0 ∧ v.K.length = 0 ∧ v.L.length = 0) := by unfold locV; rw [if_pos (.inl k0)]
    by_cases a1 : v.N = 0
    · rw [if_pos a1]; exact four hv a1
    · rw [if_neg a1]; exact no (by rw [hv, decide_eq_false (fun h => a1 h.1)])
  rw [if_neg k0]
  by_cases k6 : v.Kind = 6
  · rw [if_pos k6]
    have hv : locV v = decide (v.N = 0 ∧ v.S.length = 0 ∧ v.K.length = 0 ∧ v.L.length = 0) := by unfold locV; rw [if_pos (.inr k6)]
    by_cases a1 : v.N = 0
    · rw [if_pos a1]; exact four hv a1
    · rw [if_neg a1]; exact no (by rw [hv, decide_eq_false (fun h => a1 h.1)])
  rw [if_neg k6]
  have n06 : ¬ (v.Kind = 0 ∨ v.Kind = 6) := by omega
  by_cases k1 : v.Kind = 1
  · rw [if_pos k1, in_eq, Option.bind_some]
    have hv : locV v = decide ((0 ≤ v.N ∧ v.N ≤ 1) ∧ v.S.length = 0 ∧ v.K.length = 0 ∧ v.L.length = 0) := by unfold locV; rw [if_neg n06, if_pos k1]
    by_cases a1 : 0 ≤ v.N ∧ v.N ≤ 1
    · rw [decide_eq_true a1]; exact four hv a1
    · rw [decide_eq_false a1]; exact no (by rw [hv, decide_eq_false (fun h => a1 h.1)])
  rw [if_neg k1]
  by_cases k2 : v.Kind = 2
  · rw [if_pos k2, in_eq, Option.bind_some]
    have hv : locV v = decide ((-1000000000000 ≤ v.N ∧ v.N ≤ 1000000000000) ∧ v.S.length = 0 ∧ v.K.length = 0 ∧ v.L.length = 0) := by unfold locV; rw [if_neg n06, if_neg k1, if_pos k2]
    by_cases a1 : -1000000000000 ≤ v.N ∧ v.N ≤ 1000000000000
    · rw [decide_eq_true a1]; exact four hv a1
    · rw [decide_eq_false a1]; exact no (by rw [hv, decide_eq_false (fun h => a1 h.1)])
  rw [if_neg k2]
  by_cases k3 : v.Kind = 3
  · rw [if_pos k3, isText_eq (by omega), Option.bind_some]
    have hv : locV v = (textB v.S && decide (v.N = 0 ∧ v.K.length = 0 ∧ v.L.length = 0)) := by unfold locV; rw [if_neg n06, if_neg k1, if_neg k2, if_pos k3]
    cases ht : textB v.S with
    | false => exact no (by rw [hv, ht]; rfl)
    | true =>
      rw [ht, Bool.true_and] at hv
      dsimp only
      by_cases a1 : v.N = 0
      · rw [if_pos a1]
        by_cases a2 : v.K.length = 0
        · rw [if_pos a2]; exact leaf (b := true) (by rw [hv]; simp [a1, a2]) rfl
        · rw [if_neg a2]; exact no (by rw [hv, decide_eq_false (fun h => a2 h.2.1)])
      · rw [if_neg a1]; exact no (by rw [hv, decide_eq_false (fun h => a1 h.1)])
  rw [if_neg k3]
  have ends : ∀ {b : Bool}, locV v = (b && decide (v.L.length ≤ 40)) → b = true → (if ((v.L.length : Nat) : Int) ≤ 40 then (G v.L ((e + 1 : Nat) : Int)).bind fun r12 => some (!r12) else some false) = some (locV v && v.L.all (shV e)) := fun h hb' => by
    by_cases h4 : v.L.length ≤ 40
    · rw [if_pos (by omega), hG, Option.bind_some, h, hb', decide_eq_true h4, Bool.not_not]; rfl
    · rw [if_neg (by omega)]; exact no (by rw [h, decide_eq_false h4, Bool.and_false])
  by_cases k4 : v.Kind = 4
  · rw [if_pos k4]
    have hv : locV v = decide (v.N = 0 ∧ v.S.length = 0 ∧ v.K.length = 0 ∧ v.L.length ≤ 40) := by unfold locV; rw [if_neg n06, if_neg k1, if_neg k2, if_neg k3, if_pos k4]
    by_cases a1 : v.K.length = 0
    · rw [if_pos a1]
      by_cases a2 : v.N = 0
      · rw [if_pos a2]
        by_cases a3 : v.S.length = 0
        · rw [if_pos a3]; exact ends (b := true) (by rw [hv]; simp [a1, a2, a3]) rfl
        · rw [if_neg a3]; exact no (by rw [hv, decide_eq_false (fun h => a3 h.2.1)])
      · rw [if_neg a2]; exact no (by rw [hv, decide_eq_false (fun h => a2 h.1)])
    · rw [if_neg a1]; exact no (by rw [hv, decide_eq_false (fun h => a1 h.2.2.1)])
  rw [if_neg k4]
  by_cases k5 : v.Kind = 5
  · rw [if_pos k5]
    have hv : locV v = (decide (v.K.length = v.L.length ∧ v.N = 0 ∧ v.S.length = 0 ∧ v.L.length ≤ 40) && kAll v.K 0 v.K.length) := by unfold locV; rw [if_neg n06, if_neg k1, if_neg k2, if_neg k3, if_neg k4, if_pos k5]
    by_cases a1 : ((v.K.length : Nat) : Int) = ((v.L.length : Nat) : Int)
    · rw [if_pos a1]
      have keys := fun (v0 v1 : Bool) => isShaped_keys (G := G) (v0 := v0) (v1 := v1) (a1 := ((e + 1 : Nat) : Int)) hs v.K.length 0 f (by omega) (by omega)
      simp only [show ((0 : Nat) : Int) = 0 from rfl] at keys
      have dead : ∀ {z : Int} {b : Bool}, (locV v = false) → ((some (if b = true then (.inr z : Bool ⊕ Int) else .inl false)).bind fun o12 => match o12 with | .inl o12_0 => some o12_0 | .inr (o12_1) => some false) = some (locV v && v.L.all (shV e)) := fun {z b} h => by
        cases b <;> exact no h
      by_cases a2 : v.N = 0
      · rw [if_pos a2]
        by_cases a3 : v.S.length = 0
        · rw [if_pos a3]
          obtain ⟨z, hz⟩ := keys true true
          rw [hz, Option.bind_some]
          cases hk : kAll v.K 0 v.K.length with
          | false => exact no (by rw [hv, hk, Bool.and_false])
          | true =>
            rw [if_pos rfl]
            dsimp only
            exact ends (b := true) (by rw [hv, hk]; simp [a2, a3, show v.K.length = v.L.length by omega]) rfl
        · rw [if_neg a3]
          obtain ⟨z, hz⟩ := keys true false
          rw [hz]
          exact dead (by rw [hv, decide_eq_false (fun h => a3 h.2.2.1)]; rfl)
      · rw [if_neg a2]
        by_cases a3 : v.S.length = 0
        · rw [if_pos a3]
          obtain ⟨z, hz⟩ := keys false true
          rw [hz]
          exact dead (by rw [hv, decide_eq_false (fun h => a2 h.2.1)]; rfl)
        · rw [if_neg a3]
          obtain ⟨z, hz⟩ := keys false false
          rw [hz]
          exact dead (by rw [hv, decide_eq_false (fun h => a2 h.2.1)]; rfl)
    · rw [if_neg a1]; exact no (by rw [hv, decide_eq_false (fun h => a1 (by omega))]; rfl)
  rw [if_neg k5]
  exact no (by unfold locV; simp only [k0, k1, k2, k3, k4, k5, k6, or_self, if_false])
theorem isShaped_U : ∀ (N : Nat) (v : GValue), vsz v < N → vsz v ≤ 2 ^ 20 → ∀ (f d : Nat), 4 * vsz v + 6 ≤ f → d ≤ 2 ^ 20 → U_impl_isShaped f v (d : Int) = some (shV d v) := by
  intro N
  induction N with
  | zero => intro v hv; omega
  | succ N ih =>
    intro v hv hs f d hf hd
    have he := vsz_eq v
    have hl := vszs_len v.L
    have hb := bsz_len v.K
    obtain ⟨f, rfl, _⟩ := fuel (show 0 < f by omega)
    rw [U_impl_isShaped]
    by_cases h0 : d = 0
    · subst h0; unfold T_impl_isShaped; rw [if_pos (show ((0 : Nat) : Int) = 0 from rfl)]; rfl
    refine isShaped_T hs (by omega) (by omega) ?_
    obtain ⟨f, rfl, _⟩ := fuel (show 0 < f by omega)
    obtain ⟨f, rfl, _⟩ := fuel (show 0 < f by omega)
    obtain ⟨f, rfl, _⟩ := fuel (show 0 < f by omega)
    rw [U_slices_ContainsFunc_Value_isShaped_1]
    unfold T_slices_ContainsFunc_Value_isShaped_1
    rw [U_slices_IndexFunc_Value_isShaped_1]
    obtain ⟨r, hr, hr2⟩ := slices_ContainsFunc_Value_isShaped_1_T (G := U_impl_isShaped_1 (f + 1)) (a := v.L) (f := f + 1) (e := (d : Int)) (p := shV (d - 1)) (by omega) (by omega) fun x hx => by
      have := vszs_mem hx
      rw [U_impl_isShaped_1]
      unfold T_impl_isShaped_1
      rw [w64_pred (by omega) (by omega), ih x (by omega) (by omega) f (d - 1) (by omega) (by omega)]
      rfl
    rw [hr, Option.bind_some, hr2]
def S_impl_isShaped_1 (a0 : GValue) (e0 : Int) : Option Bool := none
theorem spec_impl_isShaped_1 (a0 : GValue) (e0 : Int) (r : Bool) (h : S_impl_isShaped_1 a0 e0 = some r) : ∃ n, U_impl_isShaped_1 n a0 e0 = some r := by cases h
def S_slices_IndexFunc_Value_isShaped_1 (a0 : (List GValue)) (e0 : Int) : Option Int := none
theorem spec_slices_IndexFunc_Value_isShaped_1 (a0 : (List GValue)) (e0 : Int) (r : Int) (h : S_slices_IndexFunc_Value_isShaped_1 a0 e0 = some r) : ∃ n, U_slices_IndexFunc_Value_isShaped_1 n a0 e0 = some r := by cases h
def S_slices_ContainsFunc_Value_isShaped_1 (a0 : (List GValue)) (e0 : Int) : Option Bool := none
theorem spec_slices_ContainsFunc_Value_isShaped_1 (a0 : (List GValue)) (e0 : Int) (r : Bool) (h : S_slices_ContainsFunc_Value_isShaped_1 a0 e0 = some r) : ∃ n, U_slices_ContainsFunc_Value_isShaped_1 n a0 e0 = some r := by cases h
def S_impl_isShaped (a0 : GValue) (a1 : Int) : Option Bool := if vsz a0 ≤ 2 ^ 20 ∧ 0 ≤ a1 ∧ a1 ≤ 2 ^ 20 then some (shV a1.toNat a0) else none
theorem spec_impl_isShaped (a0 : GValue) (a1 : Int) (r : Bool) (h : S_impl_isShaped a0 a1 = some r) : ∃ n, U_impl_isShaped n a0 a1 = some r := by
  unfold S_impl_isShaped at h
  obtain ⟨⟨hs, h0, h1⟩, h⟩ := need_c h
  refine ⟨4 * vsz a0 + 6, ?_⟩
  have := isShaped_U _ a0 (Nat.lt_succ_self _) hs _ a1.toNat (Nat.le_refl _) (by omega)
  rw [show ((a1.toNat : Nat) : Int) = a1 by omega] at this
  rw [this]; exact h
theorem ok_impl_isShaped_1 (a0 : GValue) (e0 : Int) (r : Bool) (h : S_impl_isShaped_1 a0 e0 = some r) : (mach cfg).call 111 [.var [.int .i64 e0]] [.val true [.int .i64 a0.Kind, .int .i64 a0.N, .seq (eL e_u8 a0.S), .seq (eL (e_sl e_u8) a0.K), .seq (eL e_GValue a0.L)], .val false [.ptr 0 0]] = some (.val false [.bool r], [.var [.int .i64 e0]]) := by
  obtain ⟨n, hn⟩ := spec_impl_isShaped_1 a0 e0 r h
  exact (rec_impl_isShaped_1 n).1 a0 e0 r hn
theorem ok_slices_IndexFunc_Value_isShaped_1 (a0 : (List GValue)) (e0 : Int) (r : Int) (h : S_slices_IndexFunc_Value_isShaped_1 a0 e0 = some r) : (mach cfg).call 112 [.var [.int .i64 e0]] [.val false [.seq (eL e_GValue a0)], .val false [.fn 111 [.ptr 0 0]]] = some (.val false [.int .i64 r], [.var [.int .i64 e0]]) := by
  obtain ⟨n, hn⟩ := spec_slices_IndexFunc_Value_isShaped_1 a0 e0 r h
  exact (rec_impl_isShaped_1 n).2.1 a0 e0 r hn
theorem ok_slices_ContainsFunc_Value_isShaped_1 (a0 : (List GValue)) (e0 : Int) (r : Bool) (h : S_slices_ContainsFunc_Value_isShaped_1 a0 e0 = some r) : (mach cfg).call 75 [.var [.int .i64 e0]] [.val false [.seq (eL e_GValue a0)], .val false [.fn 111 [.ptr 0 0]]] = some (.val false [.bool r], [.var [.int .i64 e0]]) := by
  obtain ⟨n, hn⟩ := spec_slices_ContainsFunc_Value_isShaped_1 a0 e0 r h
  exact (rec_impl_isShaped_1 n).2.2.1 a0 e0 r hn
theorem ok_impl_isShaped (a0 : GValue) (a1 : Int) (r : Bool) (h : S_impl_isShaped a0 a1 = some r) : (mach cfg).call 73 [] [.val true [.int .i64 a0.Kind, .int .i64 a0.N, .seq (eL e_u8 a0.S), .seq (eL (e_sl e_u8) a0.K), .seq (eL e_GValue a0.L)], .val false [.int .i64 a1]] = some (.val false [.bool r], []) := by
  obtain ⟨n, hn⟩ := spec_impl_isShaped a0 a1 r h
  exact (rec_impl_isShaped_1 n).2.2.2 a0 a1 r hn
def L_impl_Value_parts_l0 (G_impl_Value_parts : GValue → Option Int) (v1 : (List GValue)) (v2 : Int) : Nat → Int → Int → Option (Int × Int)
  | 0, _, _ => none
  | m + 1, v0, v3 =>
    if v3 < v2 then
      (natO v3).bind fun i2 =>
      (v1[i2]?).bind fun x3 =>
      (G_impl_Value_parts x3).bind fun r4 =>
      L_impl_Value_parts_l0 G_impl_Value_parts v1 v2 m (w64 (v0 + r4)) (w64 (v3 + 1))
    else
      some (v0, v3)

theorem gl_impl_Value_parts_l0 (G_impl_Value_parts : GValue → Option Int) (H_impl_Value_parts : ∀ (a0 : GValue) (r : Int), G_impl_Value_parts a0 = some r → (mach cfg).call 74 [] [.val true [.int .i64 a0.Kind, .int .i64 a0.N, .seq (eL e_u8 a0.S), .seq (eL (e_sl e_u8) a0.K), .seq (eL e_GValue a0.L)]] = some (.val false [.int .i64 r], [])) (v1 : (List GValue)) (v2 : Int) (m : Nat) : ∀ (v0 : Int) (v3 : Int) (o : (Int × Int)), L_impl_Value_parts_l0 G_impl_Value_parts v1 v2 m v0 v3 = some o → (mach cfg).loop 74 (loopB Try.f74 0) ⟨[(3, .val false [.int .i64 v0]), (7, .val false [.seq (eL e_GValue v1)]), (8, .val false [.int .i64 v2]), (9, .val false [.int .i64 v3])], [], 0⟩ = some (match o with | ⟨o_0, o_1⟩ => (.exit 0, (⟨[(3, .val false [.int .i64 o_0]), (7, .val false [.seq (eL e_GValue v1)]), (8, .val false [.int .i64 v2]), (9, .val false [.int .i64 o_1]), (10, .val false [.bool false])], [], 0⟩ : S))) := by
  induction m with
  | zero => intro v0 v3 o h; cases h
  | succ m ih =>
    intro v0 v3 o h
    rw [L_impl_Value_parts_l0] at h
    rcases ite_some h with ⟨c1, h⟩ | ⟨c1, h⟩
    ·obtain ⟨i2, hi2, h⟩ := bs h
     obtain ⟨x3, hx3, h⟩ := bs h
     obtain ⟨r4, hr4, h⟩ := bs h
     exact loop_nQ [.lT c1, .na hi2, .ix hx3 (eq_GValue x3), .cl (H_impl_Value_parts x3 _ hr4), .ad v0 r4, .ad v3 1] (by kernel_rfl) (ih (w64 (v0 + r4)) (w64 (v3 + 1)) o h)
    ·obtain rfl := Option.some.inj h
     exact loop_eQ [.lF c1] (by kernel_rfl) (by intro h; cases h)

def T_impl_Value_parts (G_impl_Value_parts : GValue → Option Int) (n : Nat) (a0 : GValue) : Option Int :=
  (L_impl_Value_parts_l0 G_impl_Value_parts a0.L ((a0.L.length : Nat) : Int) n 1 0).bind fun ⟨o1_0, o1_1⟩ =>
  some o1_0

set_option maxRecDepth 100000 in
theorem fd_74 : cfg.funcs 74 = some (bodyOf Try.f74, Try.f74.ntmps, Try.f74.results.toList) := fn_of Try.func74 (by kernel_rfl) (by kernel_rfl)
theorem g_impl_Value_parts (G_impl_Value_parts : GValue → Option Int) (H_impl_Value_parts : ∀ (a0 : GValue) (r : Int), G_impl_Value_parts a0 = some r → (mach cfg).call 74 [] [.val true [.int .i64 a0.Kind, .int .i64 a0.N, .seq (eL e_u8 a0.S), .seq (eL (e_sl e_u8) a0.K), .seq (eL e_GValue a0.L)]] = some (.val false [.int .i64 r], [])) (n : Nat) (a0 : GValue) (r : Int) (h : T_impl_Value_parts G_impl_Value_parts n a0 = some r) : (mach cfg).call 74 [] [.val true [.int .i64 a0.Kind, .int .i64 a0.N, .seq (eL e_u8 a0.S), .seq (eL (e_sl e_u8) a0.K), .seq (eL e_GValue a0.L)]] = some (.val false [.int .i64 r], []) := by
  unfold T_impl_Value_parts at h
  obtain ⟨⟨o1_0, o1_1⟩, ho1, h⟩ := bs h
  try dsimp only at h
  obtain rfl := Option.some.inj h
  exact call_wQ [.le e_GValue a0.L, .lp (gl_impl_Value_parts_l0 G_impl_Value_parts H_impl_Value_parts a0.L ((a0.L.length : Nat) : Int) _ 1 0 _ ho1)] rfl fd_74 (by kernel_rfl)

def U_impl_Value_parts : Nat → GValue → Option Int
  | 0, _ => none
  | n + 1, a0 => T_impl_Value_parts (U_impl_Value_parts n) n a0
theorem rec_impl_Value_parts (n : Nat) : (∀ (a0 : GValue) (r : Int), U_impl_Value_parts n a0 = some r → (mach cfg).call 74 [] [.val true [.int .i64 a0.Kind, .int .i64 a0.N, .seq (eL e_u8 a0.S), .seq (eL (e_sl e_u8) a0.K), .seq (eL e_GValue a0.L)]] = some (.val false [.int .i64 r], [])) := by
  induction n with
  | zero => exact fun _ _ h => (by rw [U_impl_Value_parts] at h; cases h)
  | succ n ih =>
    have ih_impl_Value_parts := ih
    exact fun a0 r h => g_impl_Value_parts (U_impl_Value_parts n) ih_impl_Value_parts n a0 r (by rw [U_impl_Value_parts] at h; exact h)
theorem impl_Value_parts_T {G : GValue → Option Int} {v : GValue} {f : Nat} (hs : vsz v ≤ 2 ^ 20) (hf : v.L.length < f) (hG : ∀ x ∈ v.L, G x = some (((ptV x) : Nat) : Int)) : T_impl_Value_parts G f v = some (((ptV v) : Nat) : Int) := by
  have he := vsz_eq v
  have hl := vszs_len v.L
  have loop : ∀ (d i m : Nat) (r : Int), i + d = v.L.length → d < m → 0 ≤ r → r ≤ 2 ^ 21 - ptVs (v.L.drop i) → ∃ z, L_impl_Value_parts_l0 G v.L ((v.L.length : Nat) : Int) m r (i : Int) = some (r + ptVs (v.L.drop i), z) := by
    intro d
    induction d with
    | zero =>
      intro i m r hi hm h0 h1
      obtain ⟨m, rfl, _⟩ := fuel hm
      exact ⟨_, by rw [L_impl_Value_parts_l0, if_neg (by omega), List.drop_eq_nil_of_le (by omega)]; simp [ptVs]; rfl⟩
    | succ d ih =>
      intro i m r hi hm h0 h1
      obtain ⟨m, rfl, hm'⟩ := fuel hm
      have hil : i < v.L.length := by omega
      have hp : ptVs (v.L.drop i) = ptV v.L[i] + ptVs (v.L.drop (i + 1)) := by rw [drop_cons hil]; simp only [ptVs]
      rw [hp] at h1 ⊢
      rw [L_impl_Value_parts_l0, if_pos (by omega), natO_nat, Option.bind_some, get_some hil, Option.bind_some, hG _ (List.getElem_mem hil), Option.bind_some, w64_succ (by omega), w64_id (by omega) (by omega)]
      obtain ⟨z, hz⟩ := ih (i + 1) m (r + ptV v.L[i]) (by omega) (by omega) (by omega) (by omega)
      exact ⟨z, by rw [hz]; congr 2; omega⟩
  have hle := ptVs_le v.L
  obtain ⟨z, hz⟩ := loop v.L.length 0 f 1 (by omega) (by omega) (by omega) (by rw [List.drop_zero]; omega)
  rw [show ((0 : Nat) : Int) = 0 from rfl, List.drop_zero] at hz
  unfold T_impl_Value_parts
  rw [hz, ptV_eq]
  simp only [Option.bind_some]
  congr 1
theorem impl_Value_parts_U : ∀ (N : Nat) (v : GValue), vsz v < N → vsz v ≤ 2 ^ 20 → ∀ f : Nat, vsz v + 2 ≤ f → U_impl_Value_parts f v = some (((ptV v) : Nat) : Int) := by
  intro N
  induction N with
  | zero => intro v hv; omega
  | succ N ih =>
    intro v hv hs f hf
    obtain ⟨f, rfl, _⟩ := fuel (show 0 < f by omega)
    have he := vsz_eq v
    have hl := vszs_len v.L
    rw [U_impl_Value_parts]
    refine impl_Value_parts_T hs (by omega) fun x hx => ?_
    have := vszs_mem hx
    exact ih x (by omega) (by omega) f (by omega)
def S_impl_Value_parts (a0 : GValue) : Option Int := if vsz a0 ≤ 2 ^ 20 then some (((ptV a0) : Nat) : Int) else none
theorem spec_impl_Value_parts (a0 : GValue) (r : Int) (h : S_impl_Value_parts a0 = some r) : ∃ n, U_impl_Value_parts n a0 = some r := by
  unfold S_impl_Value_parts at h
  obtain ⟨ha, h⟩ := need_c h
  exact ⟨vsz a0 + 2, by rw [← h]; exact impl_Value_parts_U _ a0 (Nat.lt_succ_self _) ha _ (Nat.le_refl _)⟩
theorem ok_impl_Value_parts (a0 : GValue) (r : Int) (h : S_impl_Value_parts a0 = some r) : (mach cfg).call 74 [] [.val true [.int .i64 a0.Kind, .int .i64 a0.N, .seq (eL e_u8 a0.S), .seq (eL (e_sl e_u8) a0.K), .seq (eL e_GValue a0.L)]] = some (.val false [.int .i64 r], []) := by
  obtain ⟨n, hn⟩ := spec_impl_Value_parts a0 r h
  exact (rec_impl_Value_parts n) a0 r hn
def S_impl_isValue (a0 : GValue) : Option Bool :=
  (S_impl_isShaped a0 5).bind fun r1 =>
  match r1 with
  | true =>
    (S_impl_Value_parts a0).bind fun r3 =>
    some (decide (r3 ≤ 40))
  | false =>
    some false

set_option maxRecDepth 100000 in
theorem fd_42 : cfg.funcs 42 = some (bodyOf Try.f42, Try.f42.ntmps, Try.f42.results.toList) := fn_of Try.func42 (by kernel_rfl) (by kernel_rfl)
theorem ok_impl_isValue (a0 : GValue) (r : Bool) (h : S_impl_isValue a0 = some r) : (mach cfg).call 42 [] [.val true [.int .i64 a0.Kind, .int .i64 a0.N, .seq (eL e_u8 a0.S), .seq (eL (e_sl e_u8) a0.K), .seq (eL e_GValue a0.L)]] = some (.val false [.bool r], []) := by
  unfold S_impl_isValue at h
  obtain ⟨r1, hr1, h⟩ := bs h
  cases r1 with
  | true =>
   try dsimp only at h
   obtain ⟨r3, hr3, h⟩ := bs h
   obtain rfl := Option.some.inj h
   exact call_wQ [.cl (ok_impl_isShaped a0 5 _ hr1), .cl (ok_impl_Value_parts a0 _ hr3), .gD r3 40] rfl fd_42 (by kernel_rfl)
  | false =>
   try dsimp only at h
   obtain rfl := Option.some.inj h
   exact call_wQ [.cl (ok_impl_isShaped a0 5 _ hr1)] rfl fd_42 (by kernel_rfl)

def S_impl_call_1 (a0 : GValue) : Option Bool :=
  (S_impl_isValue a0).bind fun r1 =>
  some (!r1)

set_option maxRecDepth 100000 in
theorem fd_90 : cfg.funcs 90 = some (bodyOf Try.f90, Try.f90.ntmps, Try.f90.results.toList) := fn_of Try.func90 (by kernel_rfl) (by kernel_rfl)
theorem ok_impl_call_1 (a0 : GValue) (r : Bool) (h : S_impl_call_1 a0 = some r) : (mach cfg).call 90 [] [.val true [.int .i64 a0.Kind, .int .i64 a0.N, .seq (eL e_u8 a0.S), .seq (eL (e_sl e_u8) a0.K), .seq (eL e_GValue a0.L)]] = some (.val false [.bool r], []) := by
  unfold S_impl_call_1 at h
  obtain ⟨r1, hr1, h⟩ := bs h
  obtain rfl := Option.some.inj h
  exact call_wQ [.cl (ok_impl_isValue a0 _ hr1), .nt r1] rfl fd_90 (by kernel_rfl)

def L_slices_IndexFunc_Value_call_1_l0 (a0 : (List GValue)) (v1 : Int) : Nat → Int → Option (Int ⊕ Int)
  | 0, _ => none
  | m + 1, v2 =>
    if v2 < v1 then
      (natO v2).bind fun i2 =>
      (a0[i2]?).bind fun x3 =>
      (S_impl_call_1 x3).bind fun r4 =>
      match r4 with
      | true =>
        some (.inl v2)
      | false =>
        L_slices_IndexFunc_Value_call_1_l0 a0 v1 m (w64 (v2 + 1))
    else
      some (.inr v2)

theorem gl_slices_IndexFunc_Value_call_1_l0 (a0 : (List GValue)) (v1 : Int) (m : Nat) : ∀ (v2 : Int) (o : (Int ⊕ Int)), L_slices_IndexFunc_Value_call_1_l0 a0 v1 m v2 = some o → (mach cfg).loop 112 (loopB Try.f112 0) ⟨[(0, .val false [.seq (eL e_GValue a0)]), (1, .val false [.fn 90 []]), (7, .val false [.int .i64 v1]), (8, .val false [.int .i64 v2])], [], 0⟩ = some (match o with | .inl o_0 => (.ret, (⟨[(4, .val false [.int .i64 o_0])], [], 0⟩ : S)) | .inr (o_1) => (.exit 0, (⟨[(0, .val false [.seq (eL e_GValue a0)]), (1, .val false [.fn 90 []]), (7, .val false [.int .i64 v1]), (8, .val false [.int .i64 o_1]), (9, .val false [.bool false])], [], 0⟩ : S))) := by
  induction m with
  | zero => intro v2 o h; cases h
  | succ m ih =>
    intro v2 o h
    rw [L_slices_IndexFunc_Value_call_1_l0] at h
    rcases ite_some h with ⟨c1, h⟩ | ⟨c1, h⟩
    ·obtain ⟨i2, hi2, h⟩ := bs h
     obtain ⟨x3, hx3, h⟩ := bs h
     obtain ⟨r4, hr4, h⟩ := bs h
     cases r4 with
     | true =>
      try dsimp only at h
      obtain rfl := Option.some.inj h
      exact loop_eQ [.lT c1, .na hi2, .ix hx3 (eq_GValue x3), .cl (ok_impl_call_1 x3 _ hr4)] (by kernel_rfl) (by intro h; cases h)
     | false =>
      try dsimp only at h
      exact loop_nQ [.lT c1, .na hi2, .ix hx3 (eq_GValue x3), .cl (ok_impl_call_1 x3 _ hr4), .ad v2 1] (by kernel_rfl) (ih (w64 (v2 + 1)) o h)
    ·obtain rfl := Option.some.inj h
     exact loop_eQ [.lF c1] (by kernel_rfl) (by intro h; cases h)

def T_slices_IndexFunc_Value_call_1 (n : Nat) (a0 : (List GValue)) : Option Int :=
  (L_slices_IndexFunc_Value_call_1_l0 a0 ((a0.length : Nat) : Int) n 0).bind fun o1 =>
  match o1 with
  | .inl o1_0 =>
    some o1_0
  | .inr (o1_1) =>
    some (-1)

theorem g_slices_IndexFunc_Value_call_1 (n : Nat) (a0 : (List GValue)) (r : Int) (h : T_slices_IndexFunc_Value_call_1 n a0 = some r) : (mach cfg).call 112 [] [.val false [.seq (eL e_GValue a0)], .val false [.fn 90 []]] = some (.val false [.int .i64 r], []) := by
  unfold T_slices_IndexFunc_Value_call_1 at h
  obtain ⟨o1, ho1, h⟩ := bs h
  rcases o1 with o1_0 | o1_1
  · try dsimp only at h
    obtain rfl := Option.some.inj h
    exact call_wQ [.le e_GValue a0, .lp (gl_slices_IndexFunc_Value_call_1_l0 a0 ((a0.length : Nat) : Int) _ 0 _ ho1)] rfl fd_112 (by kernel_rfl)
  · try dsimp only at h
    obtain rfl := Option.some.inj h
    exact call_wQ [.le e_GValue a0, .lp (gl_slices_IndexFunc_Value_call_1_l0 a0 ((a0.length : Nat) : Int) _ 0 _ ho1)] rfl fd_112 (by kernel_rfl)

theorem valOk_eq {v : GValue} (h : vsz v ≤ 2 ^ 20) : S_impl_isValue v = some (valB v) := by
  unfold S_impl_isValue S_impl_isShaped S_impl_Value_parts valB
  rw [if_pos ⟨h, by decide, by decide⟩, Option.bind_some]
  rw [show (5 : Int).toNat = 5 from rfl]
  cases hs : shV 5 v
  · simp
  · dsimp only
    rw [if_pos h, Option.bind_some]
    simp
def ixNV : List GValue → Nat → Int
  | [], _ => -1
  | v :: l, i => if valB v = true then ixNV l (i + 1) else (i : Int)
theorem ixNV_pos : ∀ (l : List GValue) (i : Nat), 0 ≤ ixNV l i ↔ ¬ l.all valB = true
  | [], i => by simp [ixNV]
  | v :: l, i => by
    rw [ixNV, List.all_cons]
    by_cases h : valB v = true
    · rw [if_pos h, ixNV_pos l, h, Bool.true_and]
    · rw [if_neg h, Bool.eq_false_iff.2 h]; simp
theorem ixcall_loop {a : List GValue} (ha : a.length ≤ 2 ^ 40) (hs : ∀ v ∈ a, vsz v ≤ 2 ^ 20) : ∀ (l p : List GValue) (m : Nat), a = p ++ l → l.length < m → ∃ z, L_slices_IndexFunc_Value_call_1_l0 a ((a.length : Nat) : Int) m ((p.length : Nat) : Int) = some (if l.all valB = true then .inr z else .inl (ixNV l p.length)) := by
  intro l
  induction l with
  | nil =>
    intro p m he hm
    subst he
    obtain ⟨m, rfl, _⟩ := fuel hm
    exact ⟨_, by rw [L_slices_IndexFunc_Value_call_1_l0, if_neg (nlt_end p)]; rfl⟩
  | cons x l ih =>
    intro p m he hm
    obtain ⟨m, rfl, hm'⟩ := fuel hm
    have hlen : a.length = p.length + (l.length + 1) := by rw [he]; simp
    rw [L_slices_IndexFunc_Value_call_1_l0, if_pos (by omega), natO_nat, Option.bind_some, show a[p.length]? = some x by rw [he]; exact get_mid p x l, Option.bind_some]
    unfold S_impl_call_1
    rw [valOk_eq (hs x (by rw [he]; simp)), Option.bind_some, Option.bind_some, w64_len p x (by omega)]
    by_cases hp : valB x = true
    · obtain ⟨z, hz⟩ := ih (p ++ [x]) m (by rw [he]; simp) (by simp only [List.length_cons] at hm'; omega)
      refine ⟨z, ?_⟩
      rw [hp]
      show L_slices_IndexFunc_Value_call_1_l0 _ _ _ _ = _
      rw [hz]
      simp only [List.all_cons, hp, Bool.true_and, ixNV, if_true, List.length_append, List.length_cons, List.length_nil]
    · refine ⟨0, ?_⟩
      rw [Bool.eq_false_iff.2 hp]
      simp only [List.all_cons, Bool.eq_false_iff.2 hp, Bool.false_and, ixNV, Bool.not_false, Bool.false_eq_true, if_false]
def S_slices_IndexFunc_Value_call_1 (a0 : (List GValue)) : Option Int := if a0.length ≤ 2 ^ 40 ∧ ∀ v ∈ a0, vsz v ≤ 2 ^ 20 then some (ixNV a0 0) else none
theorem spec_slices_IndexFunc_Value_call_1 (a0 : (List GValue)) (r : Int) (h : S_slices_IndexFunc_Value_call_1 a0 = some r) : ∃ n, T_slices_IndexFunc_Value_call_1 n a0 = some r := by
  unfold S_slices_IndexFunc_Value_call_1 at h
  obtain ⟨⟨ha, hs⟩, h⟩ := need_c h
  obtain ⟨z, hz⟩ := ixcall_loop ha hs a0 [] (a0.length + 1) rfl (by omega)
  refine ⟨a0.length + 1, ?_⟩
  unfold T_slices_IndexFunc_Value_call_1
  simp only [List.length_nil, Int.natCast_zero] at hz
  rw [hz, Option.bind_some, ← h]
  by_cases hc : a0.all valB = true
  · rw [if_pos hc]
    have : ∀ (l : List GValue) (i : Nat), l.all valB = true → ixNV l i = -1 := by
      intro l
      induction l with
      | nil => intro i _; rfl
      | cons v l ih =>
        intro i hl
        rw [List.all_cons, Bool.and_eq_true] at hl
        rw [ixNV, if_pos hl.1, ih _ hl.2]
    rw [this a0 0 hc]
  · rw [if_neg hc]
theorem ok_slices_IndexFunc_Value_call_1 (a0 : (List GValue)) (r : Int) (h : S_slices_IndexFunc_Value_call_1 a0 = some r) : (mach cfg).call 112 [] [.val false [.seq (eL e_GValue a0)], .val false [.fn 90 []]] = some (.val false [.int .i64 r], []) := by
  obtain ⟨n, hn⟩ := spec_slices_IndexFunc_Value_call_1 a0 r h
  exact g_slices_IndexFunc_Value_call_1 n a0 r hn
def S_slices_ContainsFunc_Value_call_1 (a0 : (List GValue)) : Option Bool :=
  (S_slices_IndexFunc_Value_call_1 a0).bind fun r1 =>
  some (decide (0 ≤ r1))

theorem ok_slices_ContainsFunc_Value_call_1 (a0 : (List GValue)) (r : Bool) (h : S_slices_ContainsFunc_Value_call_1 a0 = some r) : (mach cfg).call 75 [] [.val false [.seq (eL e_GValue a0)], .val false [.fn 90 []]] = some (.val false [.bool r], []) := by
  unfold S_slices_ContainsFunc_Value_call_1 at h
  obtain ⟨r1, hr1, h⟩ := bs h
  obtain rfl := Option.some.inj h
  exact call_wQ [.cl (ok_slices_IndexFunc_Value_call_1 a0 _ hr1), .gD 0 r1] rfl fd_75 (by kernel_rfl)

def S_impl_wants (a0 : (List UInt8)) : Option (List (List Int)) :=
  if a0 = [108, 101, 110] then
    some [[3, 4, 5]]
  else
    if a0 = [99, 97, 116] then
      some [[3], [3]]
    else
      if a0 = [107, 101, 121, 115] then
        some [[5]]
      else
        if a0 = [118, 97, 108, 115] then
          some [[5]]
        else
          if a0 = [104, 97, 115] then
            some [[5], [3]]
          else
            if a0 = [109, 105, 110] then
              some [[2], [2]]
            else
              if a0 = [109, 97, 120] then
                some [[2], [2]]
              else
                some []

set_option maxRecDepth 100000 in
theorem fd_91 : cfg.funcs 91 = some (bodyOf Try.f91, Try.f91.ntmps, Try.f91.results.toList) := fn_of Try.func91 (by kernel_rfl) (by kernel_rfl)
theorem ok_impl_wants (a0 : (List UInt8)) (r : (List (List Int))) (h : S_impl_wants a0 = some r) : (mach cfg).call 91 [] [.val false [.str a0]] = some (.val false [.seq (eL (e_sl e_int) r)], []) := by
  unfold S_impl_wants at h
  rcases ite_some h with ⟨c1, h⟩ | ⟨c1, h⟩
  ·obtain rfl := Option.some.inj h
   exact call_wQ [⟨.view (eL (o_sl 1 e_int) [[3, 4, 5]]), .l (eL (e_sl e_int) [[3, 4, 5]]), (A.viewO (O_sl 1 O_int))⟩, ⟨.view (eL (o_sl 1 e_int) [[3], [3]]), .l (eL (e_sl e_int) [[3], [3]]), (A.viewO (O_sl 1 O_int))⟩, ⟨.eqS [99, 97, 116] [108, 101, 110], .b false, (A.eqS_f (by decide))⟩, ⟨.view (eL (o_sl 1 e_int) [[5]]), .l (eL (e_sl e_int) [[5]]), (A.viewO (O_sl 1 O_int))⟩, ⟨.eqS [107, 101, 121, 115] [108, 101, 110], .b false, (A.eqS_f (by decide))⟩, ⟨.eqS [107, 101, 121, 115] [99, 97, 116], .b false, (A.eqS_f (by decide))⟩, ⟨.view (eL (o_sl 1 e_int) [[5]]), .l (eL (e_sl e_int) [[5]]), (A.viewO (O_sl 1 O_int))⟩, ⟨.eqS [118, 97, 108, 115] [108, 101, 110], .b false, (A.eqS_f (by decide))⟩, ⟨.eqS [118, 97, 108, 115] [99, 97, 116], .b false, (A.eqS_f (by decide))⟩, ⟨.eqS [118, 97, 108, 115] [107, 101, 121, 115], .b false, (A.eqS_f (by decide))⟩, ⟨.view (eL (o_sl 1 e_int) [[5], [3]]), .l (eL (e_sl e_int) [[5], [3]]), (A.viewO (O_sl 1 O_int))⟩, ⟨.eqS [104, 97, 115] [108, 101, 110], .b false, (A.eqS_f (by decide))⟩, ⟨.eqS [104, 97, 115] [99, 97, 116], .b false, (A.eqS_f (by decide))⟩, ⟨.eqS [104, 97, 115] [107, 101, 121, 115], .b false, (A.eqS_f (by decide))⟩, ⟨.eqS [104, 97, 115] [118, 97, 108, 115], .b false, (A.eqS_f (by decide))⟩, ⟨.view (eL (o_sl 1 e_int) [[2], [2]]), .l (eL (e_sl e_int) [[2], [2]]), (A.viewO (O_sl 1 O_int))⟩, ⟨.eqS [109, 105, 110] [108, 101, 110], .b false, (A.eqS_f (by decide))⟩, ⟨.eqS [109, 105, 110] [99, 97, 116], .b false, (A.eqS_f (by decide))⟩, ⟨.eqS [109, 105, 110] [107, 101, 121, 115], .b false, (A.eqS_f (by decide))⟩, ⟨.eqS [109, 105, 110] [118, 97, 108, 115], .b false, (A.eqS_f (by decide))⟩, ⟨.eqS [109, 105, 110] [104, 97, 115], .b false, (A.eqS_f (by decide))⟩, ⟨.view (eL (o_sl 1 e_int) [[2], [2]]), .l (eL (e_sl e_int) [[2], [2]]), (A.viewO (O_sl 1 O_int))⟩, ⟨.eqS [109, 97, 120] [108, 101, 110], .b false, (A.eqS_f (by decide))⟩, ⟨.eqS [109, 97, 120] [99, 97, 116], .b false, (A.eqS_f (by decide))⟩, ⟨.eqS [109, 97, 120] [107, 101, 121, 115], .b false, (A.eqS_f (by decide))⟩, ⟨.eqS [109, 97, 120] [118, 97, 108, 115], .b false, (A.eqS_f (by decide))⟩, ⟨.eqS [109, 97, 120] [104, 97, 115], .b false, (A.eqS_f (by decide))⟩, ⟨.eqS [109, 97, 120] [109, 105, 110], .b false, (A.eqS_f (by decide))⟩, .sT c1] rfl fd_91 (by kernel_rfl)
  ·rcases ite_some h with ⟨c2, h⟩ | ⟨c2, h⟩
   ·obtain rfl := Option.some.inj h
    exact call_wQ [⟨.view (eL (o_sl 1 e_int) [[3, 4, 5]]), .l (eL (e_sl e_int) [[3, 4, 5]]), (A.viewO (O_sl 1 O_int))⟩, ⟨.view (eL (o_sl 1 e_int) [[3], [3]]), .l (eL (e_sl e_int) [[3], [3]]), (A.viewO (O_sl 1 O_int))⟩, ⟨.eqS [99, 97, 116] [108, 101, 110], .b false, (A.eqS_f (by decide))⟩, ⟨.view (eL (o_sl 1 e_int) [[5]]), .l (eL (e_sl e_int) [[5]]), (A.viewO (O_sl 1 O_int))⟩, ⟨.eqS [107, 101, 121, 115] [108, 101, 110], .b false, (A.eqS_f (by decide))⟩, ⟨.eqS [107, 101, 121, 115] [99, 97, 116], .b false, (A.eqS_f (by decide))⟩, ⟨.view (eL (o_sl 1 e_int) [[5]]), .l (eL (e_sl e_int) [[5]]), (A.viewO (O_sl 1 O_int))⟩, ⟨.eqS [118, 97, 108, 115] [108, 101, 110], .b false, (A.eqS_f (by decide))⟩, ⟨.eqS [118, 97, 108, 115] [99, 97, 116], .b false, (A.eqS_f (by decide))⟩, ⟨.eqS [118, 97, 108, 115] [107, 101, 121, 115], .b false, (A.eqS_f (by decide))⟩, ⟨.view (eL (o_sl 1 e_int) [[5], [3]]), .l (eL (e_sl e_int) [[5], [3]]), (A.viewO (O_sl 1 O_int))⟩, ⟨.eqS [104, 97, 115] [108, 101, 110], .b false, (A.eqS_f (by decide))⟩, ⟨.eqS [104, 97, 115] [99, 97, 116], .b false, (A.eqS_f (by decide))⟩, ⟨.eqS [104, 97, 115] [107, 101, 121, 115], .b false, (A.eqS_f (by decide))⟩, ⟨.eqS [104, 97, 115] [118, 97, 108, 115], .b false, (A.eqS_f (by decide))⟩, ⟨.view (eL (o_sl 1 e_int) [[2], [2]]), .l (eL (e_sl e_int) [[2], [2]]), (A.viewO (O_sl 1 O_int))⟩, ⟨.eqS [109, 105, 110] [108, 101, 110], .b false, (A.eqS_f (by decide))⟩, ⟨.eqS [109, 105, 110] [99, 97, 116], .b false, (A.eqS_f (by decide))⟩, ⟨.eqS [109, 105, 110] [107, 101, 121, 115], .b false, (A.eqS_f (by decide))⟩, ⟨.eqS [109, 105, 110] [118, 97, 108, 115], .b false, (A.eqS_f (by decide))⟩, ⟨.eqS [109, 105, 110] [104, 97, 115], .b false, (A.eqS_f (by decide))⟩, ⟨.view (eL (o_sl 1 e_int) [[2], [2]]), .l (eL (e_sl e_int) [[2], [2]]), (A.viewO (O_sl 1 O_int))⟩, ⟨.eqS [109, 97, 120] [108, 101, 110], .b false, (A.eqS_f (by decide))⟩, ⟨.eqS [109, 97, 120] [99, 97, 116], .b false, (A.eqS_f (by decide))⟩, ⟨.eqS [109, 97, 120] [107, 101, 121, 115], .b false, (A.eqS_f (by decide))⟩, ⟨.eqS [109, 97, 120] [118, 97, 108, 115], .b false, (A.eqS_f (by decide))⟩, ⟨.eqS [109, 97, 120] [104, 97, 115], .b false, (A.eqS_f (by decide))⟩, ⟨.eqS [109, 97, 120] [109, 105, 110], .b false, (A.eqS_f (by decide))⟩, .sF c1, .sT c2] rfl fd_91 (by kernel_rfl)
   ·rcases ite_some h with ⟨c3, h⟩ | ⟨c3, h⟩
    ·obtain rfl := Option.some.inj h
     exact call_wQ [⟨.view (eL (o_sl 1 e_int) [[3, 4, 5]]), .l (eL (e_sl e_int) [[3, 4, 5]]), (A.viewO (O_sl 1 O_int))⟩, ⟨.view (eL (o_sl 1 e_int) [[3], [3]]), .l (eL (e_sl e_int) [[3], [3]]), (A.viewO (O_sl 1 O_int))⟩, ⟨.eqS [99, 97, 116] [108, 101, 110], .b false, (A.eqS_f (by decide))⟩, ⟨.view (eL (o_sl 1 e_int) [[5]]), .l (eL (e_sl e_int) [[5]]), (A.viewO (O_sl 1 O_int))⟩, ⟨.eqS [107, 101, 121, 115] [108, 101, 110], .b false, (A.eqS_f (by decide))⟩, ⟨.eqS [107, 101, 121, 115] [99, 97, 116], .b false, (A.eqS_f (by decide))⟩, ⟨.view (eL (o_sl 1 e_int) [[5]]), .l (eL (e_sl e_int) [[5]]), (A.viewO (O_sl 1 O_int))⟩, ⟨.eqS [118, 97, 108, 115] [108, 101, 110], .b false, (A.eqS_f (by decide))⟩, ⟨.eqS [118, 97, 108, 115] [99, 97, 116], .b false, (A.eqS_f (by decide))⟩, ⟨.eqS [118, 97, 108, 115] [107, 101, 121, 115], .b false, (A.eqS_f (by decide))⟩, ⟨.view (eL (o_sl 1 e_int) [[5], [3]]), .l (eL (e_sl e_int) [[5], [3]]), (A.viewO (O_sl 1 O_int))⟩, ⟨.eqS [104, 97, 115] [108, 101, 110], .b false, (A.eqS_f (by decide))⟩, ⟨.eqS [104, 97, 115] [99, 97, 116], .b false, (A.eqS_f (by decide))⟩, ⟨.eqS [104, 97, 115] [107, 101, 121, 115], .b false, (A.eqS_f (by decide))⟩, ⟨.eqS [104, 97, 115] [118, 97, 108, 115], .b false, (A.eqS_f (by decide))⟩, ⟨.view (eL (o_sl 1 e_int) [[2], [2]]), .l (eL (e_sl e_int) [[2], [2]]), (A.viewO (O_sl 1 O_int))⟩, ⟨.eqS [109, 105, 110] [108, 101, 110], .b false, (A.eqS_f (by decide))⟩, ⟨.eqS [109, 105, 110] [99, 97, 116], .b false, (A.eqS_f (by decide))⟩, ⟨.eqS [109, 105, 110] [107, 101, 121, 115], .b false, (A.eqS_f (by decide))⟩, ⟨.eqS [109, 105, 110] [118, 97, 108, 115], .b false, (A.eqS_f (by decide))⟩, ⟨.eqS [109, 105, 110] [104, 97, 115], .b false, (A.eqS_f (by decide))⟩, ⟨.view (eL (o_sl 1 e_int) [[2], [2]]), .l (eL (e_sl e_int) [[2], [2]]), (A.viewO (O_sl 1 O_int))⟩, ⟨.eqS [109, 97, 120] [108, 101, 110], .b false, (A.eqS_f (by decide))⟩, ⟨.eqS [109, 97, 120] [99, 97, 116], .b false, (A.eqS_f (by decide))⟩, ⟨.eqS [109, 97, 120] [107, 101, 121, 115], .b false, (A.eqS_f (by decide))⟩, ⟨.eqS [109, 97, 120] [118, 97, 108, 115], .b false, (A.eqS_f (by decide))⟩, ⟨.eqS [109, 97, 120] [104, 97, 115], .b false, (A.eqS_f (by decide))⟩, ⟨.eqS [109, 97, 120] [109, 105, 110], .b false, (A.eqS_f (by decide))⟩, .sF c1, .sF c2, .sT c3] rfl fd_91 (by kernel_rfl)
    ·rcases ite_some h with ⟨c4, h⟩ | ⟨c4, h⟩
     ·obtain rfl := Option.some.inj h
      exact call_wQ [⟨.view (eL (o_sl 1 e_int) [[3, 4, 5]]), .l (eL (e_sl e_int) [[3, 4, 5]]), (A.viewO (O_sl 1 O_int))⟩, ⟨.view (eL (o_sl 1 e_int) [[3], [3]]), .l (eL (e_sl e_int) [[3], [3]]), (A.viewO (O_sl 1 O_int))⟩, ⟨.eqS [99, 97, 116] [108, 101, 110], .b false, (A.eqS_f (by decide))⟩, ⟨.view (eL (o_sl 1 e_int) [[5]]), .l (eL (e_sl e_int) [[5]]), (A.viewO (O_sl 1 O_int))⟩, ⟨.eqS [107, 101, 121, 115] [108, 101, 110], .b false, (A.eqS_f (by decide))⟩, ⟨.eqS [107, 101, 121, 115] [99, 97, 116], .b false, (A.eqS_f (by decide))⟩, ⟨.view (eL (o_sl 1 e_int) [[5]]), .l (eL (e_sl e_int) [[5]]), (A.viewO (O_sl 1 O_int))⟩, ⟨.eqS [118, 97, 108, 115] [108, 101, 110], .b false, (A.eqS_f (by decide))⟩, ⟨.eqS [118, 97, 108, 115] [99, 97, 116], .b false, (A.eqS_f (by decide))⟩, ⟨.eqS [118, 97, 108, 115] [107, 101, 121, 115], .b false, (A.eqS_f (by decide))⟩, ⟨.view (eL (o_sl 1 e_int) [[5], [3]]), .l (eL (e_sl e_int) [[5], [3]]), (A.viewO (O_sl 1 O_int))⟩, ⟨.eqS [104, 97, 115] [108, 101, 110], .b false, (A.eqS_f (by decide))⟩, ⟨.eqS [104, 97, 115] [99, 97, 116], .b false, (A.eqS_f (by decide))⟩, ⟨.eqS [104, 97, 115] [107, 101, 121, 115], .b false, (A.eqS_f (by decide))⟩, ⟨.eqS [104, 97, 115] [118, 97, 108, 115], .b false, (A.eqS_f (by decide))⟩, ⟨.view (eL (o_sl 1 e_int) [[2], [2]]), .l (eL (e_sl e_int) [[2], [2]]), (A.viewO (O_sl 1 O_int))⟩, ⟨.eqS [109, 105, 110] [108, 101, 110], .b false, (A.eqS_f (by decide))⟩, ⟨.eqS [109, 105, 110] [99, 97, 116], .b false, (A.eqS_f (by decide))⟩, ⟨.eqS [109, 105, 110] [107, 101, 121, 115], .b false, (A.eqS_f (by decide))⟩, ⟨.eqS [109, 105, 110] [118, 97, 108, 115], .b false, (A.eqS_f (by decide))⟩, ⟨.eqS [109, 105, 110] [104, 97, 115], .b false, (A.eqS_f (by decide))⟩, ⟨.view (eL (o_sl 1 e_int) [[2], [2]]), .l (eL (e_sl e_int) [[2], [2]]), (A.viewO (O_sl 1 O_int))⟩, ⟨.eqS [109, 97, 120] [108, 101, 110], .b false, (A.eqS_f (by decide))⟩, ⟨.eqS [109, 97, 120] [99, 97, 116], .b false, (A.eqS_f (by decide))⟩, ⟨.eqS [109, 97, 120] [107, 101, 121, 115], .b false, (A.eqS_f (by decide))⟩, ⟨.eqS [109, 97, 120] [118, 97, 108, 115], .b false, (A.eqS_f (by decide))⟩, ⟨.eqS [109, 97, 120] [104, 97, 115], .b false, (A.eqS_f (by decide))⟩, ⟨.eqS [109, 97, 120] [109, 105, 110], .b false, (A.eqS_f (by decide))⟩, .sF c1, .sF c2, .sF c3, .sT c4] rfl fd_91 (by kernel_rfl)
     ·rcases ite_some h with ⟨c5, h⟩ | ⟨c5, h⟩
      ·obtain rfl := Option.some.inj h
       exact call_wQ [⟨.view (eL (o_sl 1 e_int) [[3, 4, 5]]), .l (eL (e_sl e_int) [[3, 4, 5]]), (A.viewO (O_sl 1 O_int))⟩, ⟨.view (eL (o_sl 1 e_int) [[3], [3]]), .l (eL (e_sl e_int) [[3], [3]]), (A.viewO (O_sl 1 O_int))⟩, ⟨.eqS [99, 97, 116] [108, 101, 110], .b false, (A.eqS_f (by decide))⟩, ⟨.view (eL (o_sl 1 e_int) [[5]]), .l (eL (e_sl e_int) [[5]]), (A.viewO (O_sl 1 O_int))⟩, ⟨.eqS [107, 101, 121, 115] [108, 101, 110], .b false, (A.eqS_f (by decide))⟩, ⟨.eqS [107, 101, 121, 115] [99, 97, 116], .b false, (A.eqS_f (by decide))⟩, ⟨.view (eL (o_sl 1 e_int) [[5]]), .l (eL (e_sl e_int) [[5]]), (A.viewO (O_sl 1 O_int))⟩, ⟨.eqS [118, 97, 108, 115] [108, 101, 110], .b false, (A.eqS_f (by decide))⟩, ⟨.eqS [118, 97, 108, 115] [99, 97, 116], .b false, (A.eqS_f (by decide))⟩, ⟨.eqS [118, 97, 108, 115] [107, 101, 121, 115], .b false, (A.eqS_f (by decide))⟩, ⟨.view (eL (o_sl 1 e_int) [[5], [3]]), .l (eL (e_sl e_int) [[5], [3]]), (A.viewO (O_sl 1 O_int))⟩, ⟨.eqS [104, 97, 115] [108, 101, 110], .b false, (A.eqS_f (by decide))⟩, ⟨.eqS [104, 97, 115] [99, 97, 116], .b false, (A.eqS_f (by decide))⟩, ⟨.eqS [104, 97, 115] [107, 101, 121, 115], .b false, (A.eqS_f (by decide))⟩, ⟨.eqS [104, 97, 115] [118, 97, 108, 115], .b false, (A.eqS_f (by decide))⟩, ⟨.view (eL (o_sl 1 e_int) [[2], [2]]), .l (eL (e_sl e_int) [[2], [2]]), (A.viewO (O_sl 1 O_int))⟩, ⟨.eqS [109, 105, 110] [108, 101, 110], .b false, (A.eqS_f (by decide))⟩, ⟨.eqS [109, 105, 110] [99, 97, 116], .b false, (A.eqS_f (by decide))⟩, ⟨.eqS [109, 105, 110] [107, 101, 121, 115], .b false, (A.eqS_f (by decide))⟩, ⟨.eqS [109, 105, 110] [118, 97, 108, 115], .b false, (A.eqS_f (by decide))⟩, ⟨.eqS [109, 105, 110] [104, 97, 115], .b false, (A.eqS_f (by decide))⟩, ⟨.view (eL (o_sl 1 e_int) [[2], [2]]), .l (eL (e_sl e_int) [[2], [2]]), (A.viewO (O_sl 1 O_int))⟩, ⟨.eqS [109, 97, 120] [108, 101, 110], .b false, (A.eqS_f (by decide))⟩, ⟨.eqS [109, 97, 120] [99, 97, 116], .b false, (A.eqS_f (by decide))⟩, ⟨.eqS [109, 97, 120] [107, 101, 121, 115], .b false, (A.eqS_f (by decide))⟩, ⟨.eqS [109, 97, 120] [118, 97, 108, 115], .b false, (A.eqS_f (by decide))⟩, ⟨.eqS [109, 97, 120] [104, 97, 115], .b false, (A.eqS_f (by decide))⟩, ⟨.eqS [109, 97, 120] [109, 105, 110], .b false, (A.eqS_f (by decide))⟩, .sF c1, .sF c2, .sF c3, .sF c4, .sT c5] rfl fd_91 (by kernel_rfl)
      ·rcases ite_some h with ⟨c6, h⟩ | ⟨c6, h⟩
       ·obtain rfl := Option.some.inj h
        exact call_wQ [⟨.view (eL (o_sl 1 e_int) [[3, 4, 5]]), .l (eL (e_sl e_int) [[3, 4, 5]]), (A.viewO (O_sl 1 O_int))⟩, ⟨.view (eL (o_sl 1 e_int) [[3], [3]]), .l (eL (e_sl e_int) [[3], [3]]), (A.viewO (O_sl 1 O_int))⟩, ⟨.eqS [99, 97, 116] [108, 101, 110], .b false, (A.eqS_f (by decide))⟩, ⟨.view (eL (o_sl 1 e_int) [[5]]), .l (eL (e_sl e_int) [[5]]), (A.viewO (O_sl 1 O_int))⟩, ⟨.eqS [107, 101, 121, 115] [108, 101, 110], .b false, (A.eqS_f (by decide))⟩, ⟨.eqS [107, 101, 121, 115] [99, 97, 116], .b false, (A.eqS_f (by decide))⟩, ⟨.view (eL (o_sl 1 e_int) [[5]]), .l (eL (e_sl e_int) [[5]]), (A.viewO (O_sl 1 O_int))⟩, ⟨.eqS [118, 97, 108, 115] [108, 101, 110], .b false, (A.eqS_f (by decide))⟩, ⟨.eqS [118, 97, 108, 115] [99, 97, 116], .b false, (A.eqS_f (by decide))⟩, ⟨.eqS [118, 97, 108, 115] [107, 101, 121, 115], .b false, (A.eqS_f (by decide))⟩, ⟨.view (eL (o_sl 1 e_int) [[5], [3]]), .l (eL (e_sl e_int) [[5], [3]]), (A.viewO (O_sl 1 O_int))⟩, ⟨.eqS [104, 97, 115] [108, 101, 110], .b false, (A.eqS_f (by decide))⟩, ⟨.eqS [104, 97, 115] [99, 97, 116], .b false, (A.eqS_f (by decide))⟩, ⟨.eqS [104, 97, 115] [107, 101, 121, 115], .b false, (A.eqS_f (by decide))⟩, ⟨.eqS [104, 97, 115] [118, 97, 108, 115], .b false, (A.eqS_f (by decide))⟩, ⟨.view (eL (o_sl 1 e_int) [[2], [2]]), .l (eL (e_sl e_int) [[2], [2]]), (A.viewO (O_sl 1 O_int))⟩, ⟨.eqS [109, 105, 110] [108, 101, 110], .b false, (A.eqS_f (by decide))⟩, ⟨.eqS [109, 105, 110] [99, 97, 116], .b false, (A.eqS_f (by decide))⟩, ⟨.eqS [109, 105, 110] [107, 101, 121, 115], .b false, (A.eqS_f (by decide))⟩, ⟨.eqS [109, 105, 110] [118, 97, 108, 115], .b false, (A.eqS_f (by decide))⟩, ⟨.eqS [109, 105, 110] [104, 97, 115], .b false, (A.eqS_f (by decide))⟩, ⟨.view (eL (o_sl 1 e_int) [[2], [2]]), .l (eL (e_sl e_int) [[2], [2]]), (A.viewO (O_sl 1 O_int))⟩, ⟨.eqS [109, 97, 120] [108, 101, 110], .b false, (A.eqS_f (by decide))⟩, ⟨.eqS [109, 97, 120] [99, 97, 116], .b false, (A.eqS_f (by decide))⟩, ⟨.eqS [109, 97, 120] [107, 101, 121, 115], .b false, (A.eqS_f (by decide))⟩, ⟨.eqS [109, 97, 120] [118, 97, 108, 115], .b false, (A.eqS_f (by decide))⟩, ⟨.eqS [109, 97, 120] [104, 97, 115], .b false, (A.eqS_f (by decide))⟩, ⟨.eqS [109, 97, 120] [109, 105, 110], .b false, (A.eqS_f (by decide))⟩, .sF c1, .sF c2, .sF c3, .sF c4, .sF c5, .sT c6] rfl fd_91 (by kernel_rfl)
       ·rcases ite_some h with ⟨c7, h⟩ | ⟨c7, h⟩
        ·obtain rfl := Option.some.inj h
         exact call_wQ [⟨.view (eL (o_sl 1 e_int) [[3, 4, 5]]), .l (eL (e_sl e_int) [[3, 4, 5]]), (A.viewO (O_sl 1 O_int))⟩, ⟨.view (eL (o_sl 1 e_int) [[3], [3]]), .l (eL (e_sl e_int) [[3], [3]]), (A.viewO (O_sl 1 O_int))⟩, ⟨.eqS [99, 97, 116] [108, 101, 110], .b false, (A.eqS_f (by decide))⟩, ⟨.view (eL (o_sl 1 e_int) [[5]]), .l (eL (e_sl e_int) [[5]]), (A.viewO (O_sl 1 O_int))⟩, ⟨.eqS [107, 101, 121, 115] [108, 101, 110], .b false, (A.eqS_f (by decide))⟩, ⟨.eqS [107, 101, 121, 115] [99, 97, 116], .b false, (A.eqS_f (by decide))⟩, ⟨.view (eL (o_sl 1 e_int) [[5]]), .l (eL (e_sl e_int) [[5]]), (A.viewO (O_sl 1 O_int))⟩, ⟨.eqS [118, 97, 108, 115] [108, 101, 110], .b false, (A.eqS_f (by decide))⟩, ⟨.eqS [118, 97, 108, 115] [99, 97, 116], .b false, (A.eqS_f (by decide))⟩, ⟨.eqS [118, 97, 108, 115] [107, 101, 121, 115], .b false, (A.eqS_f (by decide))⟩, ⟨.view (eL (o_sl 1 e_int) [[5], [3]]), .l (eL (e_sl e_int) [[5], [3]]), (A.viewO (O_sl 1 O_int))⟩, ⟨.eqS [104, 97, 115] [108, 101, 110], .b false, (A.eqS_f (by decide))⟩, ⟨.eqS [104, 97, 115] [99, 97, 116], .b false, (A.eqS_f (by decide))⟩, ⟨.eqS [104, 97, 115] [107, 101, 121, 115], .b false, (A.eqS_f (by decide))⟩, ⟨.eqS [104, 97, 115] [118, 97, 108, 115], .b false, (A.eqS_f (by decide))⟩, ⟨.view (eL (o_sl 1 e_int) [[2], [2]]), .l (eL (e_sl e_int) [[2], [2]]), (A.viewO (O_sl 1 O_int))⟩, ⟨.eqS [109, 105, 110] [108, 101, 110], .b false, (A.eqS_f (by decide))⟩, ⟨.eqS [109, 105, 110] [99, 97, 116], .b false, (A.eqS_f (by decide))⟩, ⟨.eqS [109, 105, 110] [107, 101, 121, 115], .b false, (A.eqS_f (by decide))⟩, ⟨.eqS [109, 105, 110] [118, 97, 108, 115], .b false, (A.eqS_f (by decide))⟩, ⟨.eqS [109, 105, 110] [104, 97, 115], .b false, (A.eqS_f (by decide))⟩, ⟨.view (eL (o_sl 1 e_int) [[2], [2]]), .l (eL (e_sl e_int) [[2], [2]]), (A.viewO (O_sl 1 O_int))⟩, ⟨.eqS [109, 97, 120] [108, 101, 110], .b false, (A.eqS_f (by decide))⟩, ⟨.eqS [109, 97, 120] [99, 97, 116], .b false, (A.eqS_f (by decide))⟩, ⟨.eqS [109, 97, 120] [107, 101, 121, 115], .b false, (A.eqS_f (by decide))⟩, ⟨.eqS [109, 97, 120] [118, 97, 108, 115], .b false, (A.eqS_f (by decide))⟩, ⟨.eqS [109, 97, 120] [104, 97, 115], .b false, (A.eqS_f (by decide))⟩, ⟨.eqS [109, 97, 120] [109, 105, 110], .b false, (A.eqS_f (by decide))⟩, .sF c1, .sF c2, .sF c3, .sF c4, .sF c5, .sF c6, .sT c7] rfl fd_91 (by kernel_rfl)
        ·obtain rfl := Option.some.inj h
         exact (call_wQ (r := (.val false [.seq (viewL (eL (e_sl e_int) []))], [])) [⟨.view (eL (o_sl 1 e_int) [[3, 4, 5]]), .l (eL (e_sl e_int) [[3, 4, 5]]), (A.viewO (O_sl 1 O_int))⟩, ⟨.view (eL (o_sl 1 e_int) [[3], [3]]), .l (eL (e_sl e_int) [[3], [3]]), (A.viewO (O_sl 1 O_int))⟩, ⟨.eqS [99, 97, 116] [108, 101, 110], .b false, (A.eqS_f (by decide))⟩, ⟨.view (eL (o_sl 1 e_int) [[5]]), .l (eL (e_sl e_int) [[5]]), (A.viewO (O_sl 1 O_int))⟩, ⟨.eqS [107, 101, 121, 115] [108, 101, 110], .b false, (A.eqS_f (by decide))⟩, ⟨.eqS [107, 101, 121, 115] [99, 97, 116], .b false, (A.eqS_f (by decide))⟩, ⟨.view (eL (o_sl 1 e_int) [[5]]), .l (eL (e_sl e_int) [[5]]), (A.viewO (O_sl 1 O_int))⟩, ⟨.eqS [118, 97, 108, 115] [108, 101, 110], .b false, (A.eqS_f (by decide))⟩, ⟨.eqS [118, 97, 108, 115] [99, 97, 116], .b false, (A.eqS_f (by decide))⟩, ⟨.eqS [118, 97, 108, 115] [107, 101, 121, 115], .b false, (A.eqS_f (by decide))⟩, ⟨.view (eL (o_sl 1 e_int) [[5], [3]]), .l (eL (e_sl e_int) [[5], [3]]), (A.viewO (O_sl 1 O_int))⟩, ⟨.eqS [104, 97, 115] [108, 101, 110], .b false, (A.eqS_f (by decide))⟩, ⟨.eqS [104, 97, 115] [99, 97, 116], .b false, (A.eqS_f (by decide))⟩, ⟨.eqS [104, 97, 115] [107, 101, 121, 115], .b false, (A.eqS_f (by decide))⟩, ⟨.eqS [104, 97, 115] [118, 97, 108, 115], .b false, (A.eqS_f (by decide))⟩, ⟨.view (eL (o_sl 1 e_int) [[2], [2]]), .l (eL (e_sl e_int) [[2], [2]]), (A.viewO (O_sl 1 O_int))⟩, ⟨.eqS [109, 105, 110] [108, 101, 110], .b false, (A.eqS_f (by decide))⟩, ⟨.eqS [109, 105, 110] [99, 97, 116], .b false, (A.eqS_f (by decide))⟩, ⟨.eqS [109, 105, 110] [107, 101, 121, 115], .b false, (A.eqS_f (by decide))⟩, ⟨.eqS [109, 105, 110] [118, 97, 108, 115], .b false, (A.eqS_f (by decide))⟩, ⟨.eqS [109, 105, 110] [104, 97, 115], .b false, (A.eqS_f (by decide))⟩, ⟨.view (eL (o_sl 1 e_int) [[2], [2]]), .l (eL (e_sl e_int) [[2], [2]]), (A.viewO (O_sl 1 O_int))⟩, ⟨.eqS [109, 97, 120] [108, 101, 110], .b false, (A.eqS_f (by decide))⟩, ⟨.eqS [109, 97, 120] [99, 97, 116], .b false, (A.eqS_f (by decide))⟩, ⟨.eqS [109, 97, 120] [107, 101, 121, 115], .b false, (A.eqS_f (by decide))⟩, ⟨.eqS [109, 97, 120] [118, 97, 108, 115], .b false, (A.eqS_f (by decide))⟩, ⟨.eqS [109, 97, 120] [104, 97, 115], .b false, (A.eqS_f (by decide))⟩, ⟨.eqS [109, 97, 120] [109, 105, 110], .b false, (A.eqS_f (by decide))⟩, .sF c1, .sF c2, .sF c3, .sF c4, .sF c5, .sF c6, .sF c7] rfl fd_91 (by kernel_rfl)).trans (by simp only [viewL_eL (E_sl e_int)] <;> rfl)

def L_slices_Index_int_l0 (a0 : (List Int)) (a1 : Int) (v2 : Int) : Nat → Int → Option (Int ⊕ Int)
  | 0, _ => none
  | m + 1, v3 =>
    if v3 < v2 then
      (natO v3).bind fun i2 =>
      (a0[i2]?).bind fun x3 =>
      if a1 = x3 then
        some (.inl v3)
      else
        L_slices_Index_int_l0 a0 a1 v2 m (w64 (v3 + 1))
    else
      some (.inr v3)

theorem gl_slices_Index_int_l0 (a0 : (List Int)) (a1 : Int) (v2 : Int) (m : Nat) : ∀ (v3 : Int) (o : (Int ⊕ Int)), L_slices_Index_int_l0 a0 a1 v2 m v3 = some o → (mach cfg).loop 119 (loopB Try.f119 0) ⟨[(0, .val false [.seq (eL e_int a0)]), (1, .val false [.int .i64 a1]), (7, .val false [.int .i64 v2]), (8, .val false [.int .i64 v3])], [], 0⟩ = some (match o with | .inl o_0 => (.ret, (⟨[(4, .val false [.int .i64 o_0])], [], 0⟩ : S)) | .inr (o_1) => (.exit 0, (⟨[(0, .val false [.seq (eL e_int a0)]), (1, .val false [.int .i64 a1]), (7, .val false [.int .i64 v2]), (8, .val false [.int .i64 o_1]), (9, .val false [.bool false])], [], 0⟩ : S))) := by
  induction m with
  | zero => intro v3 o h; cases h
  | succ m ih =>
    intro v3 o h
    rw [L_slices_Index_int_l0] at h
    rcases ite_some h with ⟨c1, h⟩ | ⟨c1, h⟩
    ·obtain ⟨i2, hi2, h⟩ := bs h
     obtain ⟨x3, hx3, h⟩ := bs h
     rcases ite_some h with ⟨c4, h⟩ | ⟨c4, h⟩
     ·obtain rfl := Option.some.inj h
      exact loop_eQ [.lT c1, .na hi2, .ix0 e_int hx3, .eT c4] (by kernel_rfl) (by intro h; cases h)
     ·exact loop_nQ [.lT c1, .na hi2, .ix0 e_int hx3, .eF c4, .ad v3 1] (by kernel_rfl) (ih (w64 (v3 + 1)) o h)
    ·obtain rfl := Option.some.inj h
     exact loop_eQ [.lF c1] (by kernel_rfl) (by intro h; cases h)

def T_slices_Index_int (n : Nat) (a0 : (List Int)) (a1 : Int) : Option Int :=
  (L_slices_Index_int_l0 a0 a1 ((a0.length : Nat) : Int) n 0).bind fun o1 =>
  match o1 with
  | .inl o1_0 =>
    some o1_0
  | .inr (o1_1) =>
    some (-1)

set_option maxRecDepth 100000 in
theorem fd_119 : cfg.funcs 119 = some (bodyOf Try.f119, Try.f119.ntmps, Try.f119.results.toList) := fn_of Try.func119 (by kernel_rfl) (by kernel_rfl)
theorem g_slices_Index_int (n : Nat) (a0 : (List Int)) (a1 : Int) (r : Int) (h : T_slices_Index_int n a0 a1 = some r) : (mach cfg).call 119 [] [.val false [.seq (eL e_int a0)], .val false [.int .i64 a1]] = some (.val false [.int .i64 r], []) := by
  unfold T_slices_Index_int at h
  obtain ⟨o1, ho1, h⟩ := bs h
  rcases o1 with o1_0 | o1_1
  · try dsimp only at h
    obtain rfl := Option.some.inj h
    exact call_wQ [.le e_int a0, .lp (gl_slices_Index_int_l0 a0 a1 ((a0.length : Nat) : Int) _ 0 _ ho1)] rfl fd_119 (by kernel_rfl)
  · try dsimp only at h
    obtain rfl := Option.some.inj h
    exact call_wQ [.le e_int a0, .lp (gl_slices_Index_int_l0 a0 a1 ((a0.length : Nat) : Int) _ 0 _ ho1)] rfl fd_119 (by kernel_rfl)

def ixI : List Int → Int → Nat → Int
  | [], _, _ => -1
  | y :: l, x, i => if x = y then (i : Int) else ixI l x (i + 1)
theorem ixI_pos : ∀ (l : List Int) (x : Int) (i : Nat), 0 ≤ ixI l x i ↔ x ∈ l
  | [], x, i => by simp [ixI]
  | y :: l, x, i => by
    rw [ixI]
    by_cases h : x = y
    · rw [if_pos h]; simp [h]
    · rw [if_neg h, ixI_pos l]; simp [h]
theorem ixI_neg : ∀ (l : List Int) (x : Int) (i : Nat), x ∉ l → ixI l x i = -1
  | [], x, i, _ => rfl
  | y :: l, x, i, h => by
    simp only [List.mem_cons, not_or] at h
    rw [ixI, if_neg h.1, ixI_neg l x _ h.2]
theorem ixint_loop {a : List Int} {x : Int} (ha : a.length ≤ 2 ^ 40) : ∀ (l p : List Int) (m : Nat), a = p ++ l → l.length < m → ∃ z, L_slices_Index_int_l0 a x ((a.length : Nat) : Int) m ((p.length : Nat) : Int) = some (if x ∈ l then .inl (ixI l x p.length) else .inr z) := by
  intro l
  induction l with
  | nil =>
    intro p m he hm
    subst he
    obtain ⟨m, rfl, _⟩ := fuel hm
    exact ⟨_, by rw [L_slices_Index_int_l0, if_neg (nlt_end p), if_neg (by simp)]⟩
  | cons y l ih =>
    intro p m he hm
    obtain ⟨m, rfl, hm'⟩ := fuel hm
    have hlen : a.length = p.length + (l.length + 1) := by rw [he]; simp
    rw [L_slices_Index_int_l0, if_pos (by omega), natO_nat, Option.bind_some, show a[p.length]? = some y by rw [he]; exact get_mid p y l, Option.bind_some, w64_len p y (by omega)]
    by_cases hxy : x = y
    · exact ⟨0, by rw [if_pos hxy, if_pos (by simp [hxy]), ixI, if_pos hxy]⟩
    · obtain ⟨z, hz⟩ := ih (p ++ [y]) m (by rw [he]; simp) (by simp only [List.length_cons] at hm'; omega)
      refine ⟨z, ?_⟩
      rw [if_neg hxy, hz, ixI, if_neg hxy]
      by_cases hm : x ∈ l
      · rw [if_pos hm, if_pos (by simp [hm])]; simp
      · rw [if_neg hm, if_neg (by simp [hm, hxy])]
def S_slices_Index_int (a0 : (List Int)) (a1 : Int) : Option Int := if a0.length ≤ 2 ^ 40 then some (ixI a0 a1 0) else none
theorem spec_slices_Index_int (a0 : (List Int)) (a1 : Int) (r : Int) (h : S_slices_Index_int a0 a1 = some r) : ∃ n, T_slices_Index_int n a0 a1 = some r := by
  unfold S_slices_Index_int at h
  obtain ⟨ha, h⟩ := need_c h
  obtain ⟨z, hz⟩ := ixint_loop (x := a1) ha a0 [] (a0.length + 1) rfl (by omega)
  refine ⟨a0.length + 1, ?_⟩
  unfold T_slices_Index_int
  simp only [List.length_nil, Int.natCast_zero] at hz
  rw [hz, Option.bind_some, ← h]
  by_cases hc : a1 ∈ a0
  · rw [if_pos hc]
  · rw [if_neg hc, ixI_neg _ _ _ hc]
theorem ok_slices_Index_int (a0 : (List Int)) (a1 : Int) (r : Int) (h : S_slices_Index_int a0 a1 = some r) : (mach cfg).call 119 [] [.val false [.seq (eL e_int a0)], .val false [.int .i64 a1]] = some (.val false [.int .i64 r], []) := by
  obtain ⟨n, hn⟩ := spec_slices_Index_int a0 a1 r h
  exact g_slices_Index_int n a0 a1 r hn
def S_slices_Contains_int (a0 : (List Int)) (a1 : Int) : Option Bool :=
  (S_slices_Index_int a0 a1).bind fun r1 =>
  some (decide (0 ≤ r1))

set_option maxRecDepth 100000 in
theorem fd_92 : cfg.funcs 92 = some (bodyOf Try.f92, Try.f92.ntmps, Try.f92.results.toList) := fn_of Try.func92 (by kernel_rfl) (by kernel_rfl)
theorem ok_slices_Contains_int (a0 : (List Int)) (a1 : Int) (r : Bool) (h : S_slices_Contains_int a0 a1 = some r) : (mach cfg).call 92 [] [.val false [.seq (eL e_int a0)], .val false [.int .i64 a1]] = some (.val false [.bool r], []) := by
  unfold S_slices_Contains_int at h
  obtain ⟨r1, hr1, h⟩ := bs h
  obtain rfl := Option.some.inj h
  exact call_wQ [.cl (ok_slices_Index_int a0 a1 _ hr1), .gD 0 r1] rfl fd_92 (by kernel_rfl)

def S_impl_copyBytes (a0 : (List UInt8)) : Option (List UInt8) :=
  if roomP 1 (0 + a0.length) then
  some a0
  else none

set_option maxRecDepth 100000 in
theorem fd_77 : cfg.funcs 77 = some (bodyOf Try.f77, Try.f77.ntmps, Try.f77.results.toList) := fn_of Try.func77 (by kernel_rfl) (by kernel_rfl)
theorem ok_impl_copyBytes (a0 : (List UInt8)) (r : (List UInt8)) (h : S_impl_copyBytes a0 = some r) : (mach cfg).call 77 [] [.val false [.seq (eL e_u8 a0)]] = some (.val false [.own 1 (eL e_u8 r)], []) := by
  unfold S_impl_copyBytes at h
  obtain ⟨n1, h⟩ := need_some h
  obtain rfl := Option.some.inj h
  exact call_wQ [⟨.room 1 (eL e_u8 []) (eL e_u8 a0), .b true, (A.room n1)⟩, ⟨.uni 1 (eL e_u8 a0), .b true, (A.uni E_u8)⟩, ⟨.app (eL e_u8 []) (eL e_u8 a0), .l (eL e_u8 a0), A.app0⟩] rfl fd_77 (by kernel_rfl)

def L_slices_BinarySearchFunc_byte_Compare_l0 (a0 : (List (List UInt8))) (a1 : (List UInt8)) (v2 : Int) : Nat → Int → Int → Option (Int × Int)
  | 0, _, _ => none
  | m + 1, v3, v4 =>
    if v3 < v4 then
      (natO (w64 (bitI .shr .u64 (IntKind.u64.wrap (w64 (v3 + v4))) 1))).bind fun i2 =>
      (a0[i2]?).bind fun x3 =>
      (S_bytes_Compare x3 a1).bind fun r4 =>
      if r4 < 0 then
        L_slices_BinarySearchFunc_byte_Compare_l0 a0 a1 v2 m (w64 ((w64 (bitI .shr .u64 (IntKind.u64.wrap (w64 (v3 + v4))) 1)) + 1)) v4
      else
        L_slices_BinarySearchFunc_byte_Compare_l0 a0 a1 v2 m v3 (w64 (bitI .shr .u64 (IntKind.u64.wrap (w64 (v3 + v4))) 1))
    else
      some (v3, v4)

theorem gl_slices_BinarySearchFunc_byte_Compare_l0 (a0 : (List (List UInt8))) (a1 : (List UInt8)) (v2 : Int) (m : Nat) : ∀ (v3 : Int) (v4 : Int) (o : (Int × Int)), L_slices_BinarySearchFunc_byte_Compare_l0 a0 a1 v2 m v3 v4 = some o → (mach cfg).loop 120 (loopB Try.f120 0) ⟨[(0, .val false [.seq (eL (e_sl e_u8) a0)]), (1, .val false [.seq (eL e_u8 a1)]), (2, .val false [.fn 110 []]), (8, .val false [.int .i64 v2]), (9, .val false [.int .i64 v3]), (10, .val false [.int .i64 v4])], [], 0⟩ = some (match o with | ⟨o_0, o_1⟩ => (.exit 0, (⟨[(0, .val false [.seq (eL (e_sl e_u8) a0)]), (1, .val false [.seq (eL e_u8 a1)]), (2, .val false [.fn 110 []]), (8, .val false [.int .i64 v2]), (9, .val false [.int .i64 o_0]), (10, .val false [.int .i64 o_1]), (17, .val false [.bool false])], [], 0⟩ : S))) := by
  induction m with
  | zero => intro v3 v4 o h; cases h
  | succ m ih =>
    intro v3 v4 o h
    rw [L_slices_BinarySearchFunc_byte_Compare_l0] at h
    rcases ite_some h with ⟨c1, h⟩ | ⟨c1, h⟩
    ·obtain ⟨i2, hi2, h⟩ := bs h
     obtain ⟨x3, hx3, h⟩ := bs h
     obtain ⟨r4, hr4, h⟩ := bs h
     rcases ite_some h with ⟨c5, h⟩ | ⟨c5, h⟩
     ·exact loop_nQ [.lT c1, .ad v3 v4, ⟨.conv .u64 (w64 (v3 + v4)), .i (IntKind.u64.wrap (w64 (v3 + v4))), rfl⟩, .gTo 0 1 (by decide), ⟨.bit .shr .u64 (IntKind.u64.wrap (w64 (v3 + v4))) 1, .i (bitI .shr .u64 (IntKind.u64.wrap (w64 (v3 + v4))) 1), rfl⟩, ⟨.conv .i64 (bitI .shr .u64 (IntKind.u64.wrap (w64 (v3 + v4))) 1), .i (w64 (bitI .shr .u64 (IntKind.u64.wrap (w64 (v3 + v4))) 1)), rfl⟩, .na hi2, .ix0 (e_sl e_u8) hx3, .cl (ok_bytes_Compare x3 a1 _ hr4), .lT c5, .ad (w64 (bitI .shr .u64 (IntKind.u64.wrap (w64 (v3 + v4))) 1)) 1] (by kernel_rfl) (ih (w64 ((w64 (bitI .shr .u64 (IntKind.u64.wrap (w64 (v3 + v4))) 1)) + 1)) v4 o h)
     ·exact loop_nQ [.lT c1, .ad v3 v4, ⟨.conv .u64 (w64 (v3 + v4)), .i (IntKind.u64.wrap (w64 (v3 + v4))), rfl⟩, .gTo 0 1 (by decide), ⟨.bit .shr .u64 (IntKind.u64.wrap (w64 (v3 + v4))) 1, .i (bitI .shr .u64 (IntKind.u64.wrap (w64 (v3 + v4))) 1), rfl⟩, ⟨.conv .i64 (bitI .shr .u64 (IntKind.u64.wrap (w64 (v3 + v4))) 1), .i (w64 (bitI .shr .u64 (IntKind.u64.wrap (w64 (v3 + v4))) 1)), rfl⟩, .na hi2, .ix0 (e_sl e_u8) hx3, .cl (ok_bytes_Compare x3 a1 _ hr4), .lF c5] (by kernel_rfl) (ih v3 (w64 (bitI .shr .u64 (IntKind.u64.wrap (w64 (v3 + v4))) 1)) o h)
    ·obtain rfl := Option.some.inj h
     exact loop_eQ [.lF c1] (by kernel_rfl) (by intro h; cases h)

def T_slices_BinarySearchFunc_byte_Compare (n : Nat) (a0 : (List (List UInt8))) (a1 : (List UInt8)) : Option (Int × Bool) :=
  (L_slices_BinarySearchFunc_byte_Compare_l0 a0 a1 ((a0.length : Nat) : Int) n 0 ((a0.length : Nat) : Int)).bind fun ⟨o1_0, o1_1⟩ =>
  if o1_0 < ((a0.length : Nat) : Int) then
    (natO o1_0).bind fun i3 =>
    (a0[i3]?).bind fun x4 =>
    (S_bytes_Compare x4 a1).bind fun r5 =>
    some (o1_0, (decide (r5 = 0)))
  else
    some (o1_0, false)

set_option maxRecDepth 100000 in
theorem fd_120 : cfg.funcs 120 = some (bodyOf Try.f120, Try.f120.ntmps, Try.f120.results.toList) := fn_of Try.func120 (by kernel_rfl) (by kernel_rfl)
theorem g_slices_BinarySearchFunc_byte_Compare (n : Nat) (a0 : (List (List UInt8))) (a1 : (List UInt8)) (r : (Int × Bool)) (h : T_slices_BinarySearchFunc_byte_Compare n a0 a1 = some r) : (mach cfg).call 120 [] [.val false [.seq (eL (e_sl e_u8) a0)], .val false [.seq (eL e_u8 a1)], .val false [.fn 110 []]] = some (.tup [(false, [.int .i64 r.1]), (false, [.bool r.2])], []) := by
  unfold T_slices_BinarySearchFunc_byte_Compare at h
  obtain ⟨⟨o1_0, o1_1⟩, ho1, h⟩ := bs h
  try dsimp only at h
  rcases ite_some h with ⟨c2, h⟩ | ⟨c2, h⟩
  ·obtain ⟨i3, hi3, h⟩ := bs h
   obtain ⟨x4, hx4, h⟩ := bs h
   obtain ⟨r5, hr5, h⟩ := bs h
   obtain rfl := Option.some.inj h
   exact call_wQ [.le (e_sl e_u8) a0, .lp (gl_slices_BinarySearchFunc_byte_Compare_l0 a0 a1 ((a0.length : Nat) : Int) _ 0 ((a0.length : Nat) : Int) _ ho1), .lT c2, .na hi3, .ix0 (e_sl e_u8) hx4, .cl (ok_bytes_Compare x4 a1 _ hr5), .eD r5 0] rfl fd_120 (by kernel_rfl)
  ·obtain rfl := Option.some.inj h
   exact call_wQ [.le (e_sl e_u8) a0, .lp (gl_slices_BinarySearchFunc_byte_Compare_l0 a0 a1 ((a0.length : Nat) : Int) _ 0 ((a0.length : Nat) : Int) _ ho1), .lF c2] rfl fd_120 (by kernel_rfl)

theorem bsearch_loop {a : List (List UInt8)} {x : List UInt8} {c : Nat} {v2 : Int} (hp : Part a x c) (ha : a.length ≤ 2 ^ 40) : ∀ (d i j m : Nat), j - i ≤ d → i ≤ c → c ≤ j → j ≤ a.length → d < m → L_slices_BinarySearchFunc_byte_Compare_l0 a x v2 m (i : Int) (j : Int) = some ((c : Int), (c : Int)) := by
  intro d
  induction d with
  | zero =>
    intro i j m hd h1 h2 h3 hm
    obtain ⟨m, rfl, _⟩ := fuel hm
    rw [L_slices_BinarySearchFunc_byte_Compare_l0, if_neg (by omega), show i = c by omega, show j = c by omega]
  | succ d ih =>
    intro i j m hd h1 h2 h3 hm
    obtain ⟨m, rfl, hm'⟩ := fuel hm
    by_cases hij : i < j
    · have hk : (i + j) / 2 < a.length := by omega
      rw [L_slices_BinarySearchFunc_byte_Compare_l0, if_pos (by omega), mid_eq (by omega), natO_nat, Option.bind_some, get_some hk, Option.bind_some]
      unfold S_bytes_Compare S_internal_bytealg_Compare
      simp only [Option.bind_some]
      have hq := hp.2 _ hk
      by_cases hl : Op.bytesLess a[(i + j) / 2] x = true
      · rw [if_pos (by rw [cmp_neg]; exact hl), w64_succ (by omega)]
        have := hq.2 hl
        exact ih _ _ m (by omega) (by omega) h2 h3 (by omega)
      · rw [if_neg (by rw [cmp_neg]; exact hl)]
        have : ¬ (i + j) / 2 < c := fun h => hl (hq.1 h)
        exact ih _ _ m (by omega) h1 (by omega) (by omega) (by omega)
    · rw [L_slices_BinarySearchFunc_byte_Compare_l0, if_neg (by omega), show i = c by omega, show j = c by omega]
open Classical in
noncomputable def S_slices_BinarySearchFunc_byte_Compare (a0 : (List (List UInt8))) (a1 : (List UInt8)) : Option (Int × Bool) := if h : a0.length ≤ 2 ^ 40 ∧ ∃ c, Part a0 a1 c then some (((Classical.choose h.2 : Nat) : Int), decide (a0[Classical.choose h.2]? = some a1)) else none
theorem bsearch_eq {a : List (List UInt8)} {x : List UInt8} (ha : a.length ≤ 2 ^ 40) (h : Asc a) : ∃ c, Part a x c ∧ S_slices_BinarySearchFunc_byte_Compare a x = some ((c : Int), decide (x ∈ a)) := by
  have he : a.length ≤ 2 ^ 40 ∧ ∃ c, Part a x c := ⟨ha, Part.of h x⟩
  refine ⟨Classical.choose he.2, Classical.choose_spec he.2, ?_⟩
  unfold S_slices_BinarySearchFunc_byte_Compare
  rw [dif_pos he]
  congr 2
  exact decide_eq_decide.2 (Part.mem h (Classical.choose_spec he.2))
theorem spec_slices_BinarySearchFunc_byte_Compare (a0 : (List (List UInt8))) (a1 : (List UInt8)) (r : (Int × Bool)) (h : S_slices_BinarySearchFunc_byte_Compare a0 a1 = some r) : ∃ n, T_slices_BinarySearchFunc_byte_Compare n a0 a1 = some r := by
  unfold S_slices_BinarySearchFunc_byte_Compare at h
  split at h
  · rename_i he
    have hp := Classical.choose_spec he.2
    generalize Classical.choose he.2 = c at h hp
    refine ⟨a0.length + 1, ?_⟩
    unfold T_slices_BinarySearchFunc_byte_Compare
    have hl := bsearch_loop (v2 := ((a0.length : Nat) : Int)) hp he.1 a0.length 0 a0.length (a0.length + 1) (by omega) (by omega) hp.1 (Nat.le_refl _) (by omega)
    rw [show ((0 : Nat) : Int) = 0 from rfl] at hl
    rw [hl, Option.bind_some]
    dsimp only
    rw [← h]
    by_cases hc : c < a0.length
    · rw [if_pos (by omega), natO_nat, Option.bind_some, get_some hc, Option.bind_some]
      unfold S_bytes_Compare S_internal_bytealg_Compare
      simp only [Option.bind_some]
      congr 2
      exact decide_eq_decide.2 ((cmp_zero _ _).trans (by simp))
    · rw [if_neg (by omega), List.getElem?_eq_none (by omega)]
      simp
  · cases h
theorem ok_slices_BinarySearchFunc_byte_Compare (a0 : (List (List UInt8))) (a1 : (List UInt8)) (r : (Int × Bool)) (h : S_slices_BinarySearchFunc_byte_Compare a0 a1 = some r) : (mach cfg).call 120 [] [.val false [.seq (eL (e_sl e_u8) a0)], .val false [.seq (eL e_u8 a1)], .val false [.fn 110 []]] = some (.tup [(false, [.int .i64 r.1]), (false, [.bool r.2])], []) := by
  obtain ⟨n, hn⟩ := spec_slices_BinarySearchFunc_byte_Compare a0 a1 r h
  exact g_slices_BinarySearchFunc_byte_Compare n a0 a1 r hn
def S_impl_Value_keyAt (a0 : GValue) (a1 : (List UInt8)) : Option (Int × Bool) :=
  (S_slices_BinarySearchFunc_byte_Compare a0.K a1).bind fun ⟨r1_0, r1_1⟩ =>
  some (r1_0, r1_1)

set_option maxRecDepth 100000 in
theorem fd_94 : cfg.funcs 94 = some (bodyOf Try.f94, Try.f94.ntmps, Try.f94.results.toList) := fn_of Try.func94 (by kernel_rfl) (by kernel_rfl)
theorem ok_impl_Value_keyAt (a0 : GValue) (a1 : (List UInt8)) (r : (Int × Bool)) (h : S_impl_Value_keyAt a0 a1 = some r) : (mach cfg).call 94 [] [.val true [.int .i64 a0.Kind, .int .i64 a0.N, .seq (eL e_u8 a0.S), .seq (eL (e_sl e_u8) a0.K), .seq (eL e_GValue a0.L)], .val false [.seq (eL e_u8 a1)]] = some (.tup [(false, [.int .i64 r.1]), (false, [.bool r.2])], []) := by
  unfold S_impl_Value_keyAt at h
  obtain ⟨⟨r1_0, r1_1⟩, hr1, h⟩ := bs h
  try dsimp only at h
  obtain rfl := Option.some.inj h
  exact call_wQ [.cl (ok_slices_BinarySearchFunc_byte_Compare a0.K a1 _ hr1)] rfl fd_94 (by kernel_rfl)

def S_impl_flag (a0 : Bool) : Option GValue :=
  match a0 with
  | true =>
    some (GValue.mk 1 1 [] [] [])
  | false =>
    some (GValue.mk 1 0 [] [] [])

set_option maxRecDepth 100000 in
theorem fd_95 : cfg.funcs 95 = some (bodyOf Try.f95, Try.f95.ntmps, Try.f95.results.toList) := fn_of Try.func95 (by kernel_rfl) (by kernel_rfl)
theorem ok_impl_flag (a0 : Bool) (r : GValue) (h : S_impl_flag a0 = some r) : (mach cfg).call 95 [] [.val false [.bool a0]] = some (.val true [.int .i64 r.Kind, .int .i64 r.N, .own 1 (eL e_u8 r.S), .own 1 (eL (o_sl 1 e_u8) r.K), .own 5 (eL o_GValue r.L)], []) := by
  unfold S_impl_flag at h
  cases a0 with
  | true =>
   try dsimp only at h
   obtain rfl := Option.some.inj h
   exact call_wQ [] rfl fd_95 (by kernel_rfl)
  | false =>
   try dsimp only at h
   obtain rfl := Option.some.inj h
   exact call_wQ [] rfl fd_95 (by kernel_rfl)

def S_impl_unknown : Option GValue :=
  some (GValue.mk 6 0 [] [] [])

set_option maxRecDepth 100000 in
theorem fd_93 : cfg.funcs 93 = some (bodyOf Try.f93, Try.f93.ntmps, Try.f93.results.toList) := fn_of Try.func93 (by kernel_rfl) (by kernel_rfl)
theorem ok_impl_unknown (r : GValue) (h : S_impl_unknown = some r) : (mach cfg).call 93 [] [] = some (.val true [.int .i64 r.Kind, .int .i64 r.N, .own 1 (eL e_u8 r.S), .own 1 (eL (o_sl 1 e_u8) r.K), .own 5 (eL o_GValue r.L)], []) := by
  unfold S_impl_unknown at h
  obtain rfl := Option.some.inj h
  exact call_wQ [] rfl fd_93 (by kernel_rfl)

end
end Go.Am.Try
