/- The functions of the program in plain Lean, and that the machine answers as they do; conditions at each theorem. -/
import Derived.Test.YtabecknjhcjpfaaGreatDoorTG1
set_option linter.unusedVariables false
set_option linter.unusedSimpArgs false
namespace Go.Am.Try
open Go.Am Go.Proofs
set_option linter.unusedVariables false
set_option maxRecDepth 20000
set_option maxHeartbeats 2000000
noncomputable section
def L_spec_l2ok_l0 (G_spec_l2ok : GValue → Int → Int → Option Int) (a1 : Int) (a0 : GValue) : Nat → Int → Int → Option (Int ⊕ (Int × Int))
  | 0, _, _ => none
  | m + 1, v1, v2 =>
    if v2 < ((a0.L.length : Nat) : Int) then
      if a0.Kind = 5 then
        (natO v2).bind fun i3 =>
        (a0.K[i3]?).bind fun x4 =>
        (S_spec_NameOk x4).bind fun r5 =>
        match r5 with
        | true =>
          if 0 < v2 then
            (natO (w64 (v2 - 1))).bind fun i8 =>
            (a0.K[i8]?).bind fun x9 =>
            if Op.bytesLess x9 x4 = true then
              (a0.L[i3]?).bind fun x11 =>
              (G_spec_l2ok x11 (w64 (a1 + 1)) v1).bind fun r12 =>
              if r12 < 0 then
                some (.inl (-1))
              else
                L_spec_l2ok_l0 G_spec_l2ok a1 a0 m r12 (w64 (v2 + 1))
            else
              some (.inl (-1))
          else
            (a0.L[i3]?).bind fun x8 =>
            (G_spec_l2ok x8 (w64 (a1 + 1)) v1).bind fun r9 =>
            if r9 < 0 then
              some (.inl (-1))
            else
              L_spec_l2ok_l0 G_spec_l2ok a1 a0 m r9 (w64 (v2 + 1))
        | false =>
          some (.inl (-1))
      else
        (natO v2).bind fun i3 =>
        (a0.L[i3]?).bind fun x4 =>
        (G_spec_l2ok x4 (w64 (a1 + 1)) v1).bind fun r5 =>
        if r5 < 0 then
          some (.inl (-1))
        else
          L_spec_l2ok_l0 G_spec_l2ok a1 a0 m r5 (w64 (v2 + 1))
    else
      some (.inr (v1, v2))
theorem gl_spec_l2ok_l0 (G_spec_l2ok : GValue → Int → Int → Option Int) (H_spec_l2ok : ∀ (a0 : GValue) (a1 : Int) (a2 : Int) (r : Int), G_spec_l2ok a0 a1 a2 = some r → (mach cfg).call 147 [] [.val true [.int .i64 a0.Kind, .int .i64 a0.N, .seq (eL e_u8 a0.S), .seq (eL (e_sl e_u8) a0.K), .seq (eL e_GValue a0.L)], .val false [.int .i64 a1], .val false [.int .i64 a2]] = some (.val false [.int .i64 r], [])) (a1 : Int) (a0 : GValue) (m : Nat) : ∀ (v1 : Int) (v2 : Int) (o : (Int ⊕ (Int × Int))), L_spec_l2ok_l0 G_spec_l2ok a1 a0 m v1 v2 = some o → (mach cfg).loop 147 (loopB Tryz.f147 0) ⟨[(1, .val false [.int .i64 a1]), (2, .val false [.int .i64 v1]), (3, .val false [.ptr 0 0]), (7, .val false [.int .i64 v2])], [.var [.int .i64 a0.Kind, .int .i64 a0.N, .seq (eL e_u8 a0.S), .seq (eL (e_sl e_u8) a0.K), .seq (eL e_GValue a0.L)]], 0⟩ = some (match o with | .inl o_0 => (.ret, (⟨[(6, .val false [.int .i64 o_0])], [], 0⟩ : S)) | .inr (⟨o_1_0, o_1_1⟩) => (.exit 1, (⟨[(1, .val false [.int .i64 a1]), (2, .val false [.int .i64 o_1_0]), (3, .val false [.ptr 0 0]), (7, .val false [.int .i64 o_1_1]), (117, .val false [.bool false])], [.var [.int .i64 a0.Kind, .int .i64 a0.N, .seq (eL e_u8 a0.S), .seq (eL (e_sl e_u8) a0.K), .seq (eL e_GValue a0.L)]], 0⟩ : S))) := by
  induction m with
  | zero => intro v1 v2 o h; cases h
  | succ m ih =>
    intro v1 v2 o h
    rw [L_spec_l2ok_l0] at h
    rcases ite_some h with ⟨c1, h⟩ | ⟨c1, h⟩
    ·rcases ite_some h with ⟨c2, h⟩ | ⟨c2, h⟩
     ·obtain ⟨i3, hi3, h⟩ := bs h
      obtain ⟨x4, hx4, h⟩ := bs h
      obtain ⟨r5, hr5, h⟩ := bs h
      cases r5 with
      | true =>
       try dsimp only at h
       rcases ite_some h with ⟨c7, h⟩ | ⟨c7, h⟩
       ·obtain ⟨i8, hi8, h⟩ := bs h
        obtain ⟨x9, hx9, h⟩ := bs h
        rcases ite_some h with ⟨c10, h⟩ | ⟨c10, h⟩
        ·obtain ⟨x11, hx11, h⟩ := bs h
         obtain ⟨r12, hr12, h⟩ := bs h
         rcases ite_some h with ⟨c13, h⟩ | ⟨c13, h⟩
         ·obtain rfl := Option.some.inj h
          exact loop_eQ [.le e_GValue a0.L, .lT c1, .eT c2, .na hi3, .ix0 (e_sl e_u8) hx4, .cl (ok_spec_NameOk x4 _ hr5), .nt true, .lT c7, .su v2 1, .na hi8, .ix0 (e_sl e_u8) hx9, ⟨.bytes (eL e_u8 x9), .s x9, A.bytes⟩, .na hi3, .ix0 (e_sl e_u8) hx4, ⟨.bytes (eL e_u8 x4), .s x4, A.bytes⟩, ⟨.ltS x9 x4, .b true, (A.ltS_t c10)⟩, .nt true, .na hi3, .ix hx11 (eq_GValue x11), .ad a1 1, .cl (H_spec_l2ok x11 (w64 (a1 + 1)) v1 _ hr12), .lT c13] (by kernel_rfl) (by intro h; cases h)
         ·exact loop_nQ [.le e_GValue a0.L, .lT c1, .eT c2, .na hi3, .ix0 (e_sl e_u8) hx4, .cl (ok_spec_NameOk x4 _ hr5), .nt true, .lT c7, .su v2 1, .na hi8, .ix0 (e_sl e_u8) hx9, ⟨.bytes (eL e_u8 x9), .s x9, A.bytes⟩, .na hi3, .ix0 (e_sl e_u8) hx4, ⟨.bytes (eL e_u8 x4), .s x4, A.bytes⟩, ⟨.ltS x9 x4, .b true, (A.ltS_t c10)⟩, .nt true, .na hi3, .ix hx11 (eq_GValue x11), .ad a1 1, .cl (H_spec_l2ok x11 (w64 (a1 + 1)) v1 _ hr12), .lF c13, .ad v2 1] (by kernel_rfl) (ih r12 (w64 (v2 + 1)) o h)
        ·obtain rfl := Option.some.inj h
         exact loop_eQ [.le e_GValue a0.L, .lT c1, .eT c2, .na hi3, .ix0 (e_sl e_u8) hx4, .cl (ok_spec_NameOk x4 _ hr5), .nt true, .lT c7, .su v2 1, .na hi8, .ix0 (e_sl e_u8) hx9, ⟨.bytes (eL e_u8 x9), .s x9, A.bytes⟩, .na hi3, .ix0 (e_sl e_u8) hx4, ⟨.bytes (eL e_u8 x4), .s x4, A.bytes⟩, ⟨.ltS x9 x4, .b false, (A.ltS_f c10)⟩, .nt false] (by kernel_rfl) (by intro h; cases h)
       ·obtain ⟨x8, hx8, h⟩ := bs h
        obtain ⟨r9, hr9, h⟩ := bs h
        rcases ite_some h with ⟨c10, h⟩ | ⟨c10, h⟩
        ·obtain rfl := Option.some.inj h
         exact loop_eQ [.le e_GValue a0.L, .lT c1, .eT c2, .na hi3, .ix0 (e_sl e_u8) hx4, .cl (ok_spec_NameOk x4 _ hr5), .nt true, .lF c7, .na hi3, .ix hx8 (eq_GValue x8), .ad a1 1, .cl (H_spec_l2ok x8 (w64 (a1 + 1)) v1 _ hr9), .lT c10] (by kernel_rfl) (by intro h; cases h)
        ·exact loop_nQ [.le e_GValue a0.L, .lT c1, .eT c2, .na hi3, .ix0 (e_sl e_u8) hx4, .cl (ok_spec_NameOk x4 _ hr5), .nt true, .lF c7, .na hi3, .ix hx8 (eq_GValue x8), .ad a1 1, .cl (H_spec_l2ok x8 (w64 (a1 + 1)) v1 _ hr9), .lF c10, .ad v2 1] (by kernel_rfl) (ih r9 (w64 (v2 + 1)) o h)
      | false =>
       try dsimp only at h
       obtain rfl := Option.some.inj h
       exact loop_eQ [.le e_GValue a0.L, .lT c1, .eT c2, .na hi3, .ix0 (e_sl e_u8) hx4, .cl (ok_spec_NameOk x4 _ hr5), .nt false] (by kernel_rfl) (by intro h; cases h)
     ·obtain ⟨i3, hi3, h⟩ := bs h
      obtain ⟨x4, hx4, h⟩ := bs h
      obtain ⟨r5, hr5, h⟩ := bs h
      rcases ite_some h with ⟨c6, h⟩ | ⟨c6, h⟩
      ·obtain rfl := Option.some.inj h
       exact loop_eQ [.le e_GValue a0.L, .lT c1, .eF c2, .na hi3, .ix hx4 (eq_GValue x4), .ad a1 1, .cl (H_spec_l2ok x4 (w64 (a1 + 1)) v1 _ hr5), .lT c6] (by kernel_rfl) (by intro h; cases h)
      ·exact loop_nQ [.le e_GValue a0.L, .lT c1, .eF c2, .na hi3, .ix hx4 (eq_GValue x4), .ad a1 1, .cl (H_spec_l2ok x4 (w64 (a1 + 1)) v1 _ hr5), .lF c6, .ad v2 1] (by kernel_rfl) (ih r5 (w64 (v2 + 1)) o h)
    ·obtain rfl := Option.some.inj h
     exact loop_eQ [.le e_GValue a0.L, .lF c1] (by kernel_rfl) (by intro h; cases h)
def T_spec_l2ok (G_spec_l2ok : GValue → Int → Int → Option Int) (n : Nat) (a0 : GValue) (a1 : Int) (a2 : Int) : Option Int :=
  if (w64 (a2 - 1)) < 0 then
    some (-1)
  else
    if 5 < a1 then
      some (-1)
    else
      if a0.Kind = 3 then
        if 0 < ((a0.K.length : Nat) : Int) then
          some (-1)
        else
          if a0.N = 0 then
            if 0 < ((a0.L.length : Nat) : Int) then
              some (-1)
            else
              (S_spec_l2text a0.S).bind fun r7 =>
              match r7 with
              | true =>
                some (w64 (a2 - 1))
              | false =>
                some (-1)
          else
            some (-1)
      else
        if 0 < ((a0.S.length : Nat) : Int) then
          some (-1)
        else
          if a0.Kind = 5 then
            if a0.N = 0 then
              if ((a0.K.length : Nat) : Int) = ((a0.L.length : Nat) : Int) then
                (L_spec_l2ok_l0 G_spec_l2ok a1 a0 n (w64 (a2 - 1)) 0).bind fun o8 =>
                match o8 with
                | .inl o8_0 =>
                  some o8_0
                | .inr (⟨o8_1_0, o8_1_1⟩) =>
                  some o8_1_0
              else
                some (-1)
            else
              some (-1)
          else
            if 0 < ((a0.K.length : Nat) : Int) then
              some (-1)
            else
              if a0.Kind = 1 then
                if 0 < ((a0.L.length : Nat) : Int) then
                  some (-1)
                else
                  if a0.N < 0 then
                    some (-1)
                  else
                    if 1 < a0.N then
                      some (-1)
                    else
                      some (w64 (a2 - 1))
              else
                if a0.Kind = 2 then
                  if 0 < ((a0.L.length : Nat) : Int) then
                    some (-1)
                  else
                    (S_spec_l2int a0.N).bind fun r10 =>
                    match r10 with
                    | true =>
                      some (w64 (a2 - 1))
                    | false =>
                      some (-1)
                else
                  if a0.N = 0 then
                    if a0.Kind = 4 then
                      (L_spec_l2ok_l0 G_spec_l2ok a1 a0 n (w64 (a2 - 1)) 0).bind fun o11 =>
                      match o11 with
                      | .inl o11_0 =>
                        some o11_0
                      | .inr (⟨o11_1_0, o11_1_1⟩) =>
                        some o11_1_0
                    else
                      if 0 < ((a0.L.length : Nat) : Int) then
                        some (-1)
                      else
                        if a0.Kind = 0 then
                          some (w64 (a2 - 1))
                        else
                          if a0.Kind = 6 then
                            some (w64 (a2 - 1))
                          else
                            some (-1)
                  else
                    some (-1)
set_option maxRecDepth 100000 in
theorem fd_147 : cfg.funcs 147 = some (bodyOf Tryz.f147, Tryz.f147.ntmps, Tryz.f147.results.toList) := fn_of Tryz.func147 (by kernel_rfl) (by kernel_rfl)
theorem g_spec_l2ok (G_spec_l2ok : GValue → Int → Int → Option Int) (H_spec_l2ok : ∀ (a0 : GValue) (a1 : Int) (a2 : Int) (r : Int), G_spec_l2ok a0 a1 a2 = some r → (mach cfg).call 147 [] [.val true [.int .i64 a0.Kind, .int .i64 a0.N, .seq (eL e_u8 a0.S), .seq (eL (e_sl e_u8) a0.K), .seq (eL e_GValue a0.L)], .val false [.int .i64 a1], .val false [.int .i64 a2]] = some (.val false [.int .i64 r], [])) (n : Nat) (a0 : GValue) (a1 : Int) (a2 : Int) (r : Int) (h : T_spec_l2ok G_spec_l2ok n a0 a1 a2 = some r) : (mach cfg).call 147 [] [.val true [.int .i64 a0.Kind, .int .i64 a0.N, .seq (eL e_u8 a0.S), .seq (eL (e_sl e_u8) a0.K), .seq (eL e_GValue a0.L)], .val false [.int .i64 a1], .val false [.int .i64 a2]] = some (.val false [.int .i64 r], []) := by
  unfold T_spec_l2ok at h
  rcases ite_some h with ⟨c1, h⟩ | ⟨c1, h⟩
  ·obtain rfl := Option.some.inj h
   exact call_wQ [.su a2 1, .lT c1] rfl fd_147 (by kernel_rfl)
  ·rcases ite_some h with ⟨c2, h⟩ | ⟨c2, h⟩
   ·obtain rfl := Option.some.inj h
    exact call_wQ [.su a2 1, .lF c1, .lT c2] rfl fd_147 (by kernel_rfl)
   ·rcases ite_some h with ⟨c3, h⟩ | ⟨c3, h⟩
    ·rcases ite_some h with ⟨c4, h⟩ | ⟨c4, h⟩
     ·obtain rfl := Option.some.inj h
      exact call_wQ [.su a2 1, .lF c1, .lF c2, .eT c3, .nt true, .eFo a0.Kind 5 (by omega), .nt false, .le (e_sl e_u8) a0.K, .lT c4] rfl fd_147 (by kernel_rfl)
     ·rcases ite_some h with ⟨c5, h⟩ | ⟨c5, h⟩
      ·rcases ite_some h with ⟨c6, h⟩ | ⟨c6, h⟩
       ·obtain rfl := Option.some.inj h
        exact call_wQ [.su a2 1, .lF c1, .lF c2, .eT c3, .nt true, .eFo a0.Kind 5 (by omega), .nt false, .le (e_sl e_u8) a0.K, .lF c4, .eFo a0.Kind 1 (by omega), .nt false, .eFo a0.Kind 2 (by omega), .nt false, .eT c5, .nt true, .eFo a0.Kind 4 (by omega), .nt false, .eFo a0.Kind 5 (by omega), .nt false, .le e_GValue a0.L, .lT c6] rfl fd_147 (by kernel_rfl)
       ·obtain ⟨r7, hr7, h⟩ := bs h
        cases r7 with
        | true =>
         try dsimp only at h
         obtain rfl := Option.some.inj h
         exact call_wQ [.su a2 1, .lF c1, .lF c2, .eT c3, .nt true, .eFo a0.Kind 5 (by omega), .nt false, .le (e_sl e_u8) a0.K, .lF c4, .eFo a0.Kind 1 (by omega), .nt false, .eFo a0.Kind 2 (by omega), .nt false, .eT c5, .nt true, .eFo a0.Kind 4 (by omega), .nt false, .eFo a0.Kind 5 (by omega), .nt false, .le e_GValue a0.L, .lF c6, .eFo a0.Kind 0 (by omega), .eFo a0.Kind 6 (by omega), .eFo a0.Kind 1 (by omega), .eFo a0.Kind 2 (by omega), .eT c3, .cl (ok_spec_l2text a0.S _ hr7), .nt true] rfl fd_147 (by kernel_rfl)
        | false =>
         try dsimp only at h
         obtain rfl := Option.some.inj h
         exact call_wQ [.su a2 1, .lF c1, .lF c2, .eT c3, .nt true, .eFo a0.Kind 5 (by omega), .nt false, .le (e_sl e_u8) a0.K, .lF c4, .eFo a0.Kind 1 (by omega), .nt false, .eFo a0.Kind 2 (by omega), .nt false, .eT c5, .nt true, .eFo a0.Kind 4 (by omega), .nt false, .eFo a0.Kind 5 (by omega), .nt false, .le e_GValue a0.L, .lF c6, .eFo a0.Kind 0 (by omega), .eFo a0.Kind 6 (by omega), .eFo a0.Kind 1 (by omega), .eFo a0.Kind 2 (by omega), .eT c3, .cl (ok_spec_l2text a0.S _ hr7), .nt false] rfl fd_147 (by kernel_rfl)
      ·obtain rfl := Option.some.inj h
       exact call_wQ [.su a2 1, .lF c1, .lF c2, .eT c3, .nt true, .eFo a0.Kind 5 (by omega), .nt false, .le (e_sl e_u8) a0.K, .lF c4, .eFo a0.Kind 1 (by omega), .nt false, .eFo a0.Kind 2 (by omega), .nt false, .eF c5, .nt false] rfl fd_147 (by kernel_rfl)
    ·rcases ite_some h with ⟨c4, h⟩ | ⟨c4, h⟩
     ·obtain rfl := Option.some.inj h
      exact call_wQ [.su a2 1, .lF c1, .lF c2, .eF c3, .nt false, .le e_u8 a0.S, .lT c4] rfl fd_147 (by kernel_rfl)
     ·rcases ite_some h with ⟨c5, h⟩ | ⟨c5, h⟩
      ·rcases ite_some h with ⟨c6, h⟩ | ⟨c6, h⟩
       ·rcases ite_some h with ⟨c7, h⟩ | ⟨c7, h⟩
        ·obtain ⟨o8, ho8, h⟩ := bs h
         rcases o8 with o8_0 | ⟨o8_1_0, o8_1_1⟩
         · try dsimp only at h
           obtain rfl := Option.some.inj h
           exact call_wQ [.su a2 1, .lF c1, .lF c2, .eF c3, .nt false, .le e_u8 a0.S, .lF c4, .eT c5, .nt true, .eFo a0.Kind 1 (by omega), .nt false, .eFo a0.Kind 2 (by omega), .nt false, .eT c6, .nt true, .eFo a0.Kind 4 (by omega), .nt false, .eT c5, .nt true, .eFo a0.Kind 0 (by omega), .eFo a0.Kind 6 (by omega), .eFo a0.Kind 1 (by omega), .eFo a0.Kind 2 (by omega), .eF c3, .eFo a0.Kind 4 (by omega), .eT c5, .eT c5, .le (e_sl e_u8) a0.K, .le e_GValue a0.L, .eT c7, .nt true, .lp (gl_spec_l2ok_l0 G_spec_l2ok H_spec_l2ok a1 a0 _ (w64 (a2 - 1)) 0 _ ho8)] rfl fd_147 (by kernel_rfl)
         · try dsimp only at h
           obtain rfl := Option.some.inj h
           exact call_wQ [.su a2 1, .lF c1, .lF c2, .eF c3, .nt false, .le e_u8 a0.S, .lF c4, .eT c5, .nt true, .eFo a0.Kind 1 (by omega), .nt false, .eFo a0.Kind 2 (by omega), .nt false, .eT c6, .nt true, .eFo a0.Kind 4 (by omega), .nt false, .eT c5, .nt true, .eFo a0.Kind 0 (by omega), .eFo a0.Kind 6 (by omega), .eFo a0.Kind 1 (by omega), .eFo a0.Kind 2 (by omega), .eF c3, .eFo a0.Kind 4 (by omega), .eT c5, .eT c5, .le (e_sl e_u8) a0.K, .le e_GValue a0.L, .eT c7, .nt true, .lp (gl_spec_l2ok_l0 G_spec_l2ok H_spec_l2ok a1 a0 _ (w64 (a2 - 1)) 0 _ ho8)] rfl fd_147 (by kernel_rfl)
        ·obtain rfl := Option.some.inj h
         exact call_wQ [.su a2 1, .lF c1, .lF c2, .eF c3, .nt false, .le e_u8 a0.S, .lF c4, .eT c5, .nt true, .eFo a0.Kind 1 (by omega), .nt false, .eFo a0.Kind 2 (by omega), .nt false, .eT c6, .nt true, .eFo a0.Kind 4 (by omega), .nt false, .eT c5, .nt true, .eFo a0.Kind 0 (by omega), .eFo a0.Kind 6 (by omega), .eFo a0.Kind 1 (by omega), .eFo a0.Kind 2 (by omega), .eF c3, .eFo a0.Kind 4 (by omega), .eT c5, .eT c5, .le (e_sl e_u8) a0.K, .le e_GValue a0.L, .eF c7, .nt false] rfl fd_147 (by kernel_rfl)
       ·obtain rfl := Option.some.inj h
        exact call_wQ [.su a2 1, .lF c1, .lF c2, .eF c3, .nt false, .le e_u8 a0.S, .lF c4, .eT c5, .nt true, .eFo a0.Kind 1 (by omega), .nt false, .eFo a0.Kind 2 (by omega), .nt false, .eF c6, .nt false] rfl fd_147 (by kernel_rfl)
      ·rcases ite_some h with ⟨c6, h⟩ | ⟨c6, h⟩
       ·obtain rfl := Option.some.inj h
        exact call_wQ [.su a2 1, .lF c1, .lF c2, .eF c3, .nt false, .le e_u8 a0.S, .lF c4, .eF c5, .nt false, .le (e_sl e_u8) a0.K, .lT c6] rfl fd_147 (by kernel_rfl)
       ·rcases ite_some h with ⟨c7, h⟩ | ⟨c7, h⟩
        ·rcases ite_some h with ⟨c8, h⟩ | ⟨c8, h⟩
         ·obtain rfl := Option.some.inj h
          exact call_wQ [.su a2 1, .lF c1, .lF c2, .eF c3, .nt false, .le e_u8 a0.S, .lF c4, .eF c5, .nt false, .le (e_sl e_u8) a0.K, .lF c6, .eT c7, .nt true, .eFo a0.Kind 4 (by omega), .nt false, .eF c5, .nt false, .le e_GValue a0.L, .lT c8] rfl fd_147 (by kernel_rfl)
         ·rcases ite_some h with ⟨c9, h⟩ | ⟨c9, h⟩
          ·obtain rfl := Option.some.inj h
           exact call_wQ [.su a2 1, .lF c1, .lF c2, .eF c3, .nt false, .le e_u8 a0.S, .lF c4, .eF c5, .nt false, .le (e_sl e_u8) a0.K, .lF c6, .eT c7, .nt true, .eFo a0.Kind 4 (by omega), .nt false, .eF c5, .nt false, .le e_GValue a0.L, .lF c8, .eFo a0.Kind 0 (by omega), .eFo a0.Kind 6 (by omega), .eT c7, .lT c9] rfl fd_147 (by kernel_rfl)
          ·rcases ite_some h with ⟨c10, h⟩ | ⟨c10, h⟩
           ·obtain rfl := Option.some.inj h
            exact call_wQ [.su a2 1, .lF c1, .lF c2, .eF c3, .nt false, .le e_u8 a0.S, .lF c4, .eF c5, .nt false, .le (e_sl e_u8) a0.K, .lF c6, .eT c7, .nt true, .eFo a0.Kind 4 (by omega), .nt false, .eF c5, .nt false, .le e_GValue a0.L, .lF c8, .eFo a0.Kind 0 (by omega), .eFo a0.Kind 6 (by omega), .eT c7, .lF c9, .lT c10] rfl fd_147 (by kernel_rfl)
           ·obtain rfl := Option.some.inj h
            exact call_wQ [.su a2 1, .lF c1, .lF c2, .eF c3, .nt false, .le e_u8 a0.S, .lF c4, .eF c5, .nt false, .le (e_sl e_u8) a0.K, .lF c6, .eT c7, .nt true, .eFo a0.Kind 4 (by omega), .nt false, .eF c5, .nt false, .le e_GValue a0.L, .lF c8, .eFo a0.Kind 0 (by omega), .eFo a0.Kind 6 (by omega), .eT c7, .lF c9, .lF c10] rfl fd_147 (by kernel_rfl)
        ·rcases ite_some h with ⟨c8, h⟩ | ⟨c8, h⟩
         ·rcases ite_some h with ⟨c9, h⟩ | ⟨c9, h⟩
          ·obtain rfl := Option.some.inj h
           exact call_wQ [.su a2 1, .lF c1, .lF c2, .eF c3, .nt false, .le e_u8 a0.S, .lF c4, .eF c5, .nt false, .le (e_sl e_u8) a0.K, .lF c6, .eF c7, .nt false, .eT c8, .nt true, .eFo a0.Kind 4 (by omega), .nt false, .eF c5, .nt false, .le e_GValue a0.L, .lT c9] rfl fd_147 (by kernel_rfl)
          ·obtain ⟨r10, hr10, h⟩ := bs h
           cases r10 with
           | true =>
            try dsimp only at h
            obtain rfl := Option.some.inj h
            exact call_wQ [.su a2 1, .lF c1, .lF c2, .eF c3, .nt false, .le e_u8 a0.S, .lF c4, .eF c5, .nt false, .le (e_sl e_u8) a0.K, .lF c6, .eF c7, .nt false, .eT c8, .nt true, .eFo a0.Kind 4 (by omega), .nt false, .eF c5, .nt false, .le e_GValue a0.L, .lF c9, .eFo a0.Kind 0 (by omega), .eFo a0.Kind 6 (by omega), .eF c7, .eT c8, .cl (ok_spec_l2int a0.N _ hr10), .nt true] rfl fd_147 (by kernel_rfl)
           | false =>
            try dsimp only at h
            obtain rfl := Option.some.inj h
            exact call_wQ [.su a2 1, .lF c1, .lF c2, .eF c3, .nt false, .le e_u8 a0.S, .lF c4, .eF c5, .nt false, .le (e_sl e_u8) a0.K, .lF c6, .eF c7, .nt false, .eT c8, .nt true, .eFo a0.Kind 4 (by omega), .nt false, .eF c5, .nt false, .le e_GValue a0.L, .lF c9, .eFo a0.Kind 0 (by omega), .eFo a0.Kind 6 (by omega), .eF c7, .eT c8, .cl (ok_spec_l2int a0.N _ hr10), .nt false] rfl fd_147 (by kernel_rfl)
         ·rcases ite_some h with ⟨c9, h⟩ | ⟨c9, h⟩
          ·rcases ite_some h with ⟨c10, h⟩ | ⟨c10, h⟩
           ·obtain ⟨o11, ho11, h⟩ := bs h
            rcases o11 with o11_0 | ⟨o11_1_0, o11_1_1⟩
            · try dsimp only at h
              obtain rfl := Option.some.inj h
              exact call_wQ [.su a2 1, .lF c1, .lF c2, .eF c3, .nt false, .le e_u8 a0.S, .lF c4, .eF c5, .nt false, .le (e_sl e_u8) a0.K, .lF c6, .eF c7, .nt false, .eF c8, .nt false, .eT c9, .nt true, .eT c10, .nt true, .eFo a0.Kind 0 (by omega), .eFo a0.Kind 6 (by omega), .eF c7, .eF c8, .eF c3, .eT c10, .eF c5, .lp (gl_spec_l2ok_l0 G_spec_l2ok H_spec_l2ok a1 a0 _ (w64 (a2 - 1)) 0 _ ho11)] rfl fd_147 (by kernel_rfl)
            · try dsimp only at h
              obtain rfl := Option.some.inj h
              exact call_wQ [.su a2 1, .lF c1, .lF c2, .eF c3, .nt false, .le e_u8 a0.S, .lF c4, .eF c5, .nt false, .le (e_sl e_u8) a0.K, .lF c6, .eF c7, .nt false, .eF c8, .nt false, .eT c9, .nt true, .eT c10, .nt true, .eFo a0.Kind 0 (by omega), .eFo a0.Kind 6 (by omega), .eF c7, .eF c8, .eF c3, .eT c10, .eF c5, .lp (gl_spec_l2ok_l0 G_spec_l2ok H_spec_l2ok a1 a0 _ (w64 (a2 - 1)) 0 _ ho11)] rfl fd_147 (by kernel_rfl)
           ·rcases ite_some h with ⟨c11, h⟩ | ⟨c11, h⟩
            ·obtain rfl := Option.some.inj h
             exact call_wQ [.su a2 1, .lF c1, .lF c2, .eF c3, .nt false, .le e_u8 a0.S, .lF c4, .eF c5, .nt false, .le (e_sl e_u8) a0.K, .lF c6, .eF c7, .nt false, .eF c8, .nt false, .eT c9, .nt true, .eF c10, .nt false, .eF c5, .nt false, .le e_GValue a0.L, .lT c11] rfl fd_147 (by kernel_rfl)
            ·rcases ite_some h with ⟨c12, h⟩ | ⟨c12, h⟩
             ·obtain rfl := Option.some.inj h
              exact call_wQ [.su a2 1, .lF c1, .lF c2, .eF c3, .nt false, .le e_u8 a0.S, .lF c4, .eF c5, .nt false, .le (e_sl e_u8) a0.K, .lF c6, .eF c7, .nt false, .eF c8, .nt false, .eT c9, .nt true, .eF c10, .nt false, .eF c5, .nt false, .le e_GValue a0.L, .lF c11, .eT c12] rfl fd_147 (by kernel_rfl)
             ·rcases ite_some h with ⟨c13, h⟩ | ⟨c13, h⟩
              ·obtain rfl := Option.some.inj h
               exact call_wQ [.su a2 1, .lF c1, .lF c2, .eF c3, .nt false, .le e_u8 a0.S, .lF c4, .eF c5, .nt false, .le (e_sl e_u8) a0.K, .lF c6, .eF c7, .nt false, .eF c8, .nt false, .eT c9, .nt true, .eF c10, .nt false, .eF c5, .nt false, .le e_GValue a0.L, .lF c11, .eF c12, .eT c13] rfl fd_147 (by kernel_rfl)
              ·obtain rfl := Option.some.inj h
               exact call_wQ [.su a2 1, .lF c1, .lF c2, .eF c3, .nt false, .le e_u8 a0.S, .lF c4, .eF c5, .nt false, .le (e_sl e_u8) a0.K, .lF c6, .eF c7, .nt false, .eF c8, .nt false, .eT c9, .nt true, .eF c10, .nt false, .eF c5, .nt false, .le e_GValue a0.L, .lF c11, .eF c12, .eF c13, .eF c7, .eF c8, .eF c3, .eF c10, .eF c5] rfl fd_147 (by kernel_rfl)
          ·obtain rfl := Option.some.inj h
           exact call_wQ [.su a2 1, .lF c1, .lF c2, .eF c3, .nt false, .le e_u8 a0.S, .lF c4, .eF c5, .nt false, .le (e_sl e_u8) a0.K, .lF c6, .eF c7, .nt false, .eF c8, .nt false, .eF c9, .nt false] rfl fd_147 (by kernel_rfl)
def U_spec_l2ok : Nat → GValue → Int → Int → Option Int
  | 0, _, _, _ => none
  | n + 1, a0, a1, a2 => T_spec_l2ok (U_spec_l2ok n) n a0 a1 a2
theorem rec_spec_l2ok (n : Nat) : (∀ (a0 : GValue) (a1 : Int) (a2 : Int) (r : Int), U_spec_l2ok n a0 a1 a2 = some r → (mach cfg).call 147 [] [.val true [.int .i64 a0.Kind, .int .i64 a0.N, .seq (eL e_u8 a0.S), .seq (eL (e_sl e_u8) a0.K), .seq (eL e_GValue a0.L)], .val false [.int .i64 a1], .val false [.int .i64 a2]] = some (.val false [.int .i64 r], [])) := by
  induction n with
  | zero => exact fun _ _ _ _ h => (by rw [U_spec_l2ok] at h; cases h)
  | succ n ih =>
    have ih_spec_l2ok := ih
    exact fun a0 a1 a2 r h => g_spec_l2ok (U_spec_l2ok n) ih_spec_l2ok n a0 a1 a2 r (by rw [U_spec_l2ok] at h; exact h)
def okV (d : Nat) (left : Int) (v : GValue) : Int := if shV d v = true ∧ (ptV v : Int) <= left then left - ptV v else -1
theorem nameOk_eq {a : List UInt8} (h : a.length <= 2 ^ 20) : S_spec_NameOk a = some (nameB a) := if_pos h
theorem l2text_eq {a : List UInt8} (h : a.length <= 2 ^ 20) : S_spec_l2text a = some (textB a) := if_pos h
theorem l2int_eq (n : Int) : S_spec_l2int n = some (decide (-1000000000000 <= n ∧ n <= 1000000000000)) := by
  unfold S_spec_l2int
  by_cases h : (-1000000000000 : Int) <= n
  · rw [if_pos h]; simp [h]
  · rw [if_neg h]; simp [h]
theorem l2ok_loop {G : GValue → Int → Int → Option Int} {v : GValue} {dd : Nat} {deep : Int} (hdd : deep + dd = 5) (h1d : 1 <= deep) (hs : vsz v <= 2 ^ 20) (hk : v.Kind = 4 ∨ (v.Kind = 5 ∧ v.K.length = v.L.length))
    (hG : ∀ x ∈ v.L, ∀ r : Int, 0 <= r → r <= 40 → G x (deep + 1) r = some (okV dd r x)) : ∀ (d i m : Nat) (r : Int), i + d = v.L.length → d < m → 0 <= r → r <= 40 →
    ∃ z, L_spec_l2ok_l0 G deep v m r (i : Int) = some (if ((v.Kind = 5 → kAll v.K i d = true) ∧ (v.L.drop i).all (shV dd) = true) ∧ (ptVs (v.L.drop i) : Int) <= r then .inr (r - ptVs (v.L.drop i), z) else .inl (-1)) := by
  have he := vsz_eq v
  have hl := vszs_len v.L
  intro d
  induction d with
  | zero =>
    intro i m r hi hm h0 h1
    obtain ⟨m, rfl, _⟩ := fuel hm
    refine ⟨(i : Int), ?_⟩
    rw [L_spec_l2ok_l0, if_neg (by omega), List.drop_eq_nil_of_le (by omega), if_pos ⟨⟨fun _ => rfl, rfl⟩, by simpa [ptVs] using h0⟩]
    simp [ptVs]
  | succ d ih =>
    intro i m r hi hm h0 h1
    obtain ⟨m, rfl, hm'⟩ := fuel hm
    have hil : i < v.L.length := by omega
    have hp : ptVs (v.L.drop i) = ptV v.L[i] + ptVs (v.L.drop (i + 1)) := by rw [drop_cons hil]; simp only [ptVs]
    have ha : (v.L.drop i).all (shV dd) = (shV dd v.L[i] && (v.L.drop (i + 1)).all (shV dd)) := by rw [drop_cons hil, List.all_cons]
    have hd1 : w64 (deep + 1) = deep + 1 := w64_id (by omega) (by omega)
    have tail : (v.Kind = 5 → kOk v.K i = true) → ∃ z, ((G v.L[i] (w64 (deep + 1)) r).bind fun r12 => if r12 < 0 then some (.inl (-1)) else L_spec_l2ok_l0 G deep v m r12 (w64 ((i : Int) + 1))) =
        some (if ((v.Kind = 5 → kAll v.K i (d + 1) = true) ∧ (v.L.drop i).all (shV dd) = true) ∧ (ptVs (v.L.drop i) : Int) <= r then .inr (r - ptVs (v.L.drop i), z) else .inl (-1)) := by
      intro hki
      rw [hd1, hG _ (List.getElem_mem hil) r h0 h1, Option.bind_some, w64_succ (by omega), hp, ha]
      unfold okV
      by_cases hc : shV dd v.L[i] = true ∧ (ptV v.L[i] : Int) <= r
      · rw [if_pos hc, if_neg (by omega)]
        obtain ⟨z, hz⟩ := ih (i + 1) m (r - ptV v.L[i]) (by omega) (by omega) (by omega) (by omega)
        refine ⟨z, ?_⟩
        rw [hz, hc.1, Bool.true_and]
        have hcond : (((v.Kind = 5 → kAll v.K (i + 1) d = true) ∧ (v.L.drop (i + 1)).all (shV dd) = true) ∧ (ptVs (v.L.drop (i + 1)) : Int) <= r - ptV v.L[i]) ↔
            (((v.Kind = 5 → kAll v.K i (d + 1) = true) ∧ (v.L.drop (i + 1)).all (shV dd) = true) ∧ ((ptV v.L[i] + ptVs (v.L.drop (i + 1)) : Nat) : Int) <= r) := by
          have hka : (v.Kind = 5 → kAll v.K (i + 1) d = true) ↔ (v.Kind = 5 → kAll v.K i (d + 1) = true) := by
            constructor
            · intro h hk; rw [kAll_succ, hki hk, h hk]; rfl
            · intro h hk; have := h hk; rw [kAll_succ, hki hk, Bool.true_and] at this; exact this
          rw [hka]
          constructor
          · rintro ⟨h1, h2⟩; exact ⟨h1, by omega⟩
          · rintro ⟨h1, h2⟩; exact ⟨h1, by omega⟩
        by_cases hd : ((v.Kind = 5 → kAll v.K (i + 1) d = true) ∧ (v.L.drop (i + 1)).all (shV dd) = true) ∧ (ptVs (v.L.drop (i + 1)) : Int) <= r - ptV v.L[i]
        · rw [if_pos hd, if_pos (hcond.1 hd)]; congr 3; omega
        · rw [if_neg hd, if_neg (fun h => hd (hcond.2 h))]
      · refine ⟨0, ?_⟩
        rw [if_neg hc, if_pos (by omega), if_neg]
        rintro ⟨⟨_, h2⟩, h3⟩
        rw [Bool.and_eq_true] at h2
        exact hc ⟨h2.1, by omega⟩
    have bad : v.Kind = 5 → kOk v.K i = false → ∃ z, (some (.inl (-1)) : Option (Int ⊕ (Int × Int))) = some (if ((v.Kind = 5 → kAll v.K i (d + 1) = true) ∧ (v.L.drop i).all (shV dd) = true) ∧ (ptVs (v.L.drop i) : Int) <= r then .inr (r - ptVs (v.L.drop i), z) else .inl (-1)) := by
      intro hk hki
      refine ⟨0, ?_⟩
      rw [if_neg]
      rintro ⟨⟨h1, _⟩, _⟩
      have := h1 hk
      rw [kAll_succ, hki] at this
      cases this
    rw [L_spec_l2ok_l0, if_pos (by omega)]
    rcases hk with hk | ⟨hk, hkl⟩
    · rw [if_neg (by omega), natO_nat, Option.bind_some, get_some hil, Option.bind_some]
      exact tail fun h => by omega
    · have hik : i < v.K.length := by omega
      have hx := bsz_mem (List.getElem_mem hik)
      rw [if_pos hk, natO_nat, Option.bind_some, get_some hik, Option.bind_some, nameOk_eq (by omega), Option.bind_some]
      cases hnm : nameB v.K[i] with
      | false =>
        dsimp only
        refine bad hk ?_
        by_cases h0 : i = 0
        · subst h0; rw [kOk_zero hik, hnm]
        · rw [kOk_eq hik (by omega), hnm]; rfl
      | true =>
        dsimp only
        by_cases h0 : 0 < i
        · rw [if_pos (by omega), w64_pred (by omega) h0, natO_nat, Option.bind_some, get_some (show i - 1 < v.K.length by omega), Option.bind_some]
          by_cases hb : Op.bytesLess (v.K[i - 1]'(by omega)) v.K[i] = true
          · rw [if_pos hb, get_some hil, Option.bind_some]
            exact tail fun _ => by rw [kOk_eq hik h0, hnm, hb]; rfl
          · rw [if_neg hb]
            refine bad hk ?_
            rw [kOk_eq hik h0, hnm]; simpa using hb
        · have : i = 0 := by omega
          subst this
          rw [if_neg (by omega), get_some hil, Option.bind_some]
          exact tail fun _ => by rw [kOk_zero hik, hnm]
theorem l2ok_T {G : GValue → Int → Int → Option Int} {v : GValue} {f dd : Nat} {deep left : Int} (hdd : deep + dd = 5 ∨ (deep = 6 ∧ dd = 0)) (h1d : 1 <= deep) (hs : vsz v <= 2 ^ 20) (hf : v.L.length < f) (h0 : 0 <= left) (h1 : left <= 40)
    (hG : deep <= 5 → ∀ x ∈ v.L, ∀ r : Int, 0 <= r → r <= 40 → G x (deep + 1) r = some (okV dd r x)) : T_spec_l2ok G f v deep left = some (okV (if deep <= 5 then dd + 1 else 0) left v) := by
  have he := vsz_eq v
  have hl := vszs_len v.L
  have hpt := ptV_eq v
  have hpl := ptVs_len v.L
  unfold T_spec_l2ok
  rw [w64_id (by omega) (by omega)]
  by_cases hleft : left - 1 < 0
  · rw [if_pos hleft]
    unfold okV; rw [if_neg (by rintro ⟨_, h⟩; omega)]
  rw [if_neg hleft]
  by_cases hdeep : 5 < deep
  · rw [if_pos hdeep, if_neg (show ¬ deep <= 5 by omega)]
    unfold okV; rw [if_neg (by rintro ⟨h, _⟩; simp [shV] at h)]
  rw [if_neg hdeep, if_pos (show deep <= 5 by omega)]
  have hdd : deep + dd = 5 := by omega
  have hG := hG (by omega)
  unfold okV
  simp only [shV]
  have fin0 : v.L.length = 0 → (v.L.all (shV dd) = true ∧ ptV v = 1) := fun h => by
    have : v.L = [] := List.eq_nil_of_length_eq_zero h
    rw [hpt, this]; exact ⟨rfl, rfl⟩
  have yes : locV v = true → v.L.length = 0 → some (left - 1) = some (if (locV v && v.L.all (shV dd)) = true ∧ (ptV v : Int) <= left then left - ptV v else -1) := fun h1 h2 => by
    obtain ⟨a1, a2⟩ := fin0 h2
    rw [h1, a1, a2, if_pos ⟨rfl, by omega⟩]; rfl
  have no : locV v = false → some (-1) = some (if (locV v && v.L.all (shV dd)) = true ∧ (ptV v : Int) <= left then left - ptV v else -1) := fun h1 => by
    rw [h1, if_neg (by rintro ⟨h, _⟩; cases h)]
  have lp : v.Kind = 4 ∨ (v.Kind = 5 ∧ v.K.length = v.L.length) → (∀ b : Bool, v.L.length <= 40 → ((v.Kind = 5 → kAll v.K 0 v.L.length = true) ↔ b = true) → locV v = b) → ((L_spec_l2ok_l0 G deep v f (left - 1) 0).bind fun o8 => match o8 with | .inl o8_0 => some o8_0 | .inr (⟨o8_1_0, o8_1_1⟩) => some o8_1_0) =
      some (if (locV v && v.L.all (shV dd)) = true ∧ (ptV v : Int) <= left then left - ptV v else -1) := fun hk hloc => by
    obtain ⟨z, hz⟩ := l2ok_loop (G := G) hdd h1d hs hk hG v.L.length 0 f (left - 1) (by omega) (by omega) (by omega) (by omega)
    rw [show ((0 : Nat) : Int) = 0 from rfl, List.drop_zero] at hz
    rw [hz, Option.bind_some]
    by_cases hc : ((v.Kind = 5 → kAll v.K 0 v.L.length = true) ∧ v.L.all (shV dd) = true) ∧ (ptVs v.L : Int) <= left - 1
    · rw [if_pos hc]
      have h40 : v.L.length <= 40 := by omega
      have := hloc true h40 ⟨fun _ => rfl, fun _ => hc.1.1⟩
      rw [this, hc.1.2, if_pos ⟨rfl, by omega⟩, hpt]
      dsimp only
      congr 1; omega
    · rw [if_neg hc, if_neg]
      rintro ⟨h2, h3⟩
      rw [Bool.and_eq_true] at h2
      refine hc ⟨⟨?_, h2.2⟩, by omega⟩
      by_cases h40 : v.L.length <= 40
      · by_cases hb : (v.Kind = 5 → kAll v.K 0 v.L.length = true)
        · exact hb
        · have := hloc false h40 ⟨fun h => (hb h).elim, fun h => by cases h⟩
          rw [this] at h2; cases h2.1
      · omega
  have hloc : ∀ k, v.Kind = k → locV v = (if k = 0 ∨ k = 6 then decide (v.N = 0 ∧ v.S.length = 0 ∧ v.K.length = 0 ∧ v.L.length = 0)
      else if k = 1 then decide ((0 <= v.N ∧ v.N <= 1) ∧ v.S.length = 0 ∧ v.K.length = 0 ∧ v.L.length = 0)
      else if k = 2 then decide ((-1000000000000 <= v.N ∧ v.N <= 1000000000000) ∧ v.S.length = 0 ∧ v.K.length = 0 ∧ v.L.length = 0)
      else if k = 3 then textB v.S && decide (v.N = 0 ∧ v.K.length = 0 ∧ v.L.length = 0)
      else if k = 4 then decide (v.N = 0 ∧ v.S.length = 0 ∧ v.K.length = 0 ∧ v.L.length <= 40)
      else if k = 5 then decide (v.K.length = v.L.length ∧ v.N = 0 ∧ v.S.length = 0 ∧ v.L.length <= 40) && kAll v.K 0 v.K.length
      else false) := fun k hk => by unfold locV; rw [hk]
  by_cases k3 : v.Kind = 3
  · have hv := hloc 3 k3
    simp only [show ¬ ((3 : Int) = 0 ∨ (3 : Int) = 6) by omega, if_false, show ¬ ((3 : Int) = 1) by omega, show ¬ ((3 : Int) = 2) by omega, if_true] at hv
    rw [if_pos k3]
    by_cases a1 : 0 < ((v.K.length : Nat) : Int)
    · rw [if_pos a1]; exact no (by rw [hv, decide_eq_false (by omega)]; simp)
    · rw [if_neg a1]
      by_cases a2 : v.N = 0
      · rw [if_pos a2]
        by_cases a3 : 0 < ((v.L.length : Nat) : Int)
        · rw [if_pos a3]; exact no (by rw [hv, decide_eq_false (by omega)]; simp)
        · rw [if_neg a3, l2text_eq (by omega), Option.bind_some]
          rw [decide_eq_true (by omega), Bool.and_true] at hv
          cases ht : textB v.S with
          | true => exact yes (by rw [hv, ht]) (by omega)
          | false => exact no (by rw [hv, ht])
      · rw [if_neg a2]; exact no (by rw [hv, decide_eq_false (by omega)]; simp)
  rw [if_neg k3]
  by_cases hS : 0 < ((v.S.length : Nat) : Int)
  · rw [if_pos hS]
    refine no ?_
    unfold locV
    simp only [k3, if_false]
    repeat' split
    all_goals first | rfl | (rw [decide_eq_false (by omega)]; try rfl)
  rw [if_neg hS]
  by_cases k5 : v.Kind = 5
  · have hv := hloc 5 k5
    simp only [show ¬ ((5 : Int) = 0 ∨ (5 : Int) = 6) by omega, if_false, show ¬ ((5 : Int) = 1) by omega, show ¬ ((5 : Int) = 2) by omega, show ¬ ((5 : Int) = 3) by omega, show ¬ ((5 : Int) = 4) by omega, if_true] at hv
    rw [if_pos k5]
    by_cases a2 : v.N = 0
    · rw [if_pos a2]
      by_cases a3 : ((v.K.length : Nat) : Int) = ((v.L.length : Nat) : Int)
      · rw [if_pos a3]
        refine lp (.inr ⟨k5, by omega⟩) fun b h40 hb => ?_
        rw [hv, decide_eq_true (by omega), Bool.true_and, show v.K.length = v.L.length by omega, Bool.eq_iff_iff, <- hb]
        exact ⟨fun h _ => h, fun h => h k5⟩
      · rw [if_neg a3]; exact no (by rw [hv, decide_eq_false (by omega)]; rfl)
    · rw [if_neg a2]; exact no (by rw [hv, decide_eq_false (by omega)]; rfl)
  rw [if_neg k5]
  by_cases hK : 0 < ((v.K.length : Nat) : Int)
  · rw [if_pos hK]
    refine no ?_
    unfold locV
    simp only [k3, k5, if_false]
    repeat' split
    all_goals first | rfl | (rw [decide_eq_false (by omega)]; try rfl)
  rw [if_neg hK]
  by_cases k1 : v.Kind = 1
  · have hv := hloc 1 k1
    simp only [show ¬ ((1 : Int) = 0 ∨ (1 : Int) = 6) by omega, if_false, if_true] at hv
    rw [if_pos k1]
    by_cases a3 : 0 < ((v.L.length : Nat) : Int)
    · rw [if_pos a3]; exact no (by rw [hv, decide_eq_false (by omega)])
    · rw [if_neg a3]
      by_cases a4 : v.N < 0
      · rw [if_pos a4]; exact no (by rw [hv, decide_eq_false (by omega)])
      · rw [if_neg a4]
        by_cases a5 : 1 < v.N
        · rw [if_pos a5]; exact no (by rw [hv, decide_eq_false (by omega)])
        · rw [if_neg a5]; exact yes (by rw [hv, decide_eq_true (by omega)]) (by omega)
  rw [if_neg k1]
  by_cases k2 : v.Kind = 2
  · have hv := hloc 2 k2
    simp only [show ¬ ((2 : Int) = 0 ∨ (2 : Int) = 6) by omega, if_false, show ¬ ((2 : Int) = 1) by omega, if_true] at hv
    rw [if_pos k2]
    by_cases a3 : 0 < ((v.L.length : Nat) : Int)
    · rw [if_pos a3]; exact no (by rw [hv, decide_eq_false (by omega)])
    · rw [if_neg a3, l2int_eq, Option.bind_some]
      by_cases a4 : -1000000000000 <= v.N ∧ v.N <= 1000000000000
      · rw [decide_eq_true a4]; exact yes (by rw [hv, decide_eq_true (by omega)]) (by omega)
      · rw [decide_eq_false a4]; exact no (by rw [hv, decide_eq_false (by omega)])
  rw [if_neg k2]
  by_cases a2 : v.N = 0
  · rw [if_pos a2]
    by_cases k4 : v.Kind = 4
    · have hv := hloc 4 k4
      simp only [show ¬ ((4 : Int) = 0 ∨ (4 : Int) = 6) by omega, if_false, show ¬ ((4 : Int) = 1) by omega, show ¬ ((4 : Int) = 2) by omega, show ¬ ((4 : Int) = 3) by omega, if_true] at hv
      rw [if_pos k4]
      refine lp (.inl k4) fun b h40 hb => ?_
      rw [hv, decide_eq_true (by omega)]
      exact (hb.1 fun h => by omega).symm
    · rw [if_neg k4]
      by_cases a3 : 0 < ((v.L.length : Nat) : Int)
      · rw [if_pos a3]
        refine no ?_
        unfold locV
        simp only [k1, k2, k3, k4, k5, if_false]
        repeat' split
        all_goals first | rfl | (rw [decide_eq_false (by omega)])
      · rw [if_neg a3]
        by_cases k0 : v.Kind = 0
        · rw [if_pos k0]; exact yes (by unfold locV; rw [if_pos (.inl k0), decide_eq_true (by omega)]) (by omega)
        · rw [if_neg k0]
          by_cases k6 : v.Kind = 6
          · rw [if_pos k6]; exact yes (by unfold locV; rw [if_pos (.inr k6), decide_eq_true (by omega)]) (by omega)
          · rw [if_neg k6]
            exact no (by unfold locV; simp only [k0, k1, k2, k3, k4, k5, k6, or_self, if_false])
  · rw [if_neg a2]
    refine no ?_
    unfold locV
    simp only [k1, k2, k3, k5, if_false]
    repeat' split
    all_goals first | rfl | (rw [decide_eq_false (by omega)])
theorem l2ok_U : ∀ (N : Nat) (v : GValue), vsz v < N → vsz v <= 2 ^ 20 → ∀ (f : Nat) (deep left : Int), vsz v + 2 <= f → 1 <= deep → deep <= 6 → 0 <= left → left <= 40 → U_spec_l2ok f v deep left = some (okV (6 - deep).toNat left v) := by
  intro N
  induction N with
  | zero => intro v hv; omega
  | succ N ih =>
    intro v hv hs f deep left hf h1 h2 h3 h4
    obtain ⟨f, rfl, _⟩ := fuel (show 0 < f by omega)
    have he := vsz_eq v
    have hl := vszs_len v.L
    rw [U_spec_l2ok]
    have := l2ok_T (G := U_spec_l2ok f) (f := f) (dd := (5 - deep).toNat) (deep := deep) (left := left) (by omega) h1 hs (by omega) h3 h4 fun hd x hx r g0 g1 => by
      have hm := vszs_mem hx
      have := ih x (by omega) (by omega) f (deep + 1) r (by omega) (by omega) (by omega) g0 g1
      rw [show (6 - (deep + 1)).toNat = (5 - deep).toNat by omega] at this
      exact this
    rw [this]
    congr 2
    by_cases hd : deep <= 5
    · rw [if_pos hd]; omega
    · rw [if_neg hd]; omega
def S_spec_l2ok (a0 : GValue) (a1 : Int) (a2 : Int) : Option Int := if vsz a0 <= 2 ^ 20 ∧ (1 <= a1 ∧ a1 <= 6) ∧ 0 <= a2 ∧ a2 <= 40 then some (okV (6 - a1).toNat a2 a0) else none
theorem spec_spec_l2ok (a0 : GValue) (a1 : Int) (a2 : Int) (r : Int) (h : S_spec_l2ok a0 a1 a2 = some r) : ∃ n, U_spec_l2ok n a0 a1 a2 = some r := by
  unfold S_spec_l2ok at h
  obtain ⟨⟨hs, ⟨h1, h2⟩, h3, h4⟩, h⟩ := need_c h
  exact ⟨vsz a0 + 2, by rw [<- h]; exact l2ok_U _ a0 (Nat.lt_succ_self _) hs _ a1 a2 (Nat.le_refl _) h1 h2 h3 h4⟩
theorem ok_spec_l2ok (a0 : GValue) (a1 : Int) (a2 : Int) (r : Int) (h : S_spec_l2ok a0 a1 a2 = some r) : (mach cfg).call 147 [] [.val true [.int .i64 a0.Kind, .int .i64 a0.N, .seq (eL e_u8 a0.S), .seq (eL (e_sl e_u8) a0.K), .seq (eL e_GValue a0.L)], .val false [.int .i64 a1], .val false [.int .i64 a2]] = some (.val false [.int .i64 r], []) := by
  obtain ⟨n, hn⟩ := spec_spec_l2ok a0 a1 a2 r h
  exact (rec_spec_l2ok n) a0 a1 a2 r hn
def S_spec_ValOk (a0 : GValue) : Option Bool :=
  (S_spec_l2ok a0 1 40).bind fun r1 =>
  some (decide (0 <= r1))
set_option maxRecDepth 100000 in
theorem fd_107 : cfg.funcs 107 = some (bodyOf Tryz.f107, Tryz.f107.ntmps, Tryz.f107.results.toList) := fn_of Tryz.func107 (by kernel_rfl) (by kernel_rfl)
theorem ok_spec_ValOk (a0 : GValue) (r : Bool) (h : S_spec_ValOk a0 = some r) : (mach cfg).call 107 [] [.val true [.int .i64 a0.Kind, .int .i64 a0.N, .seq (eL e_u8 a0.S), .seq (eL (e_sl e_u8) a0.K), .seq (eL e_GValue a0.L)]] = some (.val false [.bool r], []) := by
  unfold S_spec_ValOk at h
  obtain ⟨r1, hr1, h⟩ := bs h
  obtain rfl := Option.some.inj h
  exact call_wQ [.cl (ok_spec_l2ok a0 1 40 _ hr1), .gD 0 r1] rfl fd_107 (by kernel_rfl)
def L_spec_l2known_l0 (G_spec_l2known : GValue → Option Bool) (a0 : GValue) : Nat → Int → Option (Bool ⊕ Int)
  | 0, _ => none
  | m + 1, v0 =>
    if v0 < ((a0.L.length : Nat) : Int) then
      (natO v0).bind fun i2 =>
      (a0.L[i2]?).bind fun x3 =>
      (G_spec_l2known x3).bind fun r4 =>
      match r4 with
      | true =>
        L_spec_l2known_l0 G_spec_l2known a0 m (w64 (v0 + 1))
      | false =>
        some (.inl false)
    else
      some (.inr v0)
theorem gl_spec_l2known_l0 (G_spec_l2known : GValue → Option Bool) (H_spec_l2known : ∀ (a0 : GValue) (r : Bool), G_spec_l2known a0 = some r → (mach cfg).call 108 [] [.val true [.int .i64 a0.Kind, .int .i64 a0.N, .seq (eL e_u8 a0.S), .seq (eL (e_sl e_u8) a0.K), .seq (eL e_GValue a0.L)]] = some (.val false [.bool r], [])) (a0 : GValue) (m : Nat) : ∀ (v0 : Int) (o : (Bool ⊕ Int)), L_spec_l2known_l0 G_spec_l2known a0 m v0 = some o → (mach cfg).loop 108 (loopB Tryz.f108 0) ⟨[(1, .val false [.ptr 0 0]), (3, .val false [.int .i64 v0])], [.var [.int .i64 a0.Kind, .int .i64 a0.N, .seq (eL e_u8 a0.S), .seq (eL (e_sl e_u8) a0.K), .seq (eL e_GValue a0.L)]], 0⟩ = some (match o with | .inl o_0 => (.ret, (⟨[(2, .val false [.bool o_0])], [], 0⟩ : S)) | .inr (o_1) => (.exit 0, (⟨[(1, .val false [.ptr 0 0]), (3, .val false [.int .i64 o_1]), (11, .val false [.bool false])], [.var [.int .i64 a0.Kind, .int .i64 a0.N, .seq (eL e_u8 a0.S), .seq (eL (e_sl e_u8) a0.K), .seq (eL e_GValue a0.L)]], 0⟩ : S))) := by
  induction m with
  | zero => intro v0 o h; cases h
  | succ m ih =>
    intro v0 o h
    rw [L_spec_l2known_l0] at h
    rcases ite_some h with ⟨c1, h⟩ | ⟨c1, h⟩
    ·obtain ⟨i2, hi2, h⟩ := bs h
     obtain ⟨x3, hx3, h⟩ := bs h
     obtain ⟨r4, hr4, h⟩ := bs h
     cases r4 with
     | true =>
      try dsimp only at h
      exact loop_nQ [.le e_GValue a0.L, .lT c1, .na hi2, .ix hx3 (eq_GValue x3), .cl (H_spec_l2known x3 _ hr4), .nt true, .ad v0 1] (by kernel_rfl) (ih (w64 (v0 + 1)) o h)
     | false =>
      try dsimp only at h
      obtain rfl := Option.some.inj h
      exact loop_eQ [.le e_GValue a0.L, .lT c1, .na hi2, .ix hx3 (eq_GValue x3), .cl (H_spec_l2known x3 _ hr4), .nt false] (by kernel_rfl) (by intro h; cases h)
    ·obtain rfl := Option.some.inj h
     exact loop_eQ [.le e_GValue a0.L, .lF c1] (by kernel_rfl) (by intro h; cases h)
def T_spec_l2known (G_spec_l2known : GValue → Option Bool) (n : Nat) (a0 : GValue) : Option Bool :=
  if a0.Kind = 6 then
    some false
  else
    (L_spec_l2known_l0 G_spec_l2known a0 n 0).bind fun o2 =>
    match o2 with
    | .inl o2_0 =>
      some o2_0
    | .inr (o2_1) =>
      some true
set_option maxRecDepth 100000 in
theorem fd_108 : cfg.funcs 108 = some (bodyOf Tryz.f108, Tryz.f108.ntmps, Tryz.f108.results.toList) := fn_of Tryz.func108 (by kernel_rfl) (by kernel_rfl)
theorem g_spec_l2known (G_spec_l2known : GValue → Option Bool) (H_spec_l2known : ∀ (a0 : GValue) (r : Bool), G_spec_l2known a0 = some r → (mach cfg).call 108 [] [.val true [.int .i64 a0.Kind, .int .i64 a0.N, .seq (eL e_u8 a0.S), .seq (eL (e_sl e_u8) a0.K), .seq (eL e_GValue a0.L)]] = some (.val false [.bool r], [])) (n : Nat) (a0 : GValue) (r : Bool) (h : T_spec_l2known G_spec_l2known n a0 = some r) : (mach cfg).call 108 [] [.val true [.int .i64 a0.Kind, .int .i64 a0.N, .seq (eL e_u8 a0.S), .seq (eL (e_sl e_u8) a0.K), .seq (eL e_GValue a0.L)]] = some (.val false [.bool r], []) := by
  unfold T_spec_l2known at h
  rcases ite_some h with ⟨c1, h⟩ | ⟨c1, h⟩
  ·obtain rfl := Option.some.inj h
   exact call_wQ [.eT c1] rfl fd_108 (by kernel_rfl)
  ·obtain ⟨o2, ho2, h⟩ := bs h
   rcases o2 with o2_0 | o2_1
   · try dsimp only at h
     obtain rfl := Option.some.inj h
     exact call_wQ [.eF c1, .lp (gl_spec_l2known_l0 G_spec_l2known H_spec_l2known a0 _ 0 _ ho2)] rfl fd_108 (by kernel_rfl)
   · try dsimp only at h
     obtain rfl := Option.some.inj h
     exact call_wQ [.eF c1, .lp (gl_spec_l2known_l0 G_spec_l2known H_spec_l2known a0 _ 0 _ ho2)] rfl fd_108 (by kernel_rfl)
def U_spec_l2known : Nat → GValue → Option Bool
  | 0, _ => none
  | n + 1, a0 => T_spec_l2known (U_spec_l2known n) n a0
theorem rec_spec_l2known (n : Nat) : (∀ (a0 : GValue) (r : Bool), U_spec_l2known n a0 = some r → (mach cfg).call 108 [] [.val true [.int .i64 a0.Kind, .int .i64 a0.N, .seq (eL e_u8 a0.S), .seq (eL (e_sl e_u8) a0.K), .seq (eL e_GValue a0.L)]] = some (.val false [.bool r], [])) := by
  induction n with
  | zero => exact fun _ _ h => (by rw [U_spec_l2known] at h; cases h)
  | succ n ih =>
    have ih_spec_l2known := ih
    exact fun a0 r h => g_spec_l2known (U_spec_l2known n) ih_spec_l2known n a0 r (by rw [U_spec_l2known] at h; exact h)
theorem l2known_loop {G : GValue → Option Bool} {v : GValue} (ha : v.L.length <= 2 ^ 40) (hG : ∀ x ∈ v.L, G x = some (knV x)) : ∀ (l p : List GValue) (m : Nat), v.L = p ++ l → l.length < m → ∃ z, L_spec_l2known_l0 G v m ((p.length : Nat) : Int) = some (if knVs l = true then .inr z else .inl false) := by
  intro l
  induction l with
  | nil =>
    intro p m he hm
    obtain ⟨m, rfl, _⟩ := fuel hm
    exact ⟨_, by rw [L_spec_l2known_l0, if_neg (by rw [he]; exact nlt_end p)]; rfl⟩
  | cons x l ih =>
    intro p m he hm
    obtain ⟨m, rfl, hm'⟩ := fuel hm
    have hlen : v.L.length = p.length + (l.length + 1) := by rw [he]; simp
    rw [L_spec_l2known_l0, if_pos (by omega), natO_nat, Option.bind_some, show v.L[p.length]? = some x by rw [he]; exact get_mid p x l, Option.bind_some, hG x (by rw [he]; simp), Option.bind_some, knVs]
    cases hx : knV x with
    | true =>
      dsimp only
      rw [w64_len p x (by omega), Bool.true_and]
      exact ih (p ++ [x]) m (by rw [he]; simp) (by simp only [List.length_cons] at hm'; omega)
    | false => exact ⟨0, rfl⟩
theorem l2known_U : ∀ (N : Nat) (v : GValue), vsz v < N → vsz v <= 2 ^ 39 → ∀ f, vsz v + 2 <= f → U_spec_l2known f v = some (knV v) := by
  intro N
  induction N with
  | zero => intro v hv; omega
  | succ N ih =>
    intro v hv hs f hf
    have he := vsz_eq v
    have hl := vszs_len v.L
    obtain ⟨f, rfl, _⟩ := fuel (show 0 < f by omega)
    rw [U_spec_l2known]
    unfold T_spec_l2known
    rw [knV_eq]
    by_cases h6 : v.Kind = 6
    · rw [if_pos h6, h6]; rfl
    · rw [if_neg h6]
      obtain ⟨z, hz⟩ := l2known_loop (G := U_spec_l2known f) (v := v) (by omega) (fun x hx => by
        have := vszs_mem hx
        exact ih x (by omega) (by omega) f (by omega)) v.L [] f rfl (by omega)
      simp only [List.length_nil, Int.natCast_zero] at hz
      rw [hz, Option.bind_some, decide_eq_true h6, Bool.true_and]
      cases knVs v.L <;> rfl
def S_spec_l2known (a0 : GValue) : Option Bool := if vsz a0 <= 2 ^ 39 then some (knV a0) else none
theorem spec_spec_l2known (a0 : GValue) (r : Bool) (h : S_spec_l2known a0 = some r) : ∃ n, U_spec_l2known n a0 = some r := by
  unfold S_spec_l2known at h
  obtain ⟨ha, h⟩ := need_c h
  exact ⟨vsz a0 + 2, by rw [<- h]; exact l2known_U _ a0 (Nat.lt_succ_self _) ha _ (Nat.le_refl _)⟩
theorem ok_spec_l2known (a0 : GValue) (r : Bool) (h : S_spec_l2known a0 = some r) : (mach cfg).call 108 [] [.val true [.int .i64 a0.Kind, .int .i64 a0.N, .seq (eL e_u8 a0.S), .seq (eL (e_sl e_u8) a0.K), .seq (eL e_GValue a0.L)]] = some (.val false [.bool r], []) := by
  obtain ⟨n, hn⟩ := spec_spec_l2known a0 r h
  exact (rec_spec_l2known n) a0 r hn
def S_spec_l4map (a0 : GValue) : Option Bool :=
  if a0.Kind = 5 then
    (S_spec_ValOk a0).bind fun r2 =>
    match r2 with
    | true =>
      (S_spec_l2known a0).bind fun r4 =>
      some r4
    | false =>
      some false
  else
    some false
set_option maxRecDepth 100000 in
theorem fd_63 : cfg.funcs 63 = some (bodyOf Tryz.f63, Tryz.f63.ntmps, Tryz.f63.results.toList) := fn_of Tryz.func63 (by kernel_rfl) (by kernel_rfl)
theorem ok_spec_l4map (a0 : GValue) (r : Bool) (h : S_spec_l4map a0 = some r) : (mach cfg).call 63 [] [.val true [.int .i64 a0.Kind, .int .i64 a0.N, .seq (eL e_u8 a0.S), .seq (eL (e_sl e_u8) a0.K), .seq (eL e_GValue a0.L)]] = some (.val false [.bool r], []) := by
  unfold S_spec_l4map at h
  rcases ite_some h with ⟨c1, h⟩ | ⟨c1, h⟩
  ·obtain ⟨r2, hr2, h⟩ := bs h
   cases r2 with
   | true =>
    try dsimp only at h
    obtain ⟨r4, hr4, h⟩ := bs h
    obtain rfl := Option.some.inj h
    exact call_wQ [.eT c1, .cl (ok_spec_ValOk a0 _ hr2), .cl (ok_spec_l2known a0 _ hr4)] rfl fd_63 (by kernel_rfl)
   | false =>
    try dsimp only at h
    obtain rfl := Option.some.inj h
    exact call_wQ [.eT c1, .cl (ok_spec_ValOk a0 _ hr2)] rfl fd_63 (by kernel_rfl)
  ·obtain rfl := Option.some.inj h
   exact call_wQ [.eF c1] rfl fd_63 (by kernel_rfl)
def L_spec_l4addrs_l0 (a0 : (List (List UInt8))) : Nat → Int → Option (Bool ⊕ Int)
  | 0, _ => none
  | m + 1, v1 =>
    if v1 < ((a0.length : Nat) : Int) then
      (natO v1).bind fun i2 =>
      (a0[i2]?).bind fun x3 =>
      (S_spec_AddrOk x3).bind fun r4 =>
      match r4 with
      | true =>
        if 0 < v1 then
          (natO (w64 (v1 - 1))).bind fun i7 =>
          (a0[i7]?).bind fun x8 =>
          if Op.bytesLess x8 x3 = true then
            L_spec_l4addrs_l0 a0 m (w64 (v1 + 1))
          else
            some (.inl false)
        else
          L_spec_l4addrs_l0 a0 m (w64 (v1 + 1))
      | false =>
        some (.inl false)
    else
      some (.inr v1)
theorem gl_spec_l4addrs_l0 (a0 : (List (List UInt8))) (m : Nat) : ∀ (v1 : Int) (o : (Bool ⊕ Int)), L_spec_l4addrs_l0 a0 m v1 = some o → (mach cfg).loop 64 (loopB Tryz.f64 0) ⟨[(0, .val false [.seq (eL (e_sl e_u8) a0)]), (3, .val false [.int .i64 v1])], [], 0⟩ = some (match o with | .inl o_0 => (.ret, (⟨[(2, .val false [.bool o_0])], [], 0⟩ : S)) | .inr (o_1) => (.exit 0, (⟨[(0, .val false [.seq (eL (e_sl e_u8) a0)]), (3, .val false [.int .i64 o_1]), (10, .val false [.bool false])], [], 0⟩ : S))) := by
  induction m with
  | zero => intro v1 o h; cases h
  | succ m ih =>
    intro v1 o h
    rw [L_spec_l4addrs_l0] at h
    rcases ite_some h with ⟨c1, h⟩ | ⟨c1, h⟩
    ·obtain ⟨i2, hi2, h⟩ := bs h
     obtain ⟨x3, hx3, h⟩ := bs h
     obtain ⟨r4, hr4, h⟩ := bs h
     cases r4 with
     | true =>
      try dsimp only at h
      rcases ite_some h with ⟨c6, h⟩ | ⟨c6, h⟩
      ·obtain ⟨i7, hi7, h⟩ := bs h
       obtain ⟨x8, hx8, h⟩ := bs h
       rcases ite_some h with ⟨c9, h⟩ | ⟨c9, h⟩
       ·exact loop_nQ [.le (e_sl e_u8) a0, .lT c1, .na hi2, .ix0 (e_sl e_u8) hx3, .cl (ok_spec_AddrOk x3 _ hr4), .nt true, .lT c6, .su v1 1, .na hi7, .ix0 (e_sl e_u8) hx8, ⟨.bytes (eL e_u8 x8), .s x8, A.bytes⟩, .na hi2, .ix0 (e_sl e_u8) hx3, ⟨.bytes (eL e_u8 x3), .s x3, A.bytes⟩, ⟨.ltS x8 x3, .b true, (A.ltS_t c9)⟩, .nt true, .ad v1 1] (by kernel_rfl) (ih (w64 (v1 + 1)) o h)
       ·obtain rfl := Option.some.inj h
        exact loop_eQ [.le (e_sl e_u8) a0, .lT c1, .na hi2, .ix0 (e_sl e_u8) hx3, .cl (ok_spec_AddrOk x3 _ hr4), .nt true, .lT c6, .su v1 1, .na hi7, .ix0 (e_sl e_u8) hx8, ⟨.bytes (eL e_u8 x8), .s x8, A.bytes⟩, .na hi2, .ix0 (e_sl e_u8) hx3, ⟨.bytes (eL e_u8 x3), .s x3, A.bytes⟩, ⟨.ltS x8 x3, .b false, (A.ltS_f c9)⟩, .nt false] (by kernel_rfl) (by intro h; cases h)
      ·exact loop_nQ [.le (e_sl e_u8) a0, .lT c1, .na hi2, .ix0 (e_sl e_u8) hx3, .cl (ok_spec_AddrOk x3 _ hr4), .nt true, .lF c6, .ad v1 1] (by kernel_rfl) (ih (w64 (v1 + 1)) o h)
     | false =>
      try dsimp only at h
      obtain rfl := Option.some.inj h
      exact loop_eQ [.le (e_sl e_u8) a0, .lT c1, .na hi2, .ix0 (e_sl e_u8) hx3, .cl (ok_spec_AddrOk x3 _ hr4), .nt false] (by kernel_rfl) (by intro h; cases h)
    ·obtain rfl := Option.some.inj h
     exact loop_eQ [.le (e_sl e_u8) a0, .lF c1] (by kernel_rfl) (by intro h; cases h)
def T_spec_l4addrs (n : Nat) (a0 : (List (List UInt8))) : Option Bool :=
  if 8 < ((a0.length : Nat) : Int) then
    some false
  else
    (L_spec_l4addrs_l0 a0 n 0).bind fun o2 =>
    match o2 with
    | .inl o2_0 =>
      some o2_0
    | .inr (o2_1) =>
      some true
set_option maxRecDepth 100000 in
theorem fd_64 : cfg.funcs 64 = some (bodyOf Tryz.f64, Tryz.f64.ntmps, Tryz.f64.results.toList) := fn_of Tryz.func64 (by kernel_rfl) (by kernel_rfl)
theorem g_spec_l4addrs (n : Nat) (a0 : (List (List UInt8))) (r : Bool) (h : T_spec_l4addrs n a0 = some r) : (mach cfg).call 64 [] [.val false [.seq (eL (e_sl e_u8) a0)]] = some (.val false [.bool r], []) := by
  unfold T_spec_l4addrs at h
  rcases ite_some h with ⟨c1, h⟩ | ⟨c1, h⟩
  ·obtain rfl := Option.some.inj h
   exact call_wQ [.le (e_sl e_u8) a0, .lT c1] rfl fd_64 (by kernel_rfl)
  ·obtain ⟨o2, ho2, h⟩ := bs h
   rcases o2 with o2_0 | o2_1
   · try dsimp only at h
     obtain rfl := Option.some.inj h
     exact call_wQ [.le (e_sl e_u8) a0, .lF c1, .lp (gl_spec_l4addrs_l0 a0 _ 0 _ ho2)] rfl fd_64 (by kernel_rfl)
   · try dsimp only at h
     obtain rfl := Option.some.inj h
     exact call_wQ [.le (e_sl e_u8) a0, .lF c1, .lp (gl_spec_l4addrs_l0 a0 _ 0 _ ho2)] rfl fd_64 (by kernel_rfl)
theorem specAd_eq {a : List UInt8} (h : a.length <= 2 ^ 20) : S_spec_AddrOk a = some (addrB a) := specA_eq h
theorem l4addrs_loop {a : List (List UInt8)} (hs : ∀ x ∈ a, x.length <= 2 ^ 20) (ha : a.length <= 2 ^ 40) : ∀ (d i m : Nat), i + d = a.length → d < m → ∃ z, L_spec_l4addrs_l0 a m (i : Int) = some (if gAll addrB id a i d = true then .inr z else .inl false) := by
  intro d
  induction d with
  | zero =>
    intro i m hi hm
    obtain ⟨m, rfl, _⟩ := fuel hm
    exact ⟨_, by rw [L_spec_l4addrs_l0, if_neg (by omega)]; rfl⟩
  | succ d ih =>
    intro i m hi hm
    obtain ⟨m, rfl, hm'⟩ := fuel hm
    have hil : i < a.length := by omega
    rw [L_spec_l4addrs_l0, if_pos (by omega), natO_nat, Option.bind_some, get_some hil, Option.bind_some, specAd_eq (hs _ (List.getElem_mem hil)), Option.bind_some, gAll_succ]
    obtain ⟨z, hz⟩ := ih (i + 1) m (by omega) (by omega)
    cases hx : addrB a[i] with
    | false =>
      refine ⟨0, ?_⟩
      have : gOk addrB id a i = false := by
        unfold gOk; rw [get_some hil]; simp [hx]
      rw [this]; rfl
    | true =>
      dsimp only
      by_cases h0 : 0 < i
      · rw [if_pos (by omega), w64_pred (by omega) h0, natO_nat, Option.bind_some, get_some (show i - 1 < a.length by omega), Option.bind_some, gOk_eq hil h0, hx, Bool.true_and, w64_succ (by omega), hz]
        by_cases hl : Op.bytesLess a[i - 1] a[i] = true
        · rw [if_pos hl, show Op.bytesLess (id a[i - 1]) (id a[i]) = true from hl, Bool.true_and]; exact ⟨z, rfl⟩
        · rw [if_neg hl, show Op.bytesLess (id a[i - 1]) (id a[i]) = false from Bool.eq_false_iff.2 hl]; exact ⟨z, rfl⟩
      · obtain rfl : i = 0 := by omega
        rw [if_neg (by omega), gOk_zero hil, hx, Bool.true_and, w64_succ (by omega), hz]
        exact ⟨z, rfl⟩
def S_spec_l4addrs (a0 : (List (List UInt8))) : Option Bool := if bsz a0 <= 2 ^ 20 then some (addrsB a0) else none
theorem spec_spec_l4addrs (a0 : (List (List UInt8))) (r : Bool) (h : S_spec_l4addrs a0 = some r) : ∃ n, T_spec_l4addrs n a0 = some r := by
  unfold S_spec_l4addrs at h
  obtain ⟨ha, h⟩ := need_c h
  have hl := bsz_len a0
  obtain ⟨z, hz⟩ := l4addrs_loop (a := a0) (fun x hx => by have := bsz_mem hx; omega) (by omega) a0.length 0 (a0.length + 1) (by omega) (by omega)
  refine ⟨a0.length + 1, ?_⟩
  unfold T_spec_l4addrs
  rw [show ((0 : Nat) : Int) = 0 from rfl] at hz
  rw [<- h]
  unfold addrsB
  by_cases h8 : (8 : Int) < ((a0.length : Nat) : Int)
  · rw [if_pos h8, decide_eq_false (by omega)]; rfl
  · rw [if_neg h8, hz, Option.bind_some, decide_eq_true (by omega), Bool.true_and]
    cases gAll addrB id a0 0 a0.length <;> rfl
theorem ok_spec_l4addrs (a0 : (List (List UInt8))) (r : Bool) (h : S_spec_l4addrs a0 = some r) : (mach cfg).call 64 [] [.val false [.seq (eL (e_sl e_u8) a0)]] = some (.val false [.bool r], []) := by
  obtain ⟨n, hn⟩ := spec_spec_l4addrs a0 r h
  exact g_spec_l4addrs n a0 r hn
def L_spec_StateOk_l0 (a0 : GState) : Nat → Int → Option (Bool ⊕ Int)
  | 0, _ => none
  | m + 1, v0 =>
    if v0 < ((a0.Entries.length : Nat) : Int) then
      (natO v0).bind fun i2 =>
      (a0.Entries[i2]?).bind fun x3 =>
      (S_spec_AddrOk x3.Addr).bind fun r4 =>
      match r4 with
      | true =>
        (S_spec_l4map x3.Val).bind fun r6 =>
        match r6 with
        | true =>
          (S_spec_l4addrs x3.Deps).bind fun r8 =>
          match r8 with
          | true =>
            if x3.Turned < 1 then
              some (.inl false)
            else
              if a0.Serial < x3.Turned then
                some (.inl false)
              else
                if 0 < v0 then
                  (natO (w64 (v0 - 1))).bind fun i13 =>
                  (a0.Entries[i13]?).bind fun x14 =>
                  if Op.bytesLess x14.Addr x3.Addr = true then
                    L_spec_StateOk_l0 a0 m (w64 (v0 + 1))
                  else
                    some (.inl false)
                else
                  L_spec_StateOk_l0 a0 m (w64 (v0 + 1))
          | false =>
            some (.inl false)
        | false =>
          some (.inl false)
      | false =>
        some (.inl false)
    else
      some (.inr v0)
theorem gl_spec_StateOk_l0 (a0 : GState) (m : Nat) : ∀ (v0 : Int) (o : (Bool ⊕ Int)), L_spec_StateOk_l0 a0 m v0 = some o → (mach cfg).loop 14 (loopB Tryz.f14 0) ⟨[(1, .val false [.ptr 0 0]), (4, .val false [.int .i64 v0])], [.var [.int .i64 a0.Serial, .bool a0.Open, .seq (eL e_u8 a0.Pending), .int .i64 a0.Act, .seq (eL e_GEntry a0.Entries)]], 0⟩ = some (match o with | .inl o_0 => (.ret, (⟨[(2, .val false [.bool o_0])], [], 0⟩ : S)) | .inr (o_1) => (.exit 0, (⟨[(1, .val false [.ptr 0 0]), (4, .val false [.int .i64 o_1]), (71, .val false [.bool false])], [.var [.int .i64 a0.Serial, .bool a0.Open, .seq (eL e_u8 a0.Pending), .int .i64 a0.Act, .seq (eL e_GEntry a0.Entries)]], 0⟩ : S))) := by
  induction m with
  | zero => intro v0 o h; cases h
  | succ m ih =>
    intro v0 o h
    rw [L_spec_StateOk_l0] at h
    rcases ite_some h with ⟨c1, h⟩ | ⟨c1, h⟩
    ·obtain ⟨i2, hi2, h⟩ := bs h
     obtain ⟨x3, hx3, h⟩ := bs h
     obtain ⟨r4, hr4, h⟩ := bs h
     cases r4 with
     | true =>
      try dsimp only at h
      obtain ⟨r6, hr6, h⟩ := bs h
      cases r6 with
      | true =>
       try dsimp only at h
       obtain ⟨r8, hr8, h⟩ := bs h
       cases r8 with
       | true =>
        try dsimp only at h
        rcases ite_some h with ⟨c10, h⟩ | ⟨c10, h⟩
        ·obtain rfl := Option.some.inj h
         exact loop_eQ [.le e_GEntry a0.Entries, .lT c1, .na hi2, .ix hx3 (eq_GEntry x3), .cl (ok_spec_AddrOk x3.Addr _ hr4), .nt true, .cl (ok_spec_l4map x3.Val _ hr6), .nt true, .cl (ok_spec_l4addrs x3.Deps _ hr8), .nt true, .lT c10] (by kernel_rfl) (by intro h; cases h)
        ·rcases ite_some h with ⟨c11, h⟩ | ⟨c11, h⟩
         ·obtain rfl := Option.some.inj h
          exact loop_eQ [.le e_GEntry a0.Entries, .lT c1, .na hi2, .ix hx3 (eq_GEntry x3), .cl (ok_spec_AddrOk x3.Addr _ hr4), .nt true, .cl (ok_spec_l4map x3.Val _ hr6), .nt true, .cl (ok_spec_l4addrs x3.Deps _ hr8), .nt true, .lF c10, .lT c11] (by kernel_rfl) (by intro h; cases h)
         ·rcases ite_some h with ⟨c12, h⟩ | ⟨c12, h⟩
          ·obtain ⟨i13, hi13, h⟩ := bs h
           obtain ⟨x14, hx14, h⟩ := bs h
           rcases ite_some h with ⟨c15, h⟩ | ⟨c15, h⟩
           ·exact loop_nQ [.le e_GEntry a0.Entries, .lT c1, .na hi2, .ix hx3 (eq_GEntry x3), .cl (ok_spec_AddrOk x3.Addr _ hr4), .nt true, .cl (ok_spec_l4map x3.Val _ hr6), .nt true, .cl (ok_spec_l4addrs x3.Deps _ hr8), .nt true, .lF c10, .lF c11, .lT c12, .su v0 1, .na hi13, .ix hx14 (eq_GEntry x14), ⟨.bytes (eL e_u8 x14.Addr), .s x14.Addr, A.bytes⟩, ⟨.bytes (eL e_u8 x3.Addr), .s x3.Addr, A.bytes⟩, ⟨.ltS x14.Addr x3.Addr, .b true, (A.ltS_t c15)⟩, .nt true, .ad v0 1] (by kernel_rfl) (ih (w64 (v0 + 1)) o h)
           ·obtain rfl := Option.some.inj h
            exact loop_eQ [.le e_GEntry a0.Entries, .lT c1, .na hi2, .ix hx3 (eq_GEntry x3), .cl (ok_spec_AddrOk x3.Addr _ hr4), .nt true, .cl (ok_spec_l4map x3.Val _ hr6), .nt true, .cl (ok_spec_l4addrs x3.Deps _ hr8), .nt true, .lF c10, .lF c11, .lT c12, .su v0 1, .na hi13, .ix hx14 (eq_GEntry x14), ⟨.bytes (eL e_u8 x14.Addr), .s x14.Addr, A.bytes⟩, ⟨.bytes (eL e_u8 x3.Addr), .s x3.Addr, A.bytes⟩, ⟨.ltS x14.Addr x3.Addr, .b false, (A.ltS_f c15)⟩, .nt false] (by kernel_rfl) (by intro h; cases h)
          ·exact loop_nQ [.le e_GEntry a0.Entries, .lT c1, .na hi2, .ix hx3 (eq_GEntry x3), .cl (ok_spec_AddrOk x3.Addr _ hr4), .nt true, .cl (ok_spec_l4map x3.Val _ hr6), .nt true, .cl (ok_spec_l4addrs x3.Deps _ hr8), .nt true, .lF c10, .lF c11, .lF c12, .ad v0 1] (by kernel_rfl) (ih (w64 (v0 + 1)) o h)
       | false =>
        try dsimp only at h
        obtain rfl := Option.some.inj h
        exact loop_eQ [.le e_GEntry a0.Entries, .lT c1, .na hi2, .ix hx3 (eq_GEntry x3), .cl (ok_spec_AddrOk x3.Addr _ hr4), .nt true, .cl (ok_spec_l4map x3.Val _ hr6), .nt true, .cl (ok_spec_l4addrs x3.Deps _ hr8), .nt false] (by kernel_rfl) (by intro h; cases h)
      | false =>
       try dsimp only at h
       obtain rfl := Option.some.inj h
       exact loop_eQ [.le e_GEntry a0.Entries, .lT c1, .na hi2, .ix hx3 (eq_GEntry x3), .cl (ok_spec_AddrOk x3.Addr _ hr4), .nt true, .cl (ok_spec_l4map x3.Val _ hr6), .nt false] (by kernel_rfl) (by intro h; cases h)
     | false =>
      try dsimp only at h
      obtain rfl := Option.some.inj h
      exact loop_eQ [.le e_GEntry a0.Entries, .lT c1, .na hi2, .ix hx3 (eq_GEntry x3), .cl (ok_spec_AddrOk x3.Addr _ hr4), .nt false] (by kernel_rfl) (by intro h; cases h)
    ·obtain rfl := Option.some.inj h
     exact loop_eQ [.le e_GEntry a0.Entries, .lF c1] (by kernel_rfl) (by intro h; cases h)
def T_spec_StateOk (n : Nat) (a0 : GState) : Option Bool :=
  if a0.Serial < 0 then
    some false
  else
    if 1000000 < a0.Serial then
      some false
    else
      if 16 < ((a0.Entries.length : Nat) : Int) then
        some false
      else
        if 0 < ((a0.Pending.length : Nat) : Int) then
          match a0.Open with
          | true =>
            (S_spec_AddrOk a0.Pending).bind fun r6 =>
            match r6 with
            | true =>
              if a0.Act < 1 then
                some false
              else
                if 4 < a0.Act then
                  some false
                else
                  (S_spec_l4find (GState.mk a0.Serial true a0.Pending a0.Act a0.Entries) a0.Pending).bind fun r10 =>
                  if a0.Act = 1 then
                    if 0 <= r10 then
                      some false
                    else
                      (L_spec_StateOk_l0 a0 n 0).bind fun o13 =>
                      match o13 with
                      | .inl o13_0 =>
                        some o13_0
                      | .inr (o13_1) =>
                        some true
                  else
                    if 0 <= r10 then
                      (L_spec_StateOk_l0 a0 n 0).bind fun o13 =>
                      match o13 with
                      | .inl o13_0 =>
                        some o13_0
                      | .inr (o13_1) =>
                        some true
                    else
                      some false
            | false =>
              some false
          | false =>
            some false
        else
          if a0.Act = 0 then
            (L_spec_StateOk_l0 a0 n 0).bind fun o6 =>
            match o6 with
            | .inl o6_0 =>
              some o6_0
            | .inr (o6_1) =>
              some true
          else
            some false
set_option maxRecDepth 100000 in
theorem fd_14 : cfg.funcs 14 = some (bodyOf Tryz.f14, Tryz.f14.ntmps, Tryz.f14.results.toList) := fn_of Tryz.func14 (by kernel_rfl) (by kernel_rfl)
theorem g_spec_StateOk (n : Nat) (a0 : GState) (r : Bool) (h : T_spec_StateOk n a0 = some r) : (mach cfg).call 14 [] [.val true [.int .i64 a0.Serial, .bool a0.Open, .seq (eL e_u8 a0.Pending), .int .i64 a0.Act, .seq (eL e_GEntry a0.Entries)]] = some (.val false [.bool r], []) := by
  unfold T_spec_StateOk at h
  rcases ite_some h with ⟨c1, h⟩ | ⟨c1, h⟩
  ·obtain rfl := Option.some.inj h
   exact call_wQ [.lT c1] rfl fd_14 (by kernel_rfl)
  ·rcases ite_some h with ⟨c2, h⟩ | ⟨c2, h⟩
   ·obtain rfl := Option.some.inj h
    exact call_wQ [.lF c1, .lT c2] rfl fd_14 (by kernel_rfl)
   ·rcases ite_some h with ⟨c3, h⟩ | ⟨c3, h⟩
    ·obtain rfl := Option.some.inj h
     exact call_wQ [.lF c1, .lF c2, .le e_GEntry a0.Entries, .lT c3] rfl fd_14 (by kernel_rfl)
    ·rcases ite_some h with ⟨c4, h⟩ | ⟨c4, h⟩
     ·cases c5 : a0.Open with
      | true =>
       rw [c5] at h
       try dsimp only at h
       obtain ⟨r6, hr6, h⟩ := bs h
       cases r6 with
       | true =>
        try dsimp only at h
        rcases ite_some h with ⟨c8, h⟩ | ⟨c8, h⟩
        ·obtain rfl := Option.some.inj h
         exact call_wQ [.lF c1, .lF c2, .le e_GEntry a0.Entries, .lF c3, .le e_u8 a0.Pending, .lT c4, .nt true, .cl (ok_spec_AddrOk a0.Pending _ hr6), .nt true, .lT c8] rfl fd_14 (by kernel_rfl)
        ·rcases ite_some h with ⟨c9, h⟩ | ⟨c9, h⟩
         ·obtain rfl := Option.some.inj h
          exact call_wQ [.lF c1, .lF c2, .le e_GEntry a0.Entries, .lF c3, .le e_u8 a0.Pending, .lT c4, .nt true, .cl (ok_spec_AddrOk a0.Pending _ hr6), .nt true, .lF c8, .lT c9] rfl fd_14 (by kernel_rfl)
         ·obtain ⟨r10, hr10, h⟩ := bs h
          rcases ite_some h with ⟨c11, h⟩ | ⟨c11, h⟩
          ·rcases ite_some h with ⟨c12, h⟩ | ⟨c12, h⟩
           ·obtain rfl := Option.some.inj h
            exact call_wQ [.lF c1, .lF c2, .le e_GEntry a0.Entries, .lF c3, .le e_u8 a0.Pending, .lT c4, .nt true, .cl (ok_spec_AddrOk a0.Pending _ hr6), .nt true, .lF c8, .lF c9, .nt true, .eT c11, .cl (ok_spec_l4find (GState.mk a0.Serial true a0.Pending a0.Act a0.Entries) a0.Pending _ hr10), .gT c12, ⟨.eqB true true, .b true, rfl⟩] rfl fd_14 (by kernel_rfl)
           ·obtain ⟨o13, ho13, h⟩ := bs h
            rcases o13 with o13_0 | o13_1
            · try dsimp only at h
              obtain rfl := Option.some.inj h
              exact call_wQ [.lF c1, .lF c2, .le e_GEntry a0.Entries, .lF c3, .le e_u8 a0.Pending, .lT c4, .nt true, .cl (ok_spec_AddrOk a0.Pending _ hr6), .nt true, .lF c8, .lF c9, .nt true, .eT c11, .cl (ok_spec_l4find (GState.mk a0.Serial true a0.Pending a0.Act a0.Entries) a0.Pending _ hr10), .gF c12, ⟨.eqB true false, .b false, rfl⟩, ⟨.loop 14 (loopB Tryz.f14 0) ⟨[(1, .val false [.ptr 0 0]), (4, .val false [.int .i64 0])], [.var [.int .i64 a0.Serial, .bool true, .seq (eL e_u8 a0.Pending), .int .i64 a0.Act, .seq (eL e_GEntry a0.Entries)]], 0⟩, .x (.ret) ⟨[(2, .val false [.bool o13_0])], [], 0⟩, (A.loop (by have q := gl_spec_StateOk_l0 a0 _ 0 _ ho13; rw [c5] at q; exact q))⟩] rfl fd_14 (by kernel_rfl)
            · try dsimp only at h
              obtain rfl := Option.some.inj h
              exact call_wQ [.lF c1, .lF c2, .le e_GEntry a0.Entries, .lF c3, .le e_u8 a0.Pending, .lT c4, .nt true, .cl (ok_spec_AddrOk a0.Pending _ hr6), .nt true, .lF c8, .lF c9, .nt true, .eT c11, .cl (ok_spec_l4find (GState.mk a0.Serial true a0.Pending a0.Act a0.Entries) a0.Pending _ hr10), .gF c12, ⟨.eqB true false, .b false, rfl⟩, ⟨.loop 14 (loopB Tryz.f14 0) ⟨[(1, .val false [.ptr 0 0]), (4, .val false [.int .i64 0])], [.var [.int .i64 a0.Serial, .bool true, .seq (eL e_u8 a0.Pending), .int .i64 a0.Act, .seq (eL e_GEntry a0.Entries)]], 0⟩, .x (.exit 0) ⟨[(1, .val false [.ptr 0 0]), (4, .val false [.int .i64 o13_1]), (71, .val false [.bool false])], [.var [.int .i64 a0.Serial, .bool true, .seq (eL e_u8 a0.Pending), .int .i64 a0.Act, .seq (eL e_GEntry a0.Entries)]], 0⟩, (A.loop (by have q := gl_spec_StateOk_l0 a0 _ 0 _ ho13; rw [c5] at q; exact q))⟩] rfl fd_14 (by kernel_rfl)
          ·rcases ite_some h with ⟨c12, h⟩ | ⟨c12, h⟩
           ·obtain ⟨o13, ho13, h⟩ := bs h
            rcases o13 with o13_0 | o13_1
            · try dsimp only at h
              obtain rfl := Option.some.inj h
              exact call_wQ [.lF c1, .lF c2, .le e_GEntry a0.Entries, .lF c3, .le e_u8 a0.Pending, .lT c4, .nt true, .cl (ok_spec_AddrOk a0.Pending _ hr6), .nt true, .lF c8, .lF c9, .nt true, .eF c11, .cl (ok_spec_l4find (GState.mk a0.Serial true a0.Pending a0.Act a0.Entries) a0.Pending _ hr10), .gT c12, ⟨.eqB false true, .b false, rfl⟩, ⟨.loop 14 (loopB Tryz.f14 0) ⟨[(1, .val false [.ptr 0 0]), (4, .val false [.int .i64 0])], [.var [.int .i64 a0.Serial, .bool true, .seq (eL e_u8 a0.Pending), .int .i64 a0.Act, .seq (eL e_GEntry a0.Entries)]], 0⟩, .x (.ret) ⟨[(2, .val false [.bool o13_0])], [], 0⟩, (A.loop (by have q := gl_spec_StateOk_l0 a0 _ 0 _ ho13; rw [c5] at q; exact q))⟩] rfl fd_14 (by kernel_rfl)
            · try dsimp only at h
              obtain rfl := Option.some.inj h
              exact call_wQ [.lF c1, .lF c2, .le e_GEntry a0.Entries, .lF c3, .le e_u8 a0.Pending, .lT c4, .nt true, .cl (ok_spec_AddrOk a0.Pending _ hr6), .nt true, .lF c8, .lF c9, .nt true, .eF c11, .cl (ok_spec_l4find (GState.mk a0.Serial true a0.Pending a0.Act a0.Entries) a0.Pending _ hr10), .gT c12, ⟨.eqB false true, .b false, rfl⟩, ⟨.loop 14 (loopB Tryz.f14 0) ⟨[(1, .val false [.ptr 0 0]), (4, .val false [.int .i64 0])], [.var [.int .i64 a0.Serial, .bool true, .seq (eL e_u8 a0.Pending), .int .i64 a0.Act, .seq (eL e_GEntry a0.Entries)]], 0⟩, .x (.exit 0) ⟨[(1, .val false [.ptr 0 0]), (4, .val false [.int .i64 o13_1]), (71, .val false [.bool false])], [.var [.int .i64 a0.Serial, .bool true, .seq (eL e_u8 a0.Pending), .int .i64 a0.Act, .seq (eL e_GEntry a0.Entries)]], 0⟩, (A.loop (by have q := gl_spec_StateOk_l0 a0 _ 0 _ ho13; rw [c5] at q; exact q))⟩] rfl fd_14 (by kernel_rfl)
           ·obtain rfl := Option.some.inj h
            exact call_wQ [.lF c1, .lF c2, .le e_GEntry a0.Entries, .lF c3, .le e_u8 a0.Pending, .lT c4, .nt true, .cl (ok_spec_AddrOk a0.Pending _ hr6), .nt true, .lF c8, .lF c9, .nt true, .eF c11, .cl (ok_spec_l4find (GState.mk a0.Serial true a0.Pending a0.Act a0.Entries) a0.Pending _ hr10), .gF c12, ⟨.eqB false false, .b true, rfl⟩] rfl fd_14 (by kernel_rfl)
       | false =>
        try dsimp only at h
        obtain rfl := Option.some.inj h
        exact call_wQ [.lF c1, .lF c2, .le e_GEntry a0.Entries, .lF c3, .le e_u8 a0.Pending, .lT c4, .nt true, .cl (ok_spec_AddrOk a0.Pending _ hr6), .nt false] rfl fd_14 (by kernel_rfl)
      | false =>
       rw [c5] at h
       try dsimp only at h
       obtain rfl := Option.some.inj h
       exact call_wQ [.lF c1, .lF c2, .le e_GEntry a0.Entries, .lF c3, .le e_u8 a0.Pending, .lT c4, .nt false] rfl fd_14 (by kernel_rfl)
     ·rcases ite_some h with ⟨c5, h⟩ | ⟨c5, h⟩
      ·obtain ⟨o6, ho6, h⟩ := bs h
       rcases o6 with o6_0 | o6_1
       · try dsimp only at h
         obtain rfl := Option.some.inj h
         exact call_wQ [.lF c1, .lF c2, .le e_GEntry a0.Entries, .lF c3, .le e_u8 a0.Pending, .lF c4, .nt false, .eT c5, .nt true, .lp (gl_spec_StateOk_l0 a0 _ 0 _ ho6)] rfl fd_14 (by kernel_rfl)
       · try dsimp only at h
         obtain rfl := Option.some.inj h
         exact call_wQ [.lF c1, .lF c2, .le e_GEntry a0.Entries, .lF c3, .le e_u8 a0.Pending, .lF c4, .nt false, .eT c5, .nt true, .lp (gl_spec_StateOk_l0 a0 _ 0 _ ho6)] rfl fd_14 (by kernel_rfl)
      ·obtain rfl := Option.some.inj h
       exact call_wQ [.lF c1, .lF c2, .le e_GEntry a0.Entries, .lF c3, .le e_u8 a0.Pending, .lF c4, .nt false, .eF c5, .nt false] rfl fd_14 (by kernel_rfl)
theorem sV_eq {v : GValue} (h : vsz v <= 2 ^ 20) : S_spec_ValOk v = some (valB v) := by
  unfold S_spec_ValOk S_spec_l2ok
  rw [if_pos ⟨h, by decide, by decide, by decide⟩, Option.bind_some]
  congr 1
  unfold okV valB
  rw [show (6 - (1 : Int)).toNat = 5 from rfl]
  by_cases hc : shV 5 v = true ∧ (ptV v : Int) <= 40
  · rw [if_pos hc, decide_eq_true hc]; exact decide_eq_true (by omega)
  · rw [if_neg hc, decide_eq_false hc]; rfl
theorem specKm_eq {v : GValue} (h : vsz v <= 2 ^ 20) : S_spec_l4map v = some (kmapB v) := by
  unfold S_spec_l4map kmapB
  by_cases h5 : v.Kind = 5
  · rw [if_pos h5, sV_eq h, Option.bind_some, decide_eq_true h5, Bool.true_and]
    cases hv : valB v with
    | false => rfl
    | true =>
      simp only [Bool.true_and]
      unfold S_spec_l2known
      rw [if_pos (by omega)]; rfl
  · rw [if_neg h5, decide_eq_false h5]; rfl
theorem specAds_eq {l : List (List UInt8)} (h : bsz l <= 2 ^ 20) : S_spec_l4addrs l = some (addrsB l) := if_pos h
theorem StateOk_loop {s : GState} (hs : eszs s.Entries <= 2 ^ 20) : ∀ (d i m : Nat), i + d = s.Entries.length → d < m → ∃ z, L_spec_StateOk_l0 s m (i : Int) = some (if gAll (entB s.Serial) GEntry.Addr s.Entries i d = true then .inr z else .inl false) := by
  have hlen := eszs_len s.Entries
  intro d
  induction d with
  | zero =>
    intro i m hi hm
    obtain ⟨m, rfl, _⟩ := fuel hm
    exact ⟨_, by rw [L_spec_StateOk_l0, if_neg (by omega)]; rfl⟩
  | succ d ih =>
    intro i m hi hm
    obtain ⟨m, rfl, hm'⟩ := fuel hm
    have hil : i < s.Entries.length := by omega
    have hz0 := eszs_mem (List.getElem_mem hil)
    obtain ⟨z, hz⟩ := ih (i + 1) m (by omega) (by omega)
    rw [L_spec_StateOk_l0, if_pos (by omega), natO_nat, Option.bind_some, get_some hil, Option.bind_some, gAll_succ]
    unfold esz at hz0
    rw [specAd_eq (by omega), Option.bind_some, specKm_eq (by omega), Option.bind_some, specAds_eq (by omega), Option.bind_some, w64_succ (by omega), hz]
    generalize gAll _ GEntry.Addr s.Entries (i + 1) d = g
    have hT : decide (1 <= s.Entries[i].Turned ∧ s.Entries[i].Turned <= s.Serial) = (!(decide (s.Entries[i].Turned < 1)) && !(decide (s.Serial < s.Entries[i].Turned))) := by
      by_cases a : s.Entries[i].Turned < 1 <;> by_cases b : s.Serial < s.Entries[i].Turned <;> simp [a, b] <;> omega
    refine ⟨z, ?_⟩
    by_cases h0 : 0 < i
    · rw [gOk_eq hil h0]
      unfold entB
      rw [hT]
      rw [if_pos (show (0 : Int) < ((i : Nat) : Int) by omega), w64_pred (by omega) h0, natO_nat, Option.bind_some, get_some (show i - 1 < s.Entries.length by omega), Option.bind_some]
      generalize Op.bytesLess s.Entries[i - 1].Addr s.Entries[i].Addr = b
      by_cases a1 : s.Entries[i].Turned < 1 <;> by_cases a2 : s.Serial < s.Entries[i].Turned <;> cases b <;> cases addrB s.Entries[i].Addr <;> cases kmapB s.Entries[i].Val <;> cases addrsB s.Entries[i].Deps <;> simp [a1, a2]
    · obtain rfl : i = 0 := by omega
      rw [gOk_zero hil]
      unfold entB
      rw [hT]
      rw [if_neg (show ¬ (0 : Int) < ((0 : Nat) : Int) by omega)]
      by_cases a1 : s.Entries[0].Turned < 1 <;> by_cases a2 : s.Serial < s.Entries[0].Turned <;> cases addrB s.Entries[0].Addr <;> cases kmapB s.Entries[0].Val <;> cases addrsB s.Entries[0].Deps <;> simp [a1, a2]
def S_spec_StateOk (a0 : GState) : Option Bool := if ssz a0 <= 2 ^ 20 then some (stB a0) else none
theorem specSt_eq {s : GState} (h : ssz s <= 2 ^ 20) : S_spec_StateOk s = some (stB s) := if_pos h
theorem StateOk_val {s : GState} (h : ssz s <= 2 ^ 20) : T_spec_StateOk (s.Entries.length + 1) s = some (stB s) := by
  have hlen := eszs_len s.Entries
  unfold ssz at h
  obtain ⟨z, hz⟩ := StateOk_loop (s := s) (by omega) s.Entries.length 0 (s.Entries.length + 1) (by omega) (by omega)
  rw [show ((0 : Nat) : Int) = 0 from rfl] at hz
  have hf : ((L_spec_StateOk_l0 s (s.Entries.length + 1) 0).bind fun o4 => match o4 with | .inl o => some o | .inr _ => some true) = some (entsB s) := by
    rw [hz, show entsB s = gAll (entB s.Serial) GEntry.Addr s.Entries 0 s.Entries.length from rfl]
    cases gAll (entB s.Serial) GEntry.Addr s.Entries 0 s.Entries.length <;> rfl
  unfold T_spec_StateOk
  unfold stB
  by_cases h1 : s.Serial < 0
  · rw [if_pos h1, decide_eq_false (p := 0 <= s.Serial ∧ s.Serial <= 1000000 ∧ s.Entries.length <= 16) (by omega)]; rfl
  rw [if_neg h1]
  by_cases h2 : 1000000 < s.Serial
  · rw [if_pos h2, decide_eq_false (p := 0 <= s.Serial ∧ s.Serial <= 1000000 ∧ s.Entries.length <= 16) (by omega)]; rfl
  rw [if_neg h2]
  by_cases h3 : (16 : Int) < ((s.Entries.length : Nat) : Int)
  · rw [if_pos h3, decide_eq_false (p := 0 <= s.Serial ∧ s.Serial <= 1000000 ∧ s.Entries.length <= 16) (by omega)]; rfl
  rw [if_neg h3, decide_eq_true (p := 0 <= s.Serial ∧ s.Serial <= 1000000 ∧ s.Entries.length <= 16) (by omega), Bool.true_and]
  unfold pendB
  by_cases hp : s.Pending = []
  · rw [if_neg (by rw [hp]; simp), if_pos hp]
    by_cases ha : s.Act = 0
    · rw [if_pos ha, decide_eq_true ha, Bool.and_true]
      exact hf
    · rw [if_neg ha, decide_eq_false ha, Bool.and_false]
  · have hp0 : (0 : Int) < ((s.Pending.length : Nat) : Int) := by
      have : s.Pending.length ≠ 0 := fun e => hp (List.eq_nil_of_length_eq_zero e)
      omega
    rw [if_pos hp0, if_neg hp]
    cases ho : s.Open with
    | false => simp
    | true =>
      dsimp only
      rw [specAd_eq (by omega), Option.bind_some]
      cases addrB s.Pending with
      | false => simp
      | true =>
        dsimp only
        by_cases a1 : s.Act < 1
        · rw [if_pos a1, decide_eq_false (p := 1 <= s.Act ∧ s.Act <= 4) (by omega)]; simp
        rw [if_neg a1]
        by_cases a2 : 4 < s.Act
        · rw [if_pos a2, decide_eq_false (p := 1 <= s.Act ∧ s.Act <= 4) (by omega)]; simp
        rw [if_neg a2, decide_eq_true (p := 1 <= s.Act ∧ s.Act <= 4) (by omega)]
        unfold S_spec_l4find
        rw [show (GState.mk s.Serial true s.Pending s.Act s.Entries).Entries = s.Entries from rfl, if_pos (by omega), Option.bind_some]
        have hh := findA_has s.Entries s.Pending 0
        by_cases hA : s.Act = 1
        · rw [if_pos hA, decide_eq_false (p := s.Act ≠ 1) (by omega)]
          cases hb : hasB s.Entries s.Pending with
          | true => rw [if_pos (hh.2 hb)]; simp
          | false => rw [if_neg (fun h => by rw [hh.1 h] at hb; cases hb)]; refine Eq.trans hf ?_; simp
        · rw [if_neg hA, decide_eq_true (p := s.Act ≠ 1) hA]
          cases hb : hasB s.Entries s.Pending with
          | true => rw [if_pos (hh.2 hb)]; refine Eq.trans hf ?_; simp
          | false => rw [if_neg (fun h => by rw [hh.1 h] at hb; cases hb)]; simp
theorem spec_spec_StateOk (a0 : GState) (r : Bool) (h : S_spec_StateOk a0 = some r) : ∃ n, T_spec_StateOk n a0 = some r := by
  unfold S_spec_StateOk at h
  obtain ⟨ha, h⟩ := need_c h
  exact ⟨_, by rw [<- h]; exact StateOk_val ha⟩
theorem ok_spec_StateOk (a0 : GState) (r : Bool) (h : S_spec_StateOk a0 = some r) : (mach cfg).call 14 [] [.val true [.int .i64 a0.Serial, .bool a0.Open, .seq (eL e_u8 a0.Pending), .int .i64 a0.Act, .seq (eL e_GEntry a0.Entries)]] = some (.val false [.bool r], []) := by
  obtain ⟨n, hn⟩ := spec_spec_StateOk a0 r h
  exact g_spec_StateOk n a0 r hn
def L_spec_Tainted_l0 (a0 : GState) : Nat → Int → (List (List UInt8)) → Option (Int × (List (List UInt8)))
  | 0, _, _ => none
  | m + 1, v0, v2 =>
    if v0 < ((a0.Entries.length : Nat) : Int) then
      (natO v0).bind fun i2 =>
      (a0.Entries[i2]?).bind fun x3 =>
      match x3.Taint with
      | true =>
        if roomP 1 (0 + x3.Addr.length) then
        if roomP 24 (v2.length + [x3.Addr].length) then
        L_spec_Tainted_l0 a0 m (w64 (v0 + 1)) (v2 ++ [x3.Addr])
        else none
        else none
      | false =>
        L_spec_Tainted_l0 a0 m (w64 (v0 + 1)) v2
    else
      some (v0, v2)
theorem gl_spec_Tainted_l0 (a0 : GState) (m : Nat) : ∀ (v0 : Int) (v2 : (List (List UInt8))) (o : (Int × (List (List UInt8)))), L_spec_Tainted_l0 a0 m v0 v2 = some o → (mach cfg).loop 18 (loopB Tryz.f18 0) ⟨[(1, .val false [.ptr 0 0]), (3, .val false [.ref 1]), (4, .val false [.int .i64 v0])], [.var [.int .i64 a0.Serial, .bool a0.Open, .seq (eL e_u8 a0.Pending), .int .i64 a0.Act, .seq (eL e_GEntry a0.Entries)], .obj 1 (eL (o_sl 1 e_u8) v2)], 0⟩ = some (match o with | ⟨o_0, o_1⟩ => (.exit 0, (⟨[(1, .val false [.ptr 0 0]), (3, .val false [.ref 1]), (4, .val false [.int .i64 o_0]), (12, .val false [.bool false])], [.var [.int .i64 a0.Serial, .bool a0.Open, .seq (eL e_u8 a0.Pending), .int .i64 a0.Act, .seq (eL e_GEntry a0.Entries)], .obj 1 (eL (o_sl 1 e_u8) o_1)], 0⟩ : S))) := by
  induction m with
  | zero => intro v0 v2 o h; cases h
  | succ m ih =>
    intro v0 v2 o h
    rw [L_spec_Tainted_l0] at h
    rcases ite_some h with ⟨c1, h⟩ | ⟨c1, h⟩
    ·obtain ⟨i2, hi2, h⟩ := bs h
     obtain ⟨x3, hx3, h⟩ := bs h
     cases c4 : x3.Taint with
     | true =>
      rw [c4] at h
      try dsimp only at h
      obtain ⟨n5, h⟩ := need_some h
      obtain ⟨n6, h⟩ := need_some h
      exact loop_nQ [.le e_GEntry a0.Entries, .lT c1, .na hi2, ⟨.idx (eL e_GEntry a0.Entries) i2, .e [.seq (eL e_u8 x3.Addr), .int .i64 x3.Val.Kind, .int .i64 x3.Val.N, .seq (eL e_u8 x3.Val.S), .seq (eL (e_sl e_u8) x3.Val.K), .seq (eL e_GValue x3.Val.L), .seq (eL (e_sl e_u8) x3.Deps), .bool true, .int .i64 x3.Turned], (A.idx hx3 ((eq_GEntry x3).trans (by rw [c4])))⟩, .na hi2, ⟨.idx (eL e_GEntry a0.Entries) i2, .e [.seq (eL e_u8 x3.Addr), .int .i64 x3.Val.Kind, .int .i64 x3.Val.N, .seq (eL e_u8 x3.Val.S), .seq (eL (e_sl e_u8) x3.Val.K), .seq (eL e_GValue x3.Val.L), .seq (eL (e_sl e_u8) x3.Deps), .bool true, .int .i64 x3.Turned], (A.idx hx3 ((eq_GEntry x3).trans (by rw [c4])))⟩, ⟨.room 1 (eL e_u8 []) (eL e_u8 x3.Addr), .b true, (A.room n5)⟩, ⟨.uni 1 (eL e_u8 x3.Addr), .b true, (A.uni E_u8)⟩, ⟨.app (eL e_u8 []) (eL e_u8 x3.Addr), .l (eL e_u8 x3.Addr), A.app0⟩, ⟨.room 24 (eL (o_sl 1 e_u8) v2) (eL (o_sl 1 e_u8) [x3.Addr]), .b true, (A.room n6)⟩, ⟨.uni 1 (eL (o_sl 1 e_u8) [x3.Addr]), .b true, (A.uniO (O_sl 1 O_u8))⟩, ⟨.app (eL (o_sl 1 e_u8) v2) (eL (o_sl 1 e_u8) [x3.Addr]), .l (eL (o_sl 1 e_u8) (v2 ++ [x3.Addr])), A.app⟩, .ad v0 1] (by kernel_rfl) (ih (w64 (v0 + 1)) (v2 ++ [x3.Addr]) o h)
     | false =>
      rw [c4] at h
      try dsimp only at h
      exact loop_nQ [.le e_GEntry a0.Entries, .lT c1, .na hi2, ⟨.idx (eL e_GEntry a0.Entries) i2, .e [.seq (eL e_u8 x3.Addr), .int .i64 x3.Val.Kind, .int .i64 x3.Val.N, .seq (eL e_u8 x3.Val.S), .seq (eL (e_sl e_u8) x3.Val.K), .seq (eL e_GValue x3.Val.L), .seq (eL (e_sl e_u8) x3.Deps), .bool false, .int .i64 x3.Turned], (A.idx hx3 ((eq_GEntry x3).trans (by rw [c4])))⟩, .ad v0 1] (by kernel_rfl) (ih (w64 (v0 + 1)) v2 o h)
    ·obtain rfl := Option.some.inj h
     exact loop_eQ [.le e_GEntry a0.Entries, .lF c1] (by kernel_rfl) (by intro h; cases h)
def T_spec_Tainted (n : Nat) (a0 : GState) : Option (List (List UInt8)) :=
  (S_spec_StateOk a0).bind fun r1 =>
  match r1 with
  | true =>
    (L_spec_Tainted_l0 a0 n 0 []).bind fun ⟨o3_0, o3_1⟩ =>
    some o3_1
  | false =>
    some []
set_option maxRecDepth 100000 in
theorem fd_18 : cfg.funcs 18 = some (bodyOf Tryz.f18, Tryz.f18.ntmps, Tryz.f18.results.toList) := fn_of Tryz.func18 (by kernel_rfl) (by kernel_rfl)
theorem g_spec_Tainted (n : Nat) (a0 : GState) (r : (List (List UInt8))) (h : T_spec_Tainted n a0 = some r) : (mach cfg).call 18 [] [.val true [.int .i64 a0.Serial, .bool a0.Open, .seq (eL e_u8 a0.Pending), .int .i64 a0.Act, .seq (eL e_GEntry a0.Entries)]] = some (.val false [.own 1 (eL (o_sl 1 e_u8) r)], []) := by
  unfold T_spec_Tainted at h
  obtain ⟨r1, hr1, h⟩ := bs h
  cases r1 with
  | true =>
   try dsimp only at h
   obtain ⟨⟨o3_0, o3_1⟩, ho3, h⟩ := bs h
   try dsimp only at h
   obtain rfl := Option.some.inj h
   exact call_wQ [.cl (ok_spec_StateOk a0 _ hr1), .nt true, .lp (gl_spec_Tainted_l0 a0 _ 0 [] _ ho3)] rfl fd_18 (by kernel_rfl)
  | false =>
   try dsimp only at h
   obtain rfl := Option.some.inj h
   exact call_wQ [.cl (ok_spec_StateOk a0 _ hr1), .nt false] rfl fd_18 (by kernel_rfl)
def taintS (l : List GEntry) : List (List UInt8) := (l.filter fun e => e.Taint).map GEntry.Addr
theorem specTaint_loop {s : GState} (hs : eszs s.Entries <= 2 ^ 20) : ∀ (l p : List GEntry) (o : List (List UInt8)) (m : Nat), s.Entries = p ++ l → l.length < m → o.length <= p.length → ∃ z, L_spec_Tainted_l0 s m ((p.length : Nat) : Int) o = some (z, o ++ taintS l) := by
  have hlen0 := eszs_len s.Entries
  intro l
  induction l with
  | nil =>
    intro p o m he hm ho
    obtain ⟨m, rfl, _⟩ := fuel hm
    exact ⟨_, by rw [L_spec_Tainted_l0, if_neg (by rw [he]; exact nlt_end p)]; simp [taintS]; rfl⟩
  | cons x l ih =>
    intro p o m he hm ho
    obtain ⟨m, rfl, hm'⟩ := fuel hm
    have hlen : s.Entries.length = p.length + (l.length + 1) := by rw [he]; simp
    have hx : 1 + esz x <= eszs s.Entries := eszs_mem (by rw [he]; simp)
    unfold esz at hx
    rw [L_spec_Tainted_l0, if_pos (by omega), natO_nat, Option.bind_some, show s.Entries[p.length]? = some x by rw [he]; exact get_mid p x l, Option.bind_some, w64_len p x (by omega)]
    unfold taintS
    rw [List.filter_cons]
    simp only [List.length_cons] at hm'
    cases hm2 : x.Taint with
    | true =>
      dsimp only
      rw [if_pos (room_ok (by decide) (by omega)), if_pos (room_ok (by decide) (by simp only [List.length_cons, List.length_nil]; omega)), if_pos rfl]
      obtain ⟨z, hz⟩ := ih (p ++ [x]) (o ++ [x.Addr]) m (by rw [he]; simp) (by omega) (by simp; omega)
      refine ⟨z, ?_⟩
      rw [hz]
      unfold taintS
      simp
    | false =>
      dsimp only
      rw [if_neg (by simp)]
      obtain ⟨z, hz⟩ := ih (p ++ [x]) o m (by rw [he]; simp) (by omega) (by simp; omega)
      exact ⟨z, hz⟩
def S_spec_Tainted (a0 : GState) : Option (List (List UInt8)) := if ssz a0 <= 2 ^ 20 then some (if stB a0 = true then taintS a0.Entries else []) else none
theorem spec_spec_Tainted (a0 : GState) (r : (List (List UInt8))) (h : S_spec_Tainted a0 = some r) : ∃ n, T_spec_Tainted n a0 = some r := by
  unfold S_spec_Tainted at h
  obtain ⟨ha, h⟩ := need_c h
  refine ⟨a0.Entries.length + 1, ?_⟩
  unfold T_spec_Tainted
  rw [specSt_eq ha, Option.bind_some, <- h]
  unfold ssz at ha
  cases stB a0 with
  | false => rfl
  | true =>
    dsimp only
    obtain ⟨z, hz⟩ := specTaint_loop (s := a0) (by omega) a0.Entries [] [] (a0.Entries.length + 1) rfl (by omega) (by simp)
    simp only [List.length_nil, Int.natCast_zero, List.nil_append] at hz
    rw [hz]; rfl
theorem ok_spec_Tainted (a0 : GState) (r : (List (List UInt8))) (h : S_spec_Tainted a0 = some r) : (mach cfg).call 18 [] [.val true [.int .i64 a0.Serial, .bool a0.Open, .seq (eL e_u8 a0.Pending), .int .i64 a0.Act, .seq (eL e_GEntry a0.Entries)]] = some (.val false [.own 1 (eL (o_sl 1 e_u8) r)], []) := by
  obtain ⟨n, hn⟩ := spec_spec_Tainted a0 r h
  exact g_spec_Tainted n a0 r hn
def S_impl_in (a0 : Int) (a1 : Int) (a2 : Int) : Option Bool :=
  if a1 <= a0 then
    some (decide (a0 <= a2))
  else
    some false
set_option maxRecDepth 100000 in
theorem fd_110 : cfg.funcs 110 = some (bodyOf Tryz.f110, Tryz.f110.ntmps, Tryz.f110.results.toList) := fn_of Tryz.func110 (by kernel_rfl) (by kernel_rfl)
theorem ok_impl_in (a0 : Int) (a1 : Int) (a2 : Int) (r : Bool) (h : S_impl_in a0 a1 a2 = some r) : (mach cfg).call 110 [] [.val false [.int .i64 a0], .val false [.int .i64 a1], .val false [.int .i64 a2]] = some (.val false [.bool r], []) := by
  unfold S_impl_in at h
  rcases ite_some h with ⟨c1, h⟩ | ⟨c1, h⟩
  ·obtain rfl := Option.some.inj h
   exact call_wQ [.gT c1, .gD a0 a2] rfl fd_110 (by kernel_rfl)
  ·obtain rfl := Option.some.inj h
   exact call_wQ [.gF c1] rfl fd_110 (by kernel_rfl)
def S_bytes_IndexByte (a0 : (List UInt8)) (a1 : UInt8) : Option Int :=
  (S_internal_bytealg_IndexByte a0 a1).bind fun r1 =>
  some r1
set_option maxRecDepth 100000 in
theorem fd_186 : cfg.funcs 186 = some (bodyOf Tryz.f186, Tryz.f186.ntmps, Tryz.f186.results.toList) := fn_of Tryz.func186 (by kernel_rfl) (by kernel_rfl)
theorem ok_bytes_IndexByte (a0 : (List UInt8)) (a1 : UInt8) (r : Int) (h : S_bytes_IndexByte a0 a1 = some r) : (mach cfg).call 186 [] [.val false [.seq (eL e_u8 a0)], .val false [.int .u8 ((a1.toNat : Nat) : Int)]] = some (.val false [.int .i64 r], []) := by
  unfold S_bytes_IndexByte at h
  obtain ⟨r1, hr1, h⟩ := bs h
  obtain rfl := Option.some.inj h
  exact call_wQ [.cl (ok_internal_bytealg_IndexByte a0 a1 _ hr1)] rfl fd_186 (by kernel_rfl)
def S_bytes_Equal (a0 : (List UInt8)) (a1 : (List UInt8)) : Option Bool :=
  some (decide (a0 = a1))
set_option maxRecDepth 100000 in
theorem fd_72 : cfg.funcs 72 = some (bodyOf Tryz.f72, Tryz.f72.ntmps, Tryz.f72.results.toList) := fn_of Tryz.func72 (by kernel_rfl) (by kernel_rfl)
theorem ok_bytes_Equal (a0 : (List UInt8)) (a1 : (List UInt8)) (r : Bool) (h : S_bytes_Equal a0 a1 = some r) : (mach cfg).call 72 [] [.val false [.seq (eL e_u8 a0)], .val false [.seq (eL e_u8 a1)]] = some (.val false [.bool r], []) := by
  unfold S_bytes_Equal at h
  obtain rfl := Option.some.inj h
  exact call_wQ [⟨.bytes (eL e_u8 a0), .s a0, A.bytes⟩, ⟨.bytes (eL e_u8 a1), .s a1, A.bytes⟩, ⟨.eqS a0 a1, .b (decide (a0 = a1)), A.eqS_d⟩] rfl fd_72 (by kernel_rfl)
def S_bytes_Index (a0 : (List UInt8)) (a1 : (List UInt8)) : Option Int :=
  if ((a1.length : Nat) : Int) = 0 then
    some 0
  else
    if ((a1.length : Nat) : Int) = 1 then
      (a1[0]?).bind fun x3 =>
      (S_bytes_IndexByte a0 x3).bind fun r4 =>
      some r4
    else
      if ((a1.length : Nat) : Int) = ((a0.length : Nat) : Int) then
        (S_bytes_Equal a1 a0).bind fun r4 =>
        match r4 with
        | true =>
          some 0
        | false =>
          some (-1)
      else
        if ((a0.length : Nat) : Int) < ((a1.length : Nat) : Int) then
          some (-1)
        else
          none
set_option maxRecDepth 100000 in
theorem fd_171 : cfg.funcs 171 = some (bodyOf Tryz.f171, Tryz.f171.ntmps, Tryz.f171.results.toList) := fn_of Tryz.func171 (by kernel_rfl) (by kernel_rfl)
theorem ok_bytes_Index (a0 : (List UInt8)) (a1 : (List UInt8)) (r : Int) (h : S_bytes_Index a0 a1 = some r) : (mach cfg).call 171 [] [.val false [.seq (eL e_u8 a0)], .val false [.seq (eL e_u8 a1)]] = some (.val false [.int .i64 r], []) := by
  unfold S_bytes_Index at h
  rcases ite_some h with ⟨c1, h⟩ | ⟨c1, h⟩
  ·obtain rfl := Option.some.inj h
   exact call_wQ [.le e_u8 a1, .eT c1] rfl fd_171 (by kernel_rfl)
  ·rcases ite_some h with ⟨c2, h⟩ | ⟨c2, h⟩
   ·obtain ⟨x3, hx3, h⟩ := bs h
    obtain ⟨r4, hr4, h⟩ := bs h
    obtain rfl := Option.some.inj h
    exact call_wQ [.le e_u8 a1, .eF c1, .eT c2, ⟨.nat 0, .n 0, rfl⟩, .ix0 e_u8 hx3, .cl (ok_bytes_IndexByte a0 x3 _ hr4)] rfl fd_171 (by kernel_rfl)
   ·rcases ite_some h with ⟨c3, h⟩ | ⟨c3, h⟩
    ·obtain ⟨r4, hr4, h⟩ := bs h
     cases r4 with
     | true =>
      try dsimp only at h
      obtain rfl := Option.some.inj h
      exact call_wQ [.le e_u8 a1, .eF c1, .eF c2, .le e_u8 a0, .eT c3, .cl (ok_bytes_Equal a1 a0 _ hr4)] rfl fd_171 (by kernel_rfl)
     | false =>
      try dsimp only at h
      obtain rfl := Option.some.inj h
      exact call_wQ [.le e_u8 a1, .eF c1, .eF c2, .le e_u8 a0, .eT c3, .cl (ok_bytes_Equal a1 a0 _ hr4)] rfl fd_171 (by kernel_rfl)
    ·rcases ite_some h with ⟨c4, h⟩ | ⟨c4, h⟩
     ·obtain rfl := Option.some.inj h
      exact call_wQ [.le e_u8 a1, .eF c1, .eF c2, .le e_u8 a0, .eF c3, .le e_u8 a0, .lT c4] rfl fd_171 (by kernel_rfl)
     ·cases h
def S_bytes_Cut (a0 : (List UInt8)) (a1 : (List UInt8)) : Option ((List UInt8) × (List UInt8) × Bool) :=
  (S_bytes_Index a0 a1).bind fun r1 =>
  if 0 <= r1 then
    (natO r1).bind fun i3 =>
    (cutO a0 none (some i3)).bind fun s4 =>
    (natO (w64 (r1 + ((a1.length : Nat) : Int)))).bind fun i5 =>
    (cutO a0 (some i5) none).bind fun s6 =>
    some (s4, s6, true)
  else
    some (a0, [], false)
set_option maxRecDepth 100000 in
theorem fd_148 : cfg.funcs 148 = some (bodyOf Tryz.f148, Tryz.f148.ntmps, Tryz.f148.results.toList) := fn_of Tryz.func148 (by kernel_rfl) (by kernel_rfl)
theorem ok_bytes_Cut (a0 : (List UInt8)) (a1 : (List UInt8)) (r : ((List UInt8) × (List UInt8) × Bool)) (h : S_bytes_Cut a0 a1 = some r) : (mach cfg).call 148 [] [.val false [.seq (eL e_u8 a0)], .val false [.seq (eL e_u8 a1)]] = some (.tup [(false, [.seq (eL e_u8 r.1)]), (false, [.seq (eL e_u8 r.2.1)]), (false, [.bool r.2.2])], []) := by
  unfold S_bytes_Cut at h
  obtain ⟨r1, hr1, h⟩ := bs h
  rcases ite_some h with ⟨c2, h⟩ | ⟨c2, h⟩
  ·obtain ⟨i3, hi3, h⟩ := bs h
   obtain ⟨s4, hs4, h⟩ := bs h
   obtain ⟨i5, hi5, h⟩ := bs h
   obtain ⟨s6, hs6, h⟩ := bs h
   obtain rfl := Option.some.inj h
   exact call_wQ [.cl (ok_bytes_Index a0 a1 _ hr1), .gT c2, .na hi3, ⟨.cut (eL e_u8 a0) none (some i3), .l (eL e_u8 s4), (A.cut hs4)⟩, ⟨.uni 1 (eL e_u8 a0), .b true, (A.uni E_u8)⟩, .le e_u8 a1, .ad r1 ((a1.length : Nat) : Int), .na hi5, ⟨.cut (eL e_u8 a0) (some i5) none, .l (eL e_u8 s6), (A.cut hs6)⟩, ⟨.uni 1 (eL e_u8 a0), .b true, (A.uni E_u8)⟩] rfl fd_148 (by kernel_rfl)
  ·obtain rfl := Option.some.inj h
   exact (call_wQ (r := (.tup [(false, [.seq (eL e_u8 a0)]), (false, [.seq (viewL (eL e_u8 []))]), (false, [.bool false])], [])) [.cl (ok_bytes_Index a0 a1 _ hr1), .gF c2] rfl fd_148 (by kernel_rfl)).trans (by simp only [viewL_eL E_u8] <;> rfl)
def L_impl_isName_l0 (a0 : (List UInt8)) (v1 : Int) : Nat → Int → Option (Bool ⊕ Int)
  | 0, _ => none
  | m + 1, v2 =>
    if v2 < v1 then
      (natO v2).bind fun i2 =>
      (a0[i2]?).bind fun x3 =>
      if ((x3.toNat : Nat) : Int) < 97 then
        some (.inl false)
      else
        if 122 < ((x3.toNat : Nat) : Int) then
          some (.inl false)
        else
          L_impl_isName_l0 a0 v1 m (w64 (v2 + 1))
    else
      some (.inr v2)
theorem gl_impl_isName_l0 (a0 : (List UInt8)) (v1 : Int) (m : Nat) : ∀ (v2 : Int) (o : (Bool ⊕ Int)), L_impl_isName_l0 a0 v1 m v2 = some o → (mach cfg).loop 149 (loopB Tryz.f149 0) ⟨[(0, .val false [.seq (eL e_u8 a0)]), (5, .val false [.seq (eL e_u8 a0)]), (6, .val false [.int .i64 v1]), (7, .val false [.int .i64 v2])], [], 0⟩ = some (match o with | .inl o_0 => (.ret, (⟨[(2, .val false [.bool o_0])], [], 0⟩ : S)) | .inr (o_1) => (.exit 0, (⟨[(0, .val false [.seq (eL e_u8 a0)]), (5, .val false [.seq (eL e_u8 a0)]), (6, .val false [.int .i64 v1]), (7, .val false [.int .i64 o_1]), (8, .val false [.bool false])], [], 0⟩ : S))) := by
  induction m with
  | zero => intro v2 o h; cases h
  | succ m ih =>
    intro v2 o h
    rw [L_impl_isName_l0] at h
    rcases ite_some h with ⟨c1, h⟩ | ⟨c1, h⟩
    ·obtain ⟨i2, hi2, h⟩ := bs h
     obtain ⟨x3, hx3, h⟩ := bs h
     rcases ite_some h with ⟨c4, h⟩ | ⟨c4, h⟩
     ·obtain rfl := Option.some.inj h
      exact loop_eQ [.lT c1, .na hi2, .ix0 e_u8 hx3, .lT c4] (by kernel_rfl) (by intro h; cases h)
     ·rcases ite_some h with ⟨c5, h⟩ | ⟨c5, h⟩
      ·obtain rfl := Option.some.inj h
       exact loop_eQ [.lT c1, .na hi2, .ix0 e_u8 hx3, .lF c4, .lT c5] (by kernel_rfl) (by intro h; cases h)
      ·exact loop_nQ [.lT c1, .na hi2, .ix0 e_u8 hx3, .lF c4, .lF c5, .ad v2 1] (by kernel_rfl) (ih (w64 (v2 + 1)) o h)
    ·obtain rfl := Option.some.inj h
     exact loop_eQ [.lF c1] (by kernel_rfl) (by intro h; cases h)
def T_impl_isName (n : Nat) (a0 : (List UInt8)) : Option Bool :=
  (L_impl_isName_l0 a0 ((a0.length : Nat) : Int) n 0).bind fun o1 =>
  match o1 with
  | .inl o1_0 =>
    some o1_0
  | .inr (o1_1) =>
    (S_impl_in ((a0.length : Nat) : Int) 1 8).bind fun r2 =>
    some r2
set_option maxRecDepth 100000 in
theorem fd_149 : cfg.funcs 149 = some (bodyOf Tryz.f149, Tryz.f149.ntmps, Tryz.f149.results.toList) := fn_of Tryz.func149 (by kernel_rfl) (by kernel_rfl)
theorem g_impl_isName (n : Nat) (a0 : (List UInt8)) (r : Bool) (h : T_impl_isName n a0 = some r) : (mach cfg).call 149 [] [.val false [.seq (eL e_u8 a0)]] = some (.val false [.bool r], []) := by
  unfold T_impl_isName at h
  obtain ⟨o1, ho1, h⟩ := bs h
  rcases o1 with o1_0 | o1_1
  · try dsimp only at h
    obtain rfl := Option.some.inj h
    exact call_wQ [.le e_u8 a0, .lp (gl_impl_isName_l0 a0 ((a0.length : Nat) : Int) _ 0 _ ho1)] rfl fd_149 (by kernel_rfl)
  · try dsimp only at h
    obtain ⟨r2, hr2, h⟩ := bs h
    obtain rfl := Option.some.inj h
    exact call_wQ [.le e_u8 a0, .lp (gl_impl_isName_l0 a0 ((a0.length : Nat) : Int) _ 0 _ ho1), .le e_u8 a0, .cl (ok_impl_in ((a0.length : Nat) : Int) 1 8 _ hr2)] rfl fd_149 (by kernel_rfl)
theorem impl_isName_loop {a : List UInt8} (ha : a.length <= 2 ^ 20) : ∀ (d i m : Nat), i + d = a.length → d < m → ∃ z, L_impl_isName_l0 a (a.length : Int) m (i : Int) = some (if (a.drop i).all (inB 97 122) = true then .inr z else .inl false) := by
  intro d
  induction d with
  | zero =>
    intro i m hi hm
    obtain ⟨m, rfl, _⟩ := fuel hm
    exact ⟨_, by rw [L_impl_isName_l0, if_neg (by omega), List.drop_eq_nil_of_le (by omega)]; rfl⟩
  | succ d ih =>
    intro i m hi hm
    obtain ⟨m, rfl, hm'⟩ := fuel hm
    have hil : i < a.length := by omega
    rw [L_impl_isName_l0, if_pos (by omega), natO_nat, Option.bind_some, get_some hil, Option.bind_some, w64_succ (by omega), drop_cons hil, List.all_cons]
    by_cases h1 : ((a[i].toNat : Nat) : Int) < 97
    · exact ⟨0, by rw [if_pos h1, if_neg]; simp [inB]; omega⟩
    · rw [if_neg h1]
      by_cases h2 : (122 : Int) < ((a[i].toNat : Nat) : Int)
      · exact ⟨0, by rw [if_pos h2, if_neg]; simp [inB]; omega⟩
      · rw [if_neg h2, show inB 97 122 a[i] = true by simp [inB]; omega, Bool.true_and]
        exact ih (i + 1) m (by omega) (by omega)
theorem in_eq (a b c : Int) : S_impl_in a b c = some (decide (b <= a ∧ a <= c)) := by
  unfold S_impl_in
  by_cases h : b <= a
  · rw [if_pos h]; simp [h]
  · rw [if_neg h]; simp [h]
def S_impl_isName (a0 : (List UInt8)) : Option Bool := if a0.length <= 2 ^ 20 then some (nameB a0) else none
theorem spec_impl_isName (a0 : (List UInt8)) (r : Bool) (h : S_impl_isName a0 = some r) : ∃ n, T_impl_isName n a0 = some r := by
  unfold S_impl_isName at h
  obtain ⟨ha, h⟩ := need_c h
  refine ⟨a0.length + 1, ?_⟩
  obtain ⟨z, hz⟩ := impl_isName_loop ha a0.length 0 (a0.length + 1) (by omega) (by omega)
  rw [show ((0 : Nat) : Int) = 0 from rfl, List.drop_zero] at hz
  unfold T_impl_isName
  rw [<- h, hz]
  unfold nameB
  have hd : decide (1 <= a0.length ∧ a0.length <= 8) = decide ((1 : Int) <= (a0.length : Int) ∧ (a0.length : Int) <= 8) := decide_eq_decide.2 (by omega)
  rw [hd]
  cases a0.all (inB 97 122)
  · rw [Bool.and_false]; rfl
  · rw [Bool.and_true]
    simp only [if_true, Option.bind_some, in_eq]
theorem ok_impl_isName (a0 : (List UInt8)) (r : Bool) (h : S_impl_isName a0 = some r) : (mach cfg).call 149 [] [.val false [.seq (eL e_u8 a0)]] = some (.val false [.bool r], []) := by
  obtain ⟨n, hn⟩ := spec_impl_isName a0 r h
  exact g_impl_isName n a0 r hn
def S_bytes_HasSuffix (a0 : (List UInt8)) (a1 : (List UInt8)) : Option Bool :=
  if ((a1.length : Nat) : Int) <= ((a0.length : Nat) : Int) then
    (natO (w64 (((a0.length : Nat) : Int) - ((a1.length : Nat) : Int)))).bind fun i2 =>
    (cutO a0 (some i2) none).bind fun s3 =>
    (S_bytes_Equal s3 a1).bind fun r4 =>
    some r4
  else
    some false
set_option maxRecDepth 100000 in
theorem fd_172 : cfg.funcs 172 = some (bodyOf Tryz.f172, Tryz.f172.ntmps, Tryz.f172.results.toList) := fn_of Tryz.func172 (by kernel_rfl) (by kernel_rfl)
theorem ok_bytes_HasSuffix (a0 : (List UInt8)) (a1 : (List UInt8)) (r : Bool) (h : S_bytes_HasSuffix a0 a1 = some r) : (mach cfg).call 172 [] [.val false [.seq (eL e_u8 a0)], .val false [.seq (eL e_u8 a1)]] = some (.val false [.bool r], []) := by
  unfold S_bytes_HasSuffix at h
  rcases ite_some h with ⟨c1, h⟩ | ⟨c1, h⟩
  ·obtain ⟨i2, hi2, h⟩ := bs h
   obtain ⟨s3, hs3, h⟩ := bs h
   obtain ⟨r4, hr4, h⟩ := bs h
   obtain rfl := Option.some.inj h
   exact call_wQ [.le e_u8 a0, .le e_u8 a1, .gT c1, .le e_u8 a0, .le e_u8 a1, .su ((a0.length : Nat) : Int) ((a1.length : Nat) : Int), .na hi2, ⟨.cut (eL e_u8 a0) (some i2) none, .l (eL e_u8 s3), (A.cut hs3)⟩, ⟨.uni 1 (eL e_u8 a0), .b true, (A.uni E_u8)⟩, .cl (ok_bytes_Equal s3 a1 _ hr4)] rfl fd_172 (by kernel_rfl)
  ·obtain rfl := Option.some.inj h
   exact call_wQ [.le e_u8 a0, .le e_u8 a1, .gF c1] rfl fd_172 (by kernel_rfl)
def S_bytes_CutSuffix (a0 : (List UInt8)) (a1 : (List UInt8)) : Option ((List UInt8) × Bool) :=
  (S_bytes_HasSuffix a0 a1).bind fun r1 =>
  match r1 with
  | true =>
    (natO (w64 (((a0.length : Nat) : Int) - ((a1.length : Nat) : Int)))).bind fun i3 =>
    (cutO a0 none (some i3)).bind fun s4 =>
    some (s4, true)
  | false =>
    some (a0, false)
set_option maxRecDepth 100000 in
theorem fd_150 : cfg.funcs 150 = some (bodyOf Tryz.f150, Tryz.f150.ntmps, Tryz.f150.results.toList) := fn_of Tryz.func150 (by kernel_rfl) (by kernel_rfl)
theorem ok_bytes_CutSuffix (a0 : (List UInt8)) (a1 : (List UInt8)) (r : ((List UInt8) × Bool)) (h : S_bytes_CutSuffix a0 a1 = some r) : (mach cfg).call 150 [] [.val false [.seq (eL e_u8 a0)], .val false [.seq (eL e_u8 a1)]] = some (.tup [(false, [.seq (eL e_u8 r.1)]), (false, [.bool r.2])], []) := by
  unfold S_bytes_CutSuffix at h
  obtain ⟨r1, hr1, h⟩ := bs h
  cases r1 with
  | true =>
   try dsimp only at h
   obtain ⟨i3, hi3, h⟩ := bs h
   obtain ⟨s4, hs4, h⟩ := bs h
   obtain rfl := Option.some.inj h
   exact call_wQ [.cl (ok_bytes_HasSuffix a0 a1 _ hr1), .nt true, .le e_u8 a0, .le e_u8 a1, .su ((a0.length : Nat) : Int) ((a1.length : Nat) : Int), .na hi3, ⟨.cut (eL e_u8 a0) none (some i3), .l (eL e_u8 s4), (A.cut hs4)⟩, ⟨.uni 1 (eL e_u8 a0), .b true, (A.uni E_u8)⟩] rfl fd_150 (by kernel_rfl)
  | false =>
   try dsimp only at h
   obtain rfl := Option.some.inj h
   exact call_wQ [.cl (ok_bytes_HasSuffix a0 a1 _ hr1), .nt false] rfl fd_150 (by kernel_rfl)
def S_bytes_HasPrefix (a0 : (List UInt8)) (a1 : (List UInt8)) : Option Bool :=
  if ((a1.length : Nat) : Int) <= ((a0.length : Nat) : Int) then
    (natO ((a1.length : Nat) : Int)).bind fun i2 =>
    (cutO a0 none (some i2)).bind fun s3 =>
    (S_bytes_Equal s3 a1).bind fun r4 =>
    some r4
  else
    some false
set_option maxRecDepth 100000 in
theorem fd_173 : cfg.funcs 173 = some (bodyOf Tryz.f173, Tryz.f173.ntmps, Tryz.f173.results.toList) := fn_of Tryz.func173 (by kernel_rfl) (by kernel_rfl)
theorem ok_bytes_HasPrefix (a0 : (List UInt8)) (a1 : (List UInt8)) (r : Bool) (h : S_bytes_HasPrefix a0 a1 = some r) : (mach cfg).call 173 [] [.val false [.seq (eL e_u8 a0)], .val false [.seq (eL e_u8 a1)]] = some (.val false [.bool r], []) := by
  unfold S_bytes_HasPrefix at h
  rcases ite_some h with ⟨c1, h⟩ | ⟨c1, h⟩
  ·obtain ⟨i2, hi2, h⟩ := bs h
   obtain ⟨s3, hs3, h⟩ := bs h
   obtain ⟨r4, hr4, h⟩ := bs h
   obtain rfl := Option.some.inj h
   exact call_wQ [.le e_u8 a0, .le e_u8 a1, .gT c1, .le e_u8 a1, .na hi2, ⟨.cut (eL e_u8 a0) none (some i2), .l (eL e_u8 s3), (A.cut hs3)⟩, ⟨.uni 1 (eL e_u8 a0), .b true, (A.uni E_u8)⟩, .cl (ok_bytes_Equal s3 a1 _ hr4)] rfl fd_173 (by kernel_rfl)
  ·obtain rfl := Option.some.inj h
   exact call_wQ [.le e_u8 a0, .le e_u8 a1, .gF c1] rfl fd_173 (by kernel_rfl)
def S_bytes_CutPrefix (a0 : (List UInt8)) (a1 : (List UInt8)) : Option ((List UInt8) × Bool) :=
  (S_bytes_HasPrefix a0 a1).bind fun r1 =>
  match r1 with
  | true =>
    (natO ((a1.length : Nat) : Int)).bind fun i3 =>
    (cutO a0 (some i3) none).bind fun s4 =>
    some (s4, true)
  | false =>
    some (a0, false)
set_option maxRecDepth 100000 in
theorem fd_151 : cfg.funcs 151 = some (bodyOf Tryz.f151, Tryz.f151.ntmps, Tryz.f151.results.toList) := fn_of Tryz.func151 (by kernel_rfl) (by kernel_rfl)
theorem ok_bytes_CutPrefix (a0 : (List UInt8)) (a1 : (List UInt8)) (r : ((List UInt8) × Bool)) (h : S_bytes_CutPrefix a0 a1 = some r) : (mach cfg).call 151 [] [.val false [.seq (eL e_u8 a0)], .val false [.seq (eL e_u8 a1)]] = some (.tup [(false, [.seq (eL e_u8 r.1)]), (false, [.bool r.2])], []) := by
  unfold S_bytes_CutPrefix at h
  obtain ⟨r1, hr1, h⟩ := bs h
  cases r1 with
  | true =>
   try dsimp only at h
   obtain ⟨i3, hi3, h⟩ := bs h
   obtain ⟨s4, hs4, h⟩ := bs h
   obtain rfl := Option.some.inj h
   exact call_wQ [.cl (ok_bytes_HasPrefix a0 a1 _ hr1), .nt true, .le e_u8 a1, .na hi3, ⟨.cut (eL e_u8 a0) (some i3) none, .l (eL e_u8 s4), (A.cut hs4)⟩, ⟨.uni 1 (eL e_u8 a0), .b true, (A.uni E_u8)⟩] rfl fd_151 (by kernel_rfl)
  | false =>
   try dsimp only at h
   obtain rfl := Option.some.inj h
   exact call_wQ [.cl (ok_bytes_HasPrefix a0 a1 _ hr1), .nt false] rfl fd_151 (by kernel_rfl)
def S_internal_strconv_small (a0 : Int) : Option (List UInt8) :=
  if a0 < 10 then
    (natO a0).bind fun i2 =>
    (natO (w64 (a0 + 1))).bind fun i3 =>
    (cutO [48, 49, 50, 51, 52, 53, 54, 55, 56, 57, 97, 98, 99, 100, 101, 102, 103, 104, 105, 106, 107, 108, 109, 110, 111, 112, 113, 114, 115, 116, 117, 118, 119, 120, 121, 122] (some i2) (some i3)).bind fun s4 =>
    some s4
  else
    (natO (w64 (a0 * 2))).bind fun i2 =>
    (natO (w64 ((w64 (a0 * 2)) + 2))).bind fun i3 =>
    (cutO [48, 48, 48, 49, 48, 50, 48, 51, 48, 52, 48, 53, 48, 54, 48, 55, 48, 56, 48, 57, 49, 48, 49, 49, 49, 50, 49, 51, 49, 52, 49, 53, 49, 54, 49, 55, 49, 56, 49, 57, 50, 48, 50, 49, 50, 50, 50, 51, 50, 52, 50, 53, 50, 54, 50, 55, 50, 56, 50, 57, 51, 48, 51, 49, 51, 50, 51, 51, 51, 52, 51, 53, 51, 54, 51, 55, 51, 56, 51, 57, 52, 48, 52, 49, 52, 50, 52, 51, 52, 52, 52, 53, 52, 54, 52, 55, 52, 56, 52, 57, 53, 48, 53, 49, 53, 50, 53, 51, 53, 52, 53, 53, 53, 54, 53, 55, 53, 56, 53, 57, 54, 48, 54, 49, 54, 50, 54, 51, 54, 52, 54, 53, 54, 54, 54, 55, 54, 56, 54, 57, 55, 48, 55, 49, 55, 50, 55, 51, 55, 52, 55, 53, 55, 54, 55, 55, 55, 56, 55, 57, 56, 48, 56, 49, 56, 50, 56, 51, 56, 52, 56, 53, 56, 54, 56, 55, 56, 56, 56, 57, 57, 48, 57, 49, 57, 50, 57, 51, 57, 52, 57, 53, 57, 54, 57, 55, 57, 56, 57, 57] (some i2) (some i3)).bind fun s4 =>
    some s4
set_option maxRecDepth 100000 in
theorem fd_206 : cfg.funcs 206 = some (bodyOf Tryz.f206, Tryz.f206.ntmps, Tryz.f206.results.toList) := fn_of Tryz.func206 (by kernel_rfl) (by kernel_rfl)
theorem ok_internal_strconv_small (a0 : Int) (r : (List UInt8)) (h : S_internal_strconv_small a0 = some r) : (mach cfg).call 206 [] [.val false [.int .i64 a0]] = some (.val false [.str r], []) := by
  unfold S_internal_strconv_small at h
  rcases ite_some h with ⟨c1, h⟩ | ⟨c1, h⟩
  ·obtain ⟨i2, hi2, h⟩ := bs h
   obtain ⟨i3, hi3, h⟩ := bs h
   obtain ⟨s4, hs4, h⟩ := bs h
   obtain rfl := Option.some.inj h
   exact call_wQ [.lT c1, .ad a0 1, .na hi2, .na hi3, ⟨.cutS [48, 49, 50, 51, 52, 53, 54, 55, 56, 57, 97, 98, 99, 100, 101, 102, 103, 104, 105, 106, 107, 108, 109, 110, 111, 112, 113, 114, 115, 116, 117, 118, 119, 120, 121, 122] (some i2) (some i3), .s s4, (A.cutS hs4)⟩] rfl fd_206 (by kernel_rfl)
  ·obtain ⟨i2, hi2, h⟩ := bs h
   obtain ⟨i3, hi3, h⟩ := bs h
   obtain ⟨s4, hs4, h⟩ := bs h
   obtain rfl := Option.some.inj h
   exact call_wQ [.lF c1, ⟨.mul .i64 a0 2, .i (w64 (a0 * 2)), rfl⟩, ⟨.mul .i64 a0 2, .i (w64 (a0 * 2)), rfl⟩, .ad (w64 (a0 * 2)) 2, .na hi2, .na hi3, ⟨.cutS [48, 48, 48, 49, 48, 50, 48, 51, 48, 52, 48, 53, 48, 54, 48, 55, 48, 56, 48, 57, 49, 48, 49, 49, 49, 50, 49, 51, 49, 52, 49, 53, 49, 54, 49, 55, 49, 56, 49, 57, 50, 48, 50, 49, 50, 50, 50, 51, 50, 52, 50, 53, 50, 54, 50, 55, 50, 56, 50, 57, 51, 48, 51, 49, 51, 50, 51, 51, 51, 52, 51, 53, 51, 54, 51, 55, 51, 56, 51, 57, 52, 48, 52, 49, 52, 50, 52, 51, 52, 52, 52, 53, 52, 54, 52, 55, 52, 56, 52, 57, 53, 48, 53, 49, 53, 50, 53, 51, 53, 52, 53, 53, 53, 54, 53, 55, 53, 56, 53, 57, 54, 48, 54, 49, 54, 50, 54, 51, 54, 52, 54, 53, 54, 54, 54, 55, 54, 56, 54, 57, 55, 48, 55, 49, 55, 50, 55, 51, 55, 52, 55, 53, 55, 54, 55, 55, 55, 56, 55, 57, 56, 48, 56, 49, 56, 50, 56, 51, 56, 52, 56, 53, 56, 54, 56, 55, 56, 56, 56, 57, 57, 48, 57, 49, 57, 50, 57, 51, 57, 52, 57, 53, 57, 54, 57, 55, 57, 56, 57, 57] (some i2) (some i3), .s s4, (A.cutS hs4)⟩] rfl fd_206 (by kernel_rfl)
def S_internal_strconv_formatBits (a0 : (List UInt8)) (a1 : Int) (a2 : Int) (a3 : Bool) (a4 : Bool) : Option ((List UInt8) × (List UInt8)) :=
  if a2 < 2 then
    none
  else
    if a2 = 10 then
      none
    else
      if 36 < a2 then
        none
      else
        none
set_option maxRecDepth 100000 in
theorem fd_209 : cfg.funcs 209 = some (bodyOf Tryz.f209, Tryz.f209.ntmps, Tryz.f209.results.toList) := fn_of Tryz.func209 (by kernel_rfl) (by kernel_rfl)
theorem ok_internal_strconv_formatBits (a0 : (List UInt8)) (a1 : Int) (a2 : Int) (a3 : Bool) (a4 : Bool) (r : ((List UInt8) × (List UInt8))) (h : S_internal_strconv_formatBits a0 a1 a2 a3 a4 = some r) : (mach cfg).call 209 [] [.val false [.seq (eL e_u8 a0)], .val false [.int .u64 a1], .val false [.int .i64 a2], .val false [.bool a3], .val false [.bool a4]] = some (.tup [(false, [.own 1 (eL e_u8 r.1)]), (false, [.str r.2])], []) := by
  unfold S_internal_strconv_formatBits at h
  rcases ite_some h with ⟨c1, h⟩ | ⟨c1, h⟩
  ·cases h
  ·rcases ite_some h with ⟨c2, h⟩ | ⟨c2, h⟩
   ·cases h
   ·rcases ite_some h with ⟨c3, h⟩ | ⟨c3, h⟩
    ·cases h
    ·cases h
def S_internal_strconv_FormatInt (a0 : Int) (a1 : Int) : Option (List UInt8) :=
  if a1 = 10 then
    if 0 <= a0 then
      if a0 < 100 then
        (S_internal_strconv_small a0).bind fun r4 =>
        some r4
      else
        none
    else
      none
  else
    if a0 < 0 then
      (S_internal_strconv_formatBits [] (IntKind.u64.wrap a0) a1 true false).bind fun ⟨r3_0, r3_1⟩ =>
      some r3_1
    else
      (S_internal_strconv_formatBits [] (IntKind.u64.wrap a0) a1 false false).bind fun ⟨r3_0, r3_1⟩ =>
      some r3_1
set_option maxRecDepth 100000 in
theorem fd_195 : cfg.funcs 195 = some (bodyOf Tryz.f195, Tryz.f195.ntmps, Tryz.f195.results.toList) := fn_of Tryz.func195 (by kernel_rfl) (by kernel_rfl)
theorem ok_internal_strconv_FormatInt (a0 : Int) (a1 : Int) (r : (List UInt8)) (h : S_internal_strconv_FormatInt a0 a1 = some r) : (mach cfg).call 195 [] [.val false [.int .i64 a0], .val false [.int .i64 a1]] = some (.val false [.str r], []) := by
  unfold S_internal_strconv_FormatInt at h
  rcases ite_some h with ⟨c1, h⟩ | ⟨c1, h⟩
  ·rcases ite_some h with ⟨c2, h⟩ | ⟨c2, h⟩
   ·rcases ite_some h with ⟨c3, h⟩ | ⟨c3, h⟩
    ·obtain ⟨r4, hr4, h⟩ := bs h
     obtain rfl := Option.some.inj h
     exact call_wQ [.eT c1, .gT c2, .lT c3, .cl (ok_internal_strconv_small a0 _ hr4)] rfl fd_195 (by kernel_rfl)
    ·cases h
   ·cases h
  ·rcases ite_some h with ⟨c2, h⟩ | ⟨c2, h⟩
   ·obtain ⟨⟨r3_0, r3_1⟩, hr3, h⟩ := bs h
    try dsimp only at h
    obtain rfl := Option.some.inj h
    exact call_wQ [.eF c1, ⟨.conv .u64 a0, .i (IntKind.u64.wrap a0), rfl⟩, .lT c2, .cl (ok_internal_strconv_formatBits [] (IntKind.u64.wrap a0) a1 true false _ hr3)] rfl fd_195 (by kernel_rfl)
   ·obtain ⟨⟨r3_0, r3_1⟩, hr3, h⟩ := bs h
    try dsimp only at h
    obtain rfl := Option.some.inj h
    exact call_wQ [.eF c1, ⟨.conv .u64 a0, .i (IntKind.u64.wrap a0), rfl⟩, .lF c2, .cl (ok_internal_strconv_formatBits [] (IntKind.u64.wrap a0) a1 false false _ hr3)] rfl fd_195 (by kernel_rfl)
def S_internal_strconv_Itoa (a0 : Int) : Option (List UInt8) :=
  (S_internal_strconv_FormatInt a0 10).bind fun r1 =>
  some r1
set_option maxRecDepth 100000 in
theorem fd_176 : cfg.funcs 176 = some (bodyOf Tryz.f176, Tryz.f176.ntmps, Tryz.f176.results.toList) := fn_of Tryz.func176 (by kernel_rfl) (by kernel_rfl)
theorem ok_internal_strconv_Itoa (a0 : Int) (r : (List UInt8)) (h : S_internal_strconv_Itoa a0 = some r) : (mach cfg).call 176 [] [.val false [.int .i64 a0]] = some (.val false [.str r], []) := by
  unfold S_internal_strconv_Itoa at h
  obtain ⟨r1, hr1, h⟩ := bs h
  obtain rfl := Option.some.inj h
  exact call_wQ [.cl (ok_internal_strconv_FormatInt a0 10 _ hr1)] rfl fd_176 (by kernel_rfl)
def S_strconv_Itoa (a0 : Int) : Option (List UInt8) :=
  (S_internal_strconv_Itoa a0).bind fun r1 =>
  some r1
set_option maxRecDepth 100000 in
theorem fd_153 : cfg.funcs 153 = some (bodyOf Tryz.f153, Tryz.f153.ntmps, Tryz.f153.results.toList) := fn_of Tryz.func153 (by kernel_rfl) (by kernel_rfl)
theorem ok_strconv_Itoa (a0 : Int) (r : (List UInt8)) (h : S_strconv_Itoa a0 = some r) : (mach cfg).call 153 [] [.val false [.int .i64 a0]] = some (.val false [.str r], []) := by
  unfold S_strconv_Itoa at h
  obtain ⟨r1, hr1, h⟩ := bs h
  obtain rfl := Option.some.inj h
  exact call_wQ [.cl (ok_internal_strconv_Itoa a0 _ hr1)] rfl fd_153 (by kernel_rfl)
end
end Go.Am.Try
