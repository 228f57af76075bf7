/- The functions of the program in plain Lean, and that the machine answers as they do; conditions at each theorem. -/
import Derived.Test.YtabecknjhcjpfaaGreatDoorEG1
set_option linter.unusedVariables false
set_option linter.unusedSimpArgs false
namespace Go.Am.Try
open Go.Am Go.Proofs
set_option linter.unusedVariables false
set_option maxRecDepth 20000
set_option maxHeartbeats 2000000
noncomputable section
def L_spec_l2ok_l0 (G_spec_l2ok : GValue → Int → Int → Option Int) (a1 : Int) (a0 : GValue) : Nat → Int → Int → Option (Int ⊕ (Int × Int))
  | 0, _, _ => none
  | m + 1, v1, v2 =>
    if v2 < ((a0.L.length : Nat) : Int) then
      if a0.Kind = 5 then
        (natO v2).bind fun i3 =>
        (a0.K[i3]?).bind fun x4 =>
        (S_spec_NameOk x4).bind fun r5 =>
        match r5 with
        | true =>
          if 0 < v2 then
            (natO (w64 (v2 - 1))).bind fun i8 =>
            (a0.K[i8]?).bind fun x9 =>
            if Op.bytesLess x9 x4 = true then
              (a0.L[i3]?).bind fun x11 =>
              (G_spec_l2ok x11 (w64 (a1 + 1)) v1).bind fun r12 =>
              if r12 < 0 then
                some (.inl (-1))
              else
                L_spec_l2ok_l0 G_spec_l2ok a1 a0 m r12 (w64 (v2 + 1))
            else
              some (.inl (-1))
          else
            (a0.L[i3]?).bind fun x8 =>
            (G_spec_l2ok x8 (w64 (a1 + 1)) v1).bind fun r9 =>
            if r9 < 0 then
              some (.inl (-1))
            else
              L_spec_l2ok_l0 G_spec_l2ok a1 a0 m r9 (w64 (v2 + 1))
        | false =>
          some (.inl (-1))
      else
        (natO v2).bind fun i3 =>
        (a0.L[i3]?).bind fun x4 =>
        (G_spec_l2ok x4 (w64 (a1 + 1)) v1).bind fun r5 =>
        if r5 < 0 then
          some (.inl (-1))
        else
          L_spec_l2ok_l0 G_spec_l2ok a1 a0 m r5 (w64 (v2 + 1))
    else
      some (.inr (v1, v2))
theorem gl_spec_l2ok_l0 (G_spec_l2ok : GValue → Int → Int → Option Int) (H_spec_l2ok : ∀ (a0 : GValue) (a1 : Int) (a2 : Int) (r : Int), G_spec_l2ok a0 a1 a2 = some r → (mach cfg).call 147 [] [.val true [.int .i64 a0.Kind, .int .i64 a0.N, .seq (eL e_u8 a0.S), .seq (eL (e_sl e_u8) a0.K), .seq (eL e_GValue a0.L)], .val false [.int .i64 a1], .val false [.int .i64 a2]] = some (.val false [.int .i64 r], [])) (a1 : Int) (a0 : GValue) (m : Nat) : ∀ (v1 : Int) (v2 : Int) (o : (Int ⊕ (Int × Int))), L_spec_l2ok_l0 G_spec_l2ok a1 a0 m v1 v2 = some o → (mach cfg).loop 147 (loopB Tryz.f147 0) ⟨[(1, .val false [.int .i64 a1]), (2, .val false [.int .i64 v1]), (3, .val false [.ptr 0 0]), (7, .val false [.int .i64 v2])], [.var [.int .i64 a0.Kind, .int .i64 a0.N, .seq (eL e_u8 a0.S), .seq (eL (e_sl e_u8) a0.K), .seq (eL e_GValue a0.L)]], 0⟩ = some (match o with | .inl o_0 => (.ret, (⟨[(6, .val false [.int .i64 o_0])], [], 0⟩ : S)) | .inr (⟨o_1_0, o_1_1⟩) => (.exit 1, (⟨[(1, .val false [.int .i64 a1]), (2, .val false [.int .i64 o_1_0]), (3, .val false [.ptr 0 0]), (7, .val false [.int .i64 o_1_1]), (117, .val false [.bool false])], [.var [.int .i64 a0.Kind, .int .i64 a0.N, .seq (eL e_u8 a0.S), .seq (eL (e_sl e_u8) a0.K), .seq (eL e_GValue a0.L)]], 0⟩ : S))) := by
  induction m with
  | zero => intro v1 v2 o h; cases h
  | succ m ih =>
    intro v1 v2 o h
    rw [L_spec_l2ok_l0] at h
    rcases ite_some h with ⟨c1, h⟩ | ⟨c1, h⟩
    ·rcases ite_some h with ⟨c2, h⟩ | ⟨c2, h⟩
     ·obtain ⟨i3, hi3, h⟩ := bs h
      obtain ⟨x4, hx4, h⟩ := bs h
      obtain ⟨r5, hr5, h⟩ := bs h
      let p21 : List (Q cfg) := [.le e_GValue a0.L, .lT c1, .eT c2, .na hi3, .ix0 (e_sl e_u8) hx4]
      cases r5 with
      | true =>
       try dsimp only at h
       rcases ite_some h with ⟨c7, h⟩ | ⟨c7, h⟩
       ·obtain ⟨i8, hi8, h⟩ := bs h
        obtain ⟨x9, hx9, h⟩ := bs h
        rcases ite_some h with ⟨c10, h⟩ | ⟨c10, h⟩
        ·obtain ⟨x11, hx11, h⟩ := bs h
         obtain ⟨r12, hr12, h⟩ := bs h
         let p22 : List (Q cfg) := p21 ++ [.cl (ok_spec_NameOk x4 _ hr5), .nt true, .lT c7, .su v2 1, .na hi8, .ix0 (e_sl e_u8) hx9, ⟨.bytes (eL e_u8 x9), .s x9, A.bytes⟩, .na hi3, .ix0 (e_sl e_u8) hx4, ⟨.bytes (eL e_u8 x4), .s x4, A.bytes⟩, ⟨.ltS x9 x4, .b true, (A.ltS_t c10)⟩, .nt true, .na hi3, .ix hx11 (eq_GValue x11), .ad a1 1, .cl (H_spec_l2ok x11 (w64 (a1 + 1)) v1 _ hr12)]
         rcases ite_some h with ⟨c13, h⟩ | ⟨c13, h⟩
         ·obtain rfl := Option.some.inj h
          exact loop_eQ (p22 ++ [.lT c13]) (by kernel_rfl) (by intro h; cases h)
         ·exact loop_nQ (p22 ++ [.lF c13, .ad v2 1]) (by kernel_rfl) (ih r12 (w64 (v2 + 1)) o h)
        ·obtain rfl := Option.some.inj h
         exact loop_eQ (p21 ++ [.cl (ok_spec_NameOk x4 _ hr5), .nt true, .lT c7, .su v2 1, .na hi8, .ix0 (e_sl e_u8) hx9, ⟨.bytes (eL e_u8 x9), .s x9, A.bytes⟩, .na hi3, .ix0 (e_sl e_u8) hx4, ⟨.bytes (eL e_u8 x4), .s x4, A.bytes⟩, ⟨.ltS x9 x4, .b false, (A.ltS_f c10)⟩, .nt false]) (by kernel_rfl) (by intro h; cases h)
       ·obtain ⟨x8, hx8, h⟩ := bs h
        obtain ⟨r9, hr9, h⟩ := bs h
        let p23 : List (Q cfg) := p21 ++ [.cl (ok_spec_NameOk x4 _ hr5), .nt true, .lF c7, .na hi3, .ix hx8 (eq_GValue x8), .ad a1 1, .cl (H_spec_l2ok x8 (w64 (a1 + 1)) v1 _ hr9)]
        rcases ite_some h with ⟨c10, h⟩ | ⟨c10, h⟩
        ·obtain rfl := Option.some.inj h
         exact loop_eQ (p23 ++ [.lT c10]) (by kernel_rfl) (by intro h; cases h)
        ·exact loop_nQ (p23 ++ [.lF c10, .ad v2 1]) (by kernel_rfl) (ih r9 (w64 (v2 + 1)) o h)
      | false =>
       try dsimp only at h
       obtain rfl := Option.some.inj h
       exact loop_eQ (p21 ++ [.cl (ok_spec_NameOk x4 _ hr5), .nt false]) (by kernel_rfl) (by intro h; cases h)
     ·obtain ⟨i3, hi3, h⟩ := bs h
      obtain ⟨x4, hx4, h⟩ := bs h
      obtain ⟨r5, hr5, h⟩ := bs h
      let p24 : List (Q cfg) := [.le e_GValue a0.L, .lT c1, .eF c2, .na hi3, .ix hx4 (eq_GValue x4), .ad a1 1, .cl (H_spec_l2ok x4 (w64 (a1 + 1)) v1 _ hr5)]
      rcases ite_some h with ⟨c6, h⟩ | ⟨c6, h⟩
      ·obtain rfl := Option.some.inj h
       exact loop_eQ (p24 ++ [.lT c6]) (by kernel_rfl) (by intro h; cases h)
      ·exact loop_nQ (p24 ++ [.lF c6, .ad v2 1]) (by kernel_rfl) (ih r5 (w64 (v2 + 1)) o h)
    ·obtain rfl := Option.some.inj h
     exact loop_eQ [.le e_GValue a0.L, .lF c1] (by kernel_rfl) (by intro h; cases h)
def T_spec_l2ok (G_spec_l2ok : GValue → Int → Int → Option Int) (n : Nat) (a0 : GValue) (a1 : Int) (a2 : Int) : Option Int :=
  if (w64 (a2 - 1)) < 0 then
    some (-1)
  else
    if 5 < a1 then
      some (-1)
    else
      if a0.Kind = 3 then
        if 0 < ((a0.K.length : Nat) : Int) then
          some (-1)
        else
          if a0.N = 0 then
            if 0 < ((a0.L.length : Nat) : Int) then
              some (-1)
            else
              (S_spec_l2text a0.S).bind fun r7 =>
              match r7 with
              | true =>
                some (w64 (a2 - 1))
              | false =>
                some (-1)
          else
            some (-1)
      else
        if 0 < ((a0.S.length : Nat) : Int) then
          some (-1)
        else
          if a0.Kind = 5 then
            if a0.N = 0 then
              if ((a0.K.length : Nat) : Int) = ((a0.L.length : Nat) : Int) then
                (L_spec_l2ok_l0 G_spec_l2ok a1 a0 n (w64 (a2 - 1)) 0).bind fun o8 =>
                match o8 with
                | .inl o8_0 =>
                  some o8_0
                | .inr (⟨o8_1_0, o8_1_1⟩) =>
                  some o8_1_0
              else
                some (-1)
            else
              some (-1)
          else
            if 0 < ((a0.K.length : Nat) : Int) then
              some (-1)
            else
              if a0.Kind = 1 then
                if 0 < ((a0.L.length : Nat) : Int) then
                  some (-1)
                else
                  if a0.N < 0 then
                    some (-1)
                  else
                    if 1 < a0.N then
                      some (-1)
                    else
                      some (w64 (a2 - 1))
              else
                if a0.Kind = 2 then
                  if 0 < ((a0.L.length : Nat) : Int) then
                    some (-1)
                  else
                    (S_spec_l2int a0.N).bind fun r10 =>
                    match r10 with
                    | true =>
                      some (w64 (a2 - 1))
                    | false =>
                      some (-1)
                else
                  if a0.N = 0 then
                    if a0.Kind = 4 then
                      (L_spec_l2ok_l0 G_spec_l2ok a1 a0 n (w64 (a2 - 1)) 0).bind fun o11 =>
                      match o11 with
                      | .inl o11_0 =>
                        some o11_0
                      | .inr (⟨o11_1_0, o11_1_1⟩) =>
                        some o11_1_0
                    else
                      if 0 < ((a0.L.length : Nat) : Int) then
                        some (-1)
                      else
                        if a0.Kind = 0 then
                          some (w64 (a2 - 1))
                        else
                          if a0.Kind = 6 then
                            some (w64 (a2 - 1))
                          else
                            some (-1)
                  else
                    some (-1)
set_option maxRecDepth 100000 in
theorem fd_147 : cfg.funcs 147 = some (bodyOf Tryz.f147, Tryz.f147.ntmps, Tryz.f147.results.toList) := fn_of Tryz.func147 (by kernel_rfl) (by kernel_rfl)
theorem g_spec_l2ok (G_spec_l2ok : GValue → Int → Int → Option Int) (H_spec_l2ok : ∀ (a0 : GValue) (a1 : Int) (a2 : Int) (r : Int), G_spec_l2ok a0 a1 a2 = some r → (mach cfg).call 147 [] [.val true [.int .i64 a0.Kind, .int .i64 a0.N, .seq (eL e_u8 a0.S), .seq (eL (e_sl e_u8) a0.K), .seq (eL e_GValue a0.L)], .val false [.int .i64 a1], .val false [.int .i64 a2]] = some (.val false [.int .i64 r], [])) (n : Nat) (a0 : GValue) (a1 : Int) (a2 : Int) (r : Int) (h : T_spec_l2ok G_spec_l2ok n a0 a1 a2 = some r) : (mach cfg).call 147 [] [.val true [.int .i64 a0.Kind, .int .i64 a0.N, .seq (eL e_u8 a0.S), .seq (eL (e_sl e_u8) a0.K), .seq (eL e_GValue a0.L)], .val false [.int .i64 a1], .val false [.int .i64 a2]] = some (.val false [.int .i64 r], []) := by
  unfold T_spec_l2ok at h
  rcases ite_some h with ⟨c1, h⟩ | ⟨c1, h⟩
  ·obtain rfl := Option.some.inj h
   exact call_wQ [.su a2 1, .lT c1] rfl fd_147 (by kernel_rfl)
  ·rcases ite_some h with ⟨c2, h⟩ | ⟨c2, h⟩
   ·obtain rfl := Option.some.inj h
    exact call_wQ [.su a2 1, .lF c1, .lT c2] rfl fd_147 (by kernel_rfl)
   ·rcases ite_some h with ⟨c3, h⟩ | ⟨c3, h⟩
    ·let p25 : List (Q cfg) := [.su a2 1, .lF c1, .lF c2, .eT c3, .nt true]
     rcases ite_some h with ⟨c4, h⟩ | ⟨c4, h⟩
     ·obtain rfl := Option.some.inj h
      exact call_wQ (p25 ++ [.eFo a0.Kind 5 (by omega), .nt false, .le (e_sl e_u8) a0.K, .lT c4]) rfl fd_147 (by kernel_rfl)
     ·rcases ite_some h with ⟨c5, h⟩ | ⟨c5, h⟩
      ·rcases ite_some h with ⟨c6, h⟩ | ⟨c6, h⟩
       ·obtain rfl := Option.some.inj h
        exact call_wQ (p25 ++ [.eFo a0.Kind 5 (by omega), .nt false, .le (e_sl e_u8) a0.K, .lF c4, .eFo a0.Kind 1 (by omega), .nt false, .eFo a0.Kind 2 (by omega), .nt false, .eT c5, .nt true, .eFo a0.Kind 4 (by omega), .nt false, .eFo a0.Kind 5 (by omega), .nt false, .le e_GValue a0.L, .lT c6]) rfl fd_147 (by kernel_rfl)
       ·obtain ⟨r7, hr7, h⟩ := bs h
        let p26 : List (Q cfg) := p25 ++ [.eFo a0.Kind 5 (by omega), .nt false, .le (e_sl e_u8) a0.K, .lF c4, .eFo a0.Kind 1 (by omega), .nt false, .eFo a0.Kind 2 (by omega), .nt false, .eT c5, .nt true, .eFo a0.Kind 4 (by omega), .nt false, .eFo a0.Kind 5 (by omega), .nt false, .le e_GValue a0.L, .lF c6, .eFo a0.Kind 0 (by omega), .eFo a0.Kind 6 (by omega), .eFo a0.Kind 1 (by omega), .eFo a0.Kind 2 (by omega), .eT c3, .cl (ok_spec_l2text a0.S _ hr7)]
        cases r7 with
        | true =>
         try dsimp only at h
         obtain rfl := Option.some.inj h
         exact call_wQ (p26 ++ [.nt true]) rfl fd_147 (by kernel_rfl)
        | false =>
         try dsimp only at h
         obtain rfl := Option.some.inj h
         exact call_wQ (p26 ++ [.nt false]) rfl fd_147 (by kernel_rfl)
      ·obtain rfl := Option.some.inj h
       exact call_wQ (p25 ++ [.eFo a0.Kind 5 (by omega), .nt false, .le (e_sl e_u8) a0.K, .lF c4, .eFo a0.Kind 1 (by omega), .nt false, .eFo a0.Kind 2 (by omega), .nt false, .eF c5, .nt false]) rfl fd_147 (by kernel_rfl)
    ·rcases ite_some h with ⟨c4, h⟩ | ⟨c4, h⟩
     ·obtain rfl := Option.some.inj h
      exact call_wQ [.su a2 1, .lF c1, .lF c2, .eF c3, .nt false, .le e_u8 a0.S, .lT c4] rfl fd_147 (by kernel_rfl)
     ·rcases ite_some h with ⟨c5, h⟩ | ⟨c5, h⟩
      ·let p27 : List (Q cfg) := [.su a2 1, .lF c1, .lF c2, .eF c3, .nt false]
       rcases ite_some h with ⟨c6, h⟩ | ⟨c6, h⟩
       ·rcases ite_some h with ⟨c7, h⟩ | ⟨c7, h⟩
        ·obtain ⟨o8, ho8, h⟩ := bs h
         let p28 : List (Q cfg) := p27 ++ [.le e_u8 a0.S, .lF c4, .eT c5, .nt true, .eFo a0.Kind 1 (by omega), .nt false, .eFo a0.Kind 2 (by omega), .nt false, .eT c6, .nt true, .eFo a0.Kind 4 (by omega), .nt false, .eT c5, .nt true, .eFo a0.Kind 0 (by omega), .eFo a0.Kind 6 (by omega), .eFo a0.Kind 1 (by omega), .eFo a0.Kind 2 (by omega), .eF c3, .eFo a0.Kind 4 (by omega), .eT c5, .eT c5, .le (e_sl e_u8) a0.K, .le e_GValue a0.L, .eT c7, .nt true, .lp (gl_spec_l2ok_l0 G_spec_l2ok H_spec_l2ok a1 a0 _ (w64 (a2 - 1)) 0 _ ho8)]
         rcases o8 with o8_0 | ⟨o8_1_0, o8_1_1⟩
         · try dsimp only at h
           obtain rfl := Option.some.inj h
           exact call_wQ p28 rfl fd_147 (by kernel_rfl)
         · try dsimp only at h
           obtain rfl := Option.some.inj h
           exact call_wQ p28 rfl fd_147 (by kernel_rfl)
        ·obtain rfl := Option.some.inj h
         exact call_wQ (p27 ++ [.le e_u8 a0.S, .lF c4, .eT c5, .nt true, .eFo a0.Kind 1 (by omega), .nt false, .eFo a0.Kind 2 (by omega), .nt false, .eT c6, .nt true, .eFo a0.Kind 4 (by omega), .nt false, .eT c5, .nt true, .eFo a0.Kind 0 (by omega), .eFo a0.Kind 6 (by omega), .eFo a0.Kind 1 (by omega), .eFo a0.Kind 2 (by omega), .eF c3, .eFo a0.Kind 4 (by omega), .eT c5, .eT c5, .le (e_sl e_u8) a0.K, .le e_GValue a0.L, .eF c7, .nt false]) rfl fd_147 (by kernel_rfl)
       ·obtain rfl := Option.some.inj h
        exact call_wQ (p27 ++ [.le e_u8 a0.S, .lF c4, .eT c5, .nt true, .eFo a0.Kind 1 (by omega), .nt false, .eFo a0.Kind 2 (by omega), .nt false, .eF c6, .nt false]) rfl fd_147 (by kernel_rfl)
      ·rcases ite_some h with ⟨c6, h⟩ | ⟨c6, h⟩
       ·obtain rfl := Option.some.inj h
        exact call_wQ [.su a2 1, .lF c1, .lF c2, .eF c3, .nt false, .le e_u8 a0.S, .lF c4, .eF c5, .nt false, .le (e_sl e_u8) a0.K, .lT c6] rfl fd_147 (by kernel_rfl)
       ·rcases ite_some h with ⟨c7, h⟩ | ⟨c7, h⟩
        ·rcases ite_some h with ⟨c8, h⟩ | ⟨c8, h⟩
         ·obtain rfl := Option.some.inj h
          exact call_wQ [.su a2 1, .lF c1, .lF c2, .eF c3, .nt false, .le e_u8 a0.S, .lF c4, .eF c5, .nt false, .le (e_sl e_u8) a0.K, .lF c6, .eT c7, .nt true, .eFo a0.Kind 4 (by omega), .nt false, .eF c5, .nt false, .le e_GValue a0.L, .lT c8] rfl fd_147 (by kernel_rfl)
         ·rcases ite_some h with ⟨c9, h⟩ | ⟨c9, h⟩
          ·obtain rfl := Option.some.inj h
           exact call_wQ [.su a2 1, .lF c1, .lF c2, .eF c3, .nt false, .le e_u8 a0.S, .lF c4, .eF c5, .nt false, .le (e_sl e_u8) a0.K, .lF c6, .eT c7, .nt true, .eFo a0.Kind 4 (by omega), .nt false, .eF c5, .nt false, .le e_GValue a0.L, .lF c8, .eFo a0.Kind 0 (by omega), .eFo a0.Kind 6 (by omega), .eT c7, .lT c9] rfl fd_147 (by kernel_rfl)
          ·rcases ite_some h with ⟨c10, h⟩ | ⟨c10, h⟩
           ·obtain rfl := Option.some.inj h
            exact call_wQ [.su a2 1, .lF c1, .lF c2, .eF c3, .nt false, .le e_u8 a0.S, .lF c4, .eF c5, .nt false, .le (e_sl e_u8) a0.K, .lF c6, .eT c7, .nt true, .eFo a0.Kind 4 (by omega), .nt false, .eF c5, .nt false, .le e_GValue a0.L, .lF c8, .eFo a0.Kind 0 (by omega), .eFo a0.Kind 6 (by omega), .eT c7, .lF c9, .lT c10] rfl fd_147 (by kernel_rfl)
           ·obtain rfl := Option.some.inj h
            exact call_wQ [.su a2 1, .lF c1, .lF c2, .eF c3, .nt false, .le e_u8 a0.S, .lF c4, .eF c5, .nt false, .le (e_sl e_u8) a0.K, .lF c6, .eT c7, .nt true, .eFo a0.Kind 4 (by omega), .nt false, .eF c5, .nt false, .le e_GValue a0.L, .lF c8, .eFo a0.Kind 0 (by omega), .eFo a0.Kind 6 (by omega), .eT c7, .lF c9, .lF c10] rfl fd_147 (by kernel_rfl)
        ·let p29 : List (Q cfg) := [.su a2 1, .lF c1, .lF c2, .eF c3, .nt false]
         rcases ite_some h with ⟨c8, h⟩ | ⟨c8, h⟩
         ·rcases ite_some h with ⟨c9, h⟩ | ⟨c9, h⟩
          ·obtain rfl := Option.some.inj h
           exact call_wQ (p29 ++ [.le e_u8 a0.S, .lF c4, .eF c5, .nt false, .le (e_sl e_u8) a0.K, .lF c6, .eF c7, .nt false, .eT c8, .nt true, .eFo a0.Kind 4 (by omega), .nt false, .eF c5, .nt false, .le e_GValue a0.L, .lT c9]) rfl fd_147 (by kernel_rfl)
          ·obtain ⟨r10, hr10, h⟩ := bs h
           let p30 : List (Q cfg) := p29 ++ [.le e_u8 a0.S, .lF c4, .eF c5, .nt false, .le (e_sl e_u8) a0.K, .lF c6, .eF c7, .nt false, .eT c8, .nt true, .eFo a0.Kind 4 (by omega), .nt false, .eF c5, .nt false, .le e_GValue a0.L, .lF c9, .eFo a0.Kind 0 (by omega), .eFo a0.Kind 6 (by omega), .eF c7, .eT c8, .cl (ok_spec_l2int a0.N _ hr10)]
           cases r10 with
           | true =>
            try dsimp only at h
            obtain rfl := Option.some.inj h
            exact call_wQ (p30 ++ [.nt true]) rfl fd_147 (by kernel_rfl)
           | false =>
            try dsimp only at h
            obtain rfl := Option.some.inj h
            exact call_wQ (p30 ++ [.nt false]) rfl fd_147 (by kernel_rfl)
         ·rcases ite_some h with ⟨c9, h⟩ | ⟨c9, h⟩
          ·rcases ite_some h with ⟨c10, h⟩ | ⟨c10, h⟩
           ·obtain ⟨o11, ho11, h⟩ := bs h
            let p31 : List (Q cfg) := p29 ++ [.le e_u8 a0.S, .lF c4, .eF c5, .nt false, .le (e_sl e_u8) a0.K, .lF c6, .eF c7, .nt false, .eF c8, .nt false, .eT c9, .nt true, .eT c10, .nt true, .eFo a0.Kind 0 (by omega), .eFo a0.Kind 6 (by omega), .eF c7, .eF c8, .eF c3, .eT c10, .eF c5, .lp (gl_spec_l2ok_l0 G_spec_l2ok H_spec_l2ok a1 a0 _ (w64 (a2 - 1)) 0 _ ho11)]
            rcases o11 with o11_0 | ⟨o11_1_0, o11_1_1⟩
            · try dsimp only at h
              obtain rfl := Option.some.inj h
              exact call_wQ p31 rfl fd_147 (by kernel_rfl)
            · try dsimp only at h
              obtain rfl := Option.some.inj h
              exact call_wQ p31 rfl fd_147 (by kernel_rfl)
           ·rcases ite_some h with ⟨c11, h⟩ | ⟨c11, h⟩
            ·obtain rfl := Option.some.inj h
             exact call_wQ (p29 ++ [.le e_u8 a0.S, .lF c4, .eF c5, .nt false, .le (e_sl e_u8) a0.K, .lF c6, .eF c7, .nt false, .eF c8, .nt false, .eT c9, .nt true, .eF c10, .nt false, .eF c5, .nt false, .le e_GValue a0.L, .lT c11]) rfl fd_147 (by kernel_rfl)
            ·rcases ite_some h with ⟨c12, h⟩ | ⟨c12, h⟩
             ·obtain rfl := Option.some.inj h
              exact call_wQ (p29 ++ [.le e_u8 a0.S, .lF c4, .eF c5, .nt false, .le (e_sl e_u8) a0.K, .lF c6, .eF c7, .nt false, .eF c8, .nt false, .eT c9, .nt true, .eF c10, .nt false, .eF c5, .nt false, .le e_GValue a0.L, .lF c11, .eT c12]) rfl fd_147 (by kernel_rfl)
             ·rcases ite_some h with ⟨c13, h⟩ | ⟨c13, h⟩
              ·obtain rfl := Option.some.inj h
               exact call_wQ (p29 ++ [.le e_u8 a0.S, .lF c4, .eF c5, .nt false, .le (e_sl e_u8) a0.K, .lF c6, .eF c7, .nt false, .eF c8, .nt false, .eT c9, .nt true, .eF c10, .nt false, .eF c5, .nt false, .le e_GValue a0.L, .lF c11, .eF c12, .eT c13]) rfl fd_147 (by kernel_rfl)
              ·obtain rfl := Option.some.inj h
               exact call_wQ (p29 ++ [.le e_u8 a0.S, .lF c4, .eF c5, .nt false, .le (e_sl e_u8) a0.K, .lF c6, .eF c7, .nt false, .eF c8, .nt false, .eT c9, .nt true, .eF c10, .nt false, .eF c5, .nt false, .le e_GValue a0.L, .lF c11, .eF c12, .eF c13, .eF c7, .eF c8, .eF c3, .eF c10, .eF c5]) rfl fd_147 (by kernel_rfl)
          ·obtain rfl := Option.some.inj h
           exact call_wQ (p29 ++ [.le e_u8 a0.S, .lF c4, .eF c5, .nt false, .le (e_sl e_u8) a0.K, .lF c6, .eF c7, .nt false, .eF c8, .nt false, .eF c9, .nt false]) rfl fd_147 (by kernel_rfl)
def U_spec_l2ok : Nat → GValue → Int → Int → Option Int
  | 0, _, _, _ => none
  | n + 1, a0, a1, a2 => T_spec_l2ok (U_spec_l2ok n) n a0 a1 a2
theorem rec_spec_l2ok (n : Nat) : (∀ (a0 : GValue) (a1 : Int) (a2 : Int) (r : Int), U_spec_l2ok n a0 a1 a2 = some r → (mach cfg).call 147 [] [.val true [.int .i64 a0.Kind, .int .i64 a0.N, .seq (eL e_u8 a0.S), .seq (eL (e_sl e_u8) a0.K), .seq (eL e_GValue a0.L)], .val false [.int .i64 a1], .val false [.int .i64 a2]] = some (.val false [.int .i64 r], [])) := by
  induction n with
  | zero => exact fun _ _ _ _ h => (by rw [U_spec_l2ok] at h; cases h)
  | succ n ih =>
    have ih_spec_l2ok := ih
    exact fun a0 a1 a2 r h => g_spec_l2ok (U_spec_l2ok n) ih_spec_l2ok n a0 a1 a2 r (by rw [U_spec_l2ok] at h; exact h)
def okV (d : Nat) (left : Int) (v : GValue) : Int := if shV d v = true ∧ (ptV v : Int) <= left then left - ptV v else -1
theorem nameOk_eq {a : List UInt8} (h : a.length <= 2 ^ 20) : S_spec_NameOk a = some (nameB a) := if_pos h
theorem l2text_eq {a : List UInt8} (h : a.length <= 2 ^ 20) : S_spec_l2text a = some (textB a) := if_pos h
theorem l2int_eq (n : Int) : S_spec_l2int n = some (decide (-1000000000000 <= n ∧ n <= 1000000000000)) := by
  unfold S_spec_l2int
  by_cases h : (-1000000000000 : Int) <= n
  · rw [if_pos h]; simp [h]
  · rw [if_neg h]; simp [h]
theorem l2ok_loop {G : GValue → Int → Int → Option Int} {v : GValue} {dd : Nat} {deep : Int} (hdd : deep + dd = 5) (h1d : 1 <= deep) (hs : vsz v <= 2 ^ 20) (hk : v.Kind = 4 ∨ (v.Kind = 5 ∧ v.K.length = v.L.length))
    (hG : ∀ x ∈ v.L, ∀ r : Int, 0 <= r → r <= 40 → G x (deep + 1) r = some (okV dd r x)) : ∀ (d i m : Nat) (r : Int), i + d = v.L.length → d < m → 0 <= r → r <= 40 →
    ∃ z, L_spec_l2ok_l0 G deep v m r (i : Int) = some (if ((v.Kind = 5 → kAll v.K i d = true) ∧ (v.L.drop i).all (shV dd) = true) ∧ (ptVs (v.L.drop i) : Int) <= r then .inr (r - ptVs (v.L.drop i), z) else .inl (-1)) := by
  have he := vsz_eq v
  have hl := vszs_len v.L
  intro d
  induction d with
  | zero =>
    intro i m r hi hm h0 h1
    obtain ⟨m, rfl, _⟩ := fuel hm
    refine ⟨(i : Int), ?_⟩
    rw [L_spec_l2ok_l0, if_neg (by omega), List.drop_eq_nil_of_le (by omega), if_pos ⟨⟨fun _ => rfl, rfl⟩, by simpa [ptVs] using h0⟩]
    simp [ptVs]
  | succ d ih =>
    intro i m r hi hm h0 h1
    obtain ⟨m, rfl, hm'⟩ := fuel hm
    have hil : i < v.L.length := by omega
    have hp : ptVs (v.L.drop i) = ptV v.L[i] + ptVs (v.L.drop (i + 1)) := by rw [drop_cons hil]; simp only [ptVs]
    have ha : (v.L.drop i).all (shV dd) = (shV dd v.L[i] && (v.L.drop (i + 1)).all (shV dd)) := by rw [drop_cons hil, List.all_cons]
    have hd1 : w64 (deep + 1) = deep + 1 := w64_id (by omega) (by omega)
    have tail : (v.Kind = 5 → kOk v.K i = true) → ∃ z, ((G v.L[i] (w64 (deep + 1)) r).bind fun r12 => if r12 < 0 then some (.inl (-1)) else L_spec_l2ok_l0 G deep v m r12 (w64 ((i : Int) + 1))) =
        some (if ((v.Kind = 5 → kAll v.K i (d + 1) = true) ∧ (v.L.drop i).all (shV dd) = true) ∧ (ptVs (v.L.drop i) : Int) <= r then .inr (r - ptVs (v.L.drop i), z) else .inl (-1)) := by
      intro hki
      rw [hd1, hG _ (List.getElem_mem hil) r h0 h1, Option.bind_some, w64_succ (by omega), hp, ha]
      unfold okV
      by_cases hc : shV dd v.L[i] = true ∧ (ptV v.L[i] : Int) <= r
      · rw [if_pos hc, if_neg (by omega)]
        obtain ⟨z, hz⟩ := ih (i + 1) m (r - ptV v.L[i]) (by omega) (by omega) (by omega) (by omega)
        refine ⟨z, ?_⟩
        rw [hz, hc.1, Bool.true_and]
        have hcond : (((v.Kind = 5 → kAll v.K (i + 1) d = true) ∧ (v.L.drop (i + 1)).all (shV dd) = true) ∧ (ptVs (v.L.drop (i + 1)) : Int) <= r - ptV v.L[i]) ↔
            (((v.Kind = 5 → kAll v.K i (d + 1) = true) ∧ (v.L.drop (i + 1)).all (shV dd) = true) ∧ ((ptV v.L[i] + ptVs (v.L.drop (i + 1)) : Nat) : Int) <= r) := by
          have hka : (v.Kind = 5 → kAll v.K (i + 1) d = true) ↔ (v.Kind = 5 → kAll v.K i (d + 1) = true) := by
            constructor
            · intro h hk; rw [kAll_succ, hki hk, h hk]; rfl
            · intro h hk; have := h hk; rw [kAll_succ, hki hk, Bool.true_and] at this; exact this
          rw [hka]
          constructor
          · rintro ⟨h1, h2⟩; exact ⟨h1, by omega⟩
          · rintro ⟨h1, h2⟩; exact ⟨h1, by omega⟩
        by_cases hd : ((v.Kind = 5 → kAll v.K (i + 1) d = true) ∧ (v.L.drop (i + 1)).all (shV dd) = true) ∧ (ptVs (v.L.drop (i + 1)) : Int) <= r - ptV v.L[i]
        · rw [if_pos hd, if_pos (hcond.1 hd)]; congr 3; omega
        · rw [if_neg hd, if_neg (fun h => hd (hcond.2 h))]
      · refine ⟨0, ?_⟩
        rw [if_neg hc, if_pos (by omega), if_neg]
        rintro ⟨⟨_, h2⟩, h3⟩
        rw [Bool.and_eq_true] at h2
        exact hc ⟨h2.1, by omega⟩
    have bad : v.Kind = 5 → kOk v.K i = false → ∃ z, (some (.inl (-1)) : Option (Int ⊕ (Int × Int))) = some (if ((v.Kind = 5 → kAll v.K i (d + 1) = true) ∧ (v.L.drop i).all (shV dd) = true) ∧ (ptVs (v.L.drop i) : Int) <= r then .inr (r - ptVs (v.L.drop i), z) else .inl (-1)) := by
      intro hk hki
      refine ⟨0, ?_⟩
      rw [if_neg]
      rintro ⟨⟨h1, _⟩, _⟩
      have := h1 hk
      rw [kAll_succ, hki] at this
      cases this
    rw [L_spec_l2ok_l0, if_pos (by omega)]
    rcases hk with hk | ⟨hk, hkl⟩
    · rw [if_neg (by omega), natO_nat, Option.bind_some, get_some hil, Option.bind_some]
      exact tail fun h => by omega
    · have hik : i < v.K.length := by omega
      have hx := bsz_mem (List.getElem_mem hik)
      rw [if_pos hk, natO_nat, Option.bind_some, get_some hik, Option.bind_some, nameOk_eq (by omega), Option.bind_some]
      cases hnm : nameB v.K[i] with
      | false =>
        dsimp only
        refine bad hk ?_
        by_cases h0 : i = 0
        · subst h0; rw [kOk_zero hik, hnm]
        · rw [kOk_eq hik (by omega), hnm]; rfl
      | true =>
        dsimp only
        by_cases h0 : 0 < i
        · rw [if_pos (by omega), w64_pred (by omega) h0, natO_nat, Option.bind_some, get_some (show i - 1 < v.K.length by omega), Option.bind_some]
          by_cases hb : Op.bytesLess (v.K[i - 1]'(by omega)) v.K[i] = true
          · rw [if_pos hb, get_some hil, Option.bind_some]
            exact tail fun _ => by rw [kOk_eq hik h0, hnm, hb]; rfl
          · rw [if_neg hb]
            refine bad hk ?_
            rw [kOk_eq hik h0, hnm]; simpa using hb
        · have : i = 0 := by omega
          subst this
          rw [if_neg (by omega), get_some hil, Option.bind_some]
          exact tail fun _ => by rw [kOk_zero hik, hnm]
theorem l2ok_T {G : GValue → Int → Int → Option Int} {v : GValue} {f dd : Nat} {deep left : Int} (hdd : deep + dd = 5 ∨ (deep = 6 ∧ dd = 0)) (h1d : 1 <= deep) (hs : vsz v <= 2 ^ 20) (hf : v.L.length < f) (h0 : 0 <= left) (h1 : left <= 40)
    (hG : deep <= 5 → ∀ x ∈ v.L, ∀ r : Int, 0 <= r → r <= 40 → G x (deep + 1) r = some (okV dd r x)) : T_spec_l2ok G f v deep left = some (okV (if deep <= 5 then dd + 1 else 0) left v) := by
  have he := vsz_eq v
  have hl := vszs_len v.L
  have hpt := ptV_eq v
  have hpl := ptVs_len v.L
  unfold T_spec_l2ok
  rw [w64_id (by omega) (by omega)]
  by_cases hleft : left - 1 < 0
  · rw [if_pos hleft]
    unfold okV; rw [if_neg (by rintro ⟨_, h⟩; omega)]
  rw [if_neg hleft]
  by_cases hdeep : 5 < deep
  · rw [if_pos hdeep, if_neg (show ¬ deep <= 5 by omega)]
    unfold okV; rw [if_neg (by rintro ⟨h, _⟩; simp [shV] at h)]
  rw [if_neg hdeep, if_pos (show deep <= 5 by omega)]
  have hdd : deep + dd = 5 := by omega
  have hG := hG (by omega)
  unfold okV
  simp only [shV]
  have fin0 : v.L.length = 0 → (v.L.all (shV dd) = true ∧ ptV v = 1) := fun h => by
    have : v.L = [] := List.eq_nil_of_length_eq_zero h
    rw [hpt, this]; exact ⟨rfl, rfl⟩
  have yes : locV v = true → v.L.length = 0 → some (left - 1) = some (if (locV v && v.L.all (shV dd)) = true ∧ (ptV v : Int) <= left then left - ptV v else -1) := fun h1 h2 => by
    obtain ⟨a1, a2⟩ := fin0 h2
    rw [h1, a1, a2, if_pos ⟨rfl, by omega⟩]; rfl
  have no : locV v = false → some (-1) = some (if (locV v && v.L.all (shV dd)) = true ∧ (ptV v : Int) <= left then left - ptV v else -1) := fun h1 => by
    rw [h1, if_neg (by rintro ⟨h, _⟩; cases h)]
  have lp : v.Kind = 4 ∨ (v.Kind = 5 ∧ v.K.length = v.L.length) → (∀ b : Bool, v.L.length <= 40 → ((v.Kind = 5 → kAll v.K 0 v.L.length = true) ↔ b = true) → locV v = b) → ((L_spec_l2ok_l0 G deep v f (left - 1) 0).bind fun o8 => match o8 with | .inl o8_0 => some o8_0 | .inr (⟨o8_1_0, o8_1_1⟩) => some o8_1_0) =
      some (if (locV v && v.L.all (shV dd)) = true ∧ (ptV v : Int) <= left then left - ptV v else -1) := fun hk hloc => by
    obtain ⟨z, hz⟩ := l2ok_loop (G := G) hdd h1d hs hk hG v.L.length 0 f (left - 1) (by omega) (by omega) (by omega) (by omega)
    rw [show ((0 : Nat) : Int) = 0 from rfl, List.drop_zero] at hz
    rw [hz, Option.bind_some]
    by_cases hc : ((v.Kind = 5 → kAll v.K 0 v.L.length = true) ∧ v.L.all (shV dd) = true) ∧ (ptVs v.L : Int) <= left - 1
    · rw [if_pos hc]
      have h40 : v.L.length <= 40 := by omega
      have := hloc true h40 ⟨fun _ => rfl, fun _ => hc.1.1⟩
      rw [this, hc.1.2, if_pos ⟨rfl, by omega⟩, hpt]
      dsimp only
      congr 1; omega
    · rw [if_neg hc, if_neg]
      rintro ⟨h2, h3⟩
      rw [Bool.and_eq_true] at h2
      refine hc ⟨⟨?_, h2.2⟩, by omega⟩
      by_cases h40 : v.L.length <= 40
      · by_cases hb : (v.Kind = 5 → kAll v.K 0 v.L.length = true)
        · exact hb
        · have := hloc false h40 ⟨fun h => (hb h).elim, fun h => by cases h⟩
          rw [this] at h2; cases h2.1
      · omega
  have hloc : ∀ k, v.Kind = k → locV v = (if k = 0 ∨ k = 6 then decide (v.N = 0 ∧ v.S.length = 0 ∧ v.K.length = 0 ∧ v.L.length = 0)
      else if k = 1 then decide ((0 <= v.N ∧ v.N <= 1) ∧ v.S.length = 0 ∧ v.K.length = 0 ∧ v.L.length = 0)
      else if k = 2 then decide ((-1000000000000 <= v.N ∧ v.N <= 1000000000000) ∧ v.S.length = 0 ∧ v.K.length = 0 ∧ v.L.length = 0)
      else if k = 3 then textB v.S && decide (v.N = 0 ∧ v.K.length = 0 ∧ v.L.length = 0)
      else if k = 4 then decide (v.N = 0 ∧ v.S.length = 0 ∧ v.K.length = 0 ∧ v.L.length <= 40)
      else if k = 5 then decide (v.K.length = v.L.length ∧ v.N = 0 ∧ v.S.length = 0 ∧ v.L.length <= 40) && kAll v.K 0 v.K.length
      else false) := fun k hk => by unfold locV; rw [hk]
  by_cases k3 : v.Kind = 3
  · have hv := hloc 3 k3
    simp only [show ¬ ((3 : Int) = 0 ∨ (3 : Int) = 6) by omega, if_false, show ¬ ((3 : Int) = 1) by omega, show ¬ ((3 : Int) = 2) by omega, if_true] at hv
    rw [if_pos k3]
    by_cases a1 : 0 < ((v.K.length : Nat) : Int)
    · rw [if_pos a1]; exact no (by rw [hv, decide_eq_false (by omega)]; simp)
    · rw [if_neg a1]
      by_cases a2 : v.N = 0
      · rw [if_pos a2]
        by_cases a3 : 0 < ((v.L.length : Nat) : Int)
        · rw [if_pos a3]; exact no (by rw [hv, decide_eq_false (by omega)]; simp)
        · rw [if_neg a3, l2text_eq (by omega), Option.bind_some]
          rw [decide_eq_true (by omega), Bool.and_true] at hv
          cases ht : textB v.S with
          | true => exact yes (by rw [hv, ht]) (by omega)
          | false => exact no (by rw [hv, ht])
      · rw [if_neg a2]; exact no (by rw [hv, decide_eq_false (by omega)]; simp)
  rw [if_neg k3]
  by_cases hS : 0 < ((v.S.length : Nat) : Int)
  · rw [if_pos hS]
    refine no ?_
    unfold locV
    simp only [k3, if_false]
    repeat' split
    all_goals first | rfl | (rw [decide_eq_false (by omega)]; try rfl)
  rw [if_neg hS]
  by_cases k5 : v.Kind = 5
  · have hv := hloc 5 k5
    simp only [show ¬ ((5 : Int) = 0 ∨ (5 : Int) = 6) by omega, if_false, show ¬ ((5 : Int) = 1) by omega, show ¬ ((5 : Int) = 2) by omega, show ¬ ((5 : Int) = 3) by omega, show ¬ ((5 : Int) = 4) by omega, if_true] at hv
    rw [if_pos k5]
    by_cases a2 : v.N = 0
    · rw [if_pos a2]
      by_cases a3 : ((v.K.length : Nat) : Int) = ((v.L.length : Nat) : Int)
      · rw [if_pos a3]
        refine lp (.inr ⟨k5, by omega⟩) fun b h40 hb => ?_
        rw [hv, decide_eq_true (by omega), Bool.true_and, show v.K.length = v.L.length by omega, Bool.eq_iff_iff, <- hb]
        exact ⟨fun h _ => h, fun h => h k5⟩
      · rw [if_neg a3]; exact no (by rw [hv, decide_eq_false (by omega)]; rfl)
    · rw [if_neg a2]; exact no (by rw [hv, decide_eq_false (by omega)]; rfl)
  rw [if_neg k5]
  by_cases hK : 0 < ((v.K.length : Nat) : Int)
  · rw [if_pos hK]
    refine no ?_
    unfold locV
    simp only [k3, k5, if_false]
    repeat' split
    all_goals first | rfl | (rw [decide_eq_false (by omega)]; try rfl)
  rw [if_neg hK]
  by_cases k1 : v.Kind = 1
  · have hv := hloc 1 k1
    simp only [show ¬ ((1 : Int) = 0 ∨ (1 : Int) = 6) by omega, if_false, if_true] at hv
    rw [if_pos k1]
    by_cases a3 : 0 < ((v.L.length : Nat) : Int)
    · rw [if_pos a3]; exact no (by rw [hv, decide_eq_false (by omega)])
    · rw [if_neg a3]
      by_cases a4 : v.N < 0
      · rw [if_pos a4]; exact no (by rw [hv, decide_eq_false (by omega)])
      · rw [if_neg a4]
        by_cases a5 : 1 < v.N
        · rw [if_pos a5]; exact no (by rw [hv, decide_eq_false (by omega)])
        · rw [if_neg a5]; exact yes (by rw [hv, decide_eq_true (by omega)]) (by omega)
  rw [if_neg k1]
  by_cases k2 : v.Kind = 2
  · have hv := hloc 2 k2
    simp only [show ¬ ((2 : Int) = 0 ∨ (2 : Int) = 6) by omega, if_false, show ¬ ((2 : Int) = 1) by omega, if_true] at hv
    rw [if_pos k2]
    by_cases a3 : 0 < ((v.L.length : Nat) : Int)
    · rw [if_pos a3]; exact no (by rw [hv, decide_eq_false (by omega)])
    · rw [if_neg a3, l2int_eq, Option.bind_some]
      by_cases a4 : -1000000000000 <= v.N ∧ v.N <= 1000000000000
      · rw [decide_eq_true a4]; exact yes (by rw [hv, decide_eq_true (by omega)]) (by omega)
      · rw [decide_eq_false a4]; exact no (by rw [hv, decide_eq_false (by omega)])
  rw [if_neg k2]
  by_cases a2 : v.N = 0
  · rw [if_pos a2]
    by_cases k4 : v.Kind = 4
    · have hv := hloc 4 k4
      simp only [show ¬ ((4 : Int) = 0 ∨ (4 : Int) = 6) by omega, if_false, show ¬ ((4 : Int) = 1) by omega, show ¬ ((4 : Int) = 2) by omega, show ¬ ((4 : Int) = 3) by omega, if_true] at hv
      rw [if_pos k4]
      refine lp (.inl k4) fun b h40 hb => ?_
      rw [hv, decide_eq_true (by omega)]
      exact (hb.1 fun h => by omega).symm
    · rw [if_neg k4]
      by_cases a3 : 0 < ((v.L.length : Nat) : Int)
      · rw [if_pos a3]
        refine no ?_
        unfold locV
        simp only [k1, k2, k3, k4, k5, if_false]
        repeat' split
        all_goals first | rfl | (rw [decide_eq_false (by omega)])
      · rw [if_neg a3]
        by_cases k0 : v.Kind = 0
        · rw [if_pos k0]; exact yes (by unfold locV; rw [if_pos (.inl k0), decide_eq_true (by omega)]) (by omega)
        · rw [if_neg k0]
          by_cases k6 : v.Kind = 6
          · rw [if_pos k6]; exact yes (by unfold locV; rw [if_pos (.inr k6), decide_eq_true (by omega)]) (by omega)
          · rw [if_neg k6]
            exact no (by unfold locV; simp only [k0, k1, k2, k3, k4, k5, k6, or_self, if_false])
  · rw [if_neg a2]
    refine no ?_
    unfold locV
    simp only [k1, k2, k3, k5, if_false]
    repeat' split
    all_goals first | rfl | (rw [decide_eq_false (by omega)])
theorem l2ok_U : ∀ (N : Nat) (v : GValue), vsz v < N → vsz v <= 2 ^ 20 → ∀ (f : Nat) (deep left : Int), vsz v + 2 <= f → 1 <= deep → deep <= 6 → 0 <= left → left <= 40 → U_spec_l2ok f v deep left = some (okV (6 - deep).toNat left v) := by
  intro N
  induction N with
  | zero => intro v hv; omega
  | succ N ih =>
    intro v hv hs f deep left hf h1 h2 h3 h4
    obtain ⟨f, rfl, _⟩ := fuel (show 0 < f by omega)
    have he := vsz_eq v
    have hl := vszs_len v.L
    rw [U_spec_l2ok]
    have := l2ok_T (G := U_spec_l2ok f) (f := f) (dd := (5 - deep).toNat) (deep := deep) (left := left) (by omega) h1 hs (by omega) h3 h4 fun hd x hx r g0 g1 => by
      have hm := vszs_mem hx
      have := ih x (by omega) (by omega) f (deep + 1) r (by omega) (by omega) (by omega) g0 g1
      rw [show (6 - (deep + 1)).toNat = (5 - deep).toNat by omega] at this
      exact this
    rw [this]
    congr 2
    by_cases hd : deep <= 5
    · rw [if_pos hd]; omega
    · rw [if_neg hd]; omega
def S_spec_l2ok (a0 : GValue) (a1 : Int) (a2 : Int) : Option Int := if vsz a0 <= 2 ^ 20 ∧ (1 <= a1 ∧ a1 <= 6) ∧ 0 <= a2 ∧ a2 <= 40 then some (okV (6 - a1).toNat a2 a0) else none
theorem spec_spec_l2ok (a0 : GValue) (a1 : Int) (a2 : Int) (r : Int) (h : S_spec_l2ok a0 a1 a2 = some r) : ∃ n, U_spec_l2ok n a0 a1 a2 = some r := by
  unfold S_spec_l2ok at h
  obtain ⟨⟨hs, ⟨h1, h2⟩, h3, h4⟩, h⟩ := need_c h
  exact ⟨vsz a0 + 2, by rw [<- h]; exact l2ok_U _ a0 (Nat.lt_succ_self _) hs _ a1 a2 (Nat.le_refl _) h1 h2 h3 h4⟩
theorem ok_spec_l2ok (a0 : GValue) (a1 : Int) (a2 : Int) (r : Int) (h : S_spec_l2ok a0 a1 a2 = some r) : (mach cfg).call 147 [] [.val true [.int .i64 a0.Kind, .int .i64 a0.N, .seq (eL e_u8 a0.S), .seq (eL (e_sl e_u8) a0.K), .seq (eL e_GValue a0.L)], .val false [.int .i64 a1], .val false [.int .i64 a2]] = some (.val false [.int .i64 r], []) := by
  obtain ⟨n, hn⟩ := spec_spec_l2ok a0 a1 a2 r h
  exact (rec_spec_l2ok n) a0 a1 a2 r hn
def S_spec_ValOk (a0 : GValue) : Option Bool :=
  (S_spec_l2ok a0 1 40).bind fun r1 =>
  some (decide (0 <= r1))
set_option maxRecDepth 100000 in
theorem fd_107 : cfg.funcs 107 = some (bodyOf Tryz.f107, Tryz.f107.ntmps, Tryz.f107.results.toList) := fn_of Tryz.func107 (by kernel_rfl) (by kernel_rfl)
theorem ok_spec_ValOk (a0 : GValue) (r : Bool) (h : S_spec_ValOk a0 = some r) : (mach cfg).call 107 [] [.val true [.int .i64 a0.Kind, .int .i64 a0.N, .seq (eL e_u8 a0.S), .seq (eL (e_sl e_u8) a0.K), .seq (eL e_GValue a0.L)]] = some (.val false [.bool r], []) := by
  unfold S_spec_ValOk at h
  obtain ⟨r1, hr1, h⟩ := bs h
  obtain rfl := Option.some.inj h
  exact call_wQ [.cl (ok_spec_l2ok a0 1 40 _ hr1), .gD 0 r1] rfl fd_107 (by kernel_rfl)
def L_spec_l2known_l0 (G_spec_l2known : GValue → Option Bool) (a0 : GValue) : Nat → Int → Option (Bool ⊕ Int)
  | 0, _ => none
  | m + 1, v0 =>
    if v0 < ((a0.L.length : Nat) : Int) then
      (natO v0).bind fun i2 =>
      (a0.L[i2]?).bind fun x3 =>
      (G_spec_l2known x3).bind fun r4 =>
      match r4 with
      | true =>
        L_spec_l2known_l0 G_spec_l2known a0 m (w64 (v0 + 1))
      | false =>
        some (.inl false)
    else
      some (.inr v0)
theorem gl_spec_l2known_l0 (G_spec_l2known : GValue → Option Bool) (H_spec_l2known : ∀ (a0 : GValue) (r : Bool), G_spec_l2known a0 = some r → (mach cfg).call 108 [] [.val true [.int .i64 a0.Kind, .int .i64 a0.N, .seq (eL e_u8 a0.S), .seq (eL (e_sl e_u8) a0.K), .seq (eL e_GValue a0.L)]] = some (.val false [.bool r], [])) (a0 : GValue) (m : Nat) : ∀ (v0 : Int) (o : (Bool ⊕ Int)), L_spec_l2known_l0 G_spec_l2known a0 m v0 = some o → (mach cfg).loop 108 (loopB Tryz.f108 0) ⟨[(1, .val false [.ptr 0 0]), (3, .val false [.int .i64 v0])], [.var [.int .i64 a0.Kind, .int .i64 a0.N, .seq (eL e_u8 a0.S), .seq (eL (e_sl e_u8) a0.K), .seq (eL e_GValue a0.L)]], 0⟩ = some (match o with | .inl o_0 => (.ret, (⟨[(2, .val false [.bool o_0])], [], 0⟩ : S)) | .inr (o_1) => (.exit 0, (⟨[(1, .val false [.ptr 0 0]), (3, .val false [.int .i64 o_1]), (11, .val false [.bool false])], [.var [.int .i64 a0.Kind, .int .i64 a0.N, .seq (eL e_u8 a0.S), .seq (eL (e_sl e_u8) a0.K), .seq (eL e_GValue a0.L)]], 0⟩ : S))) := by
  induction m with
  | zero => intro v0 o h; cases h
  | succ m ih =>
    intro v0 o h
    rw [L_spec_l2known_l0] at h
    rcases ite_some h with ⟨c1, h⟩ | ⟨c1, h⟩
    ·obtain ⟨i2, hi2, h⟩ := bs h
     obtain ⟨x3, hx3, h⟩ := bs h
     obtain ⟨r4, hr4, h⟩ := bs h
     let p32 : List (Q cfg) := [.le e_GValue a0.L, .lT c1, .na hi2, .ix hx3 (eq_GValue x3), .cl (H_spec_l2known x3 _ hr4)]
     cases r4 with
     | true =>
      try dsimp only at h
      exact loop_nQ (p32 ++ [.nt true, .ad v0 1]) (by kernel_rfl) (ih (w64 (v0 + 1)) o h)
     | false =>
      try dsimp only at h
      obtain rfl := Option.some.inj h
      exact loop_eQ (p32 ++ [.nt false]) (by kernel_rfl) (by intro h; cases h)
    ·obtain rfl := Option.some.inj h
     exact loop_eQ [.le e_GValue a0.L, .lF c1] (by kernel_rfl) (by intro h; cases h)
def T_spec_l2known (G_spec_l2known : GValue → Option Bool) (n : Nat) (a0 : GValue) : Option Bool :=
  if a0.Kind = 6 then
    some false
  else
    (L_spec_l2known_l0 G_spec_l2known a0 n 0).bind fun o2 =>
    match o2 with
    | .inl o2_0 =>
      some o2_0
    | .inr (o2_1) =>
      some true
set_option maxRecDepth 100000 in
theorem fd_108 : cfg.funcs 108 = some (bodyOf Tryz.f108, Tryz.f108.ntmps, Tryz.f108.results.toList) := fn_of Tryz.func108 (by kernel_rfl) (by kernel_rfl)
theorem g_spec_l2known (G_spec_l2known : GValue → Option Bool) (H_spec_l2known : ∀ (a0 : GValue) (r : Bool), G_spec_l2known a0 = some r → (mach cfg).call 108 [] [.val true [.int .i64 a0.Kind, .int .i64 a0.N, .seq (eL e_u8 a0.S), .seq (eL (e_sl e_u8) a0.K), .seq (eL e_GValue a0.L)]] = some (.val false [.bool r], [])) (n : Nat) (a0 : GValue) (r : Bool) (h : T_spec_l2known G_spec_l2known n a0 = some r) : (mach cfg).call 108 [] [.val true [.int .i64 a0.Kind, .int .i64 a0.N, .seq (eL e_u8 a0.S), .seq (eL (e_sl e_u8) a0.K), .seq (eL e_GValue a0.L)]] = some (.val false [.bool r], []) := by
  unfold T_spec_l2known at h
  rcases ite_some h with ⟨c1, h⟩ | ⟨c1, h⟩
  ·obtain rfl := Option.some.inj h
   exact call_wQ [.eT c1] rfl fd_108 (by kernel_rfl)
  ·obtain ⟨o2, ho2, h⟩ := bs h
   rcases o2 with o2_0 | o2_1
   · try dsimp only at h
     obtain rfl := Option.some.inj h
     exact call_wQ [.eF c1, .lp (gl_spec_l2known_l0 G_spec_l2known H_spec_l2known a0 _ 0 _ ho2)] rfl fd_108 (by kernel_rfl)
   · try dsimp only at h
     obtain rfl := Option.some.inj h
     exact call_wQ [.eF c1, .lp (gl_spec_l2known_l0 G_spec_l2known H_spec_l2known a0 _ 0 _ ho2)] rfl fd_108 (by kernel_rfl)
def U_spec_l2known : Nat → GValue → Option Bool
  | 0, _ => none
  | n + 1, a0 => T_spec_l2known (U_spec_l2known n) n a0
theorem rec_spec_l2known (n : Nat) : (∀ (a0 : GValue) (r : Bool), U_spec_l2known n a0 = some r → (mach cfg).call 108 [] [.val true [.int .i64 a0.Kind, .int .i64 a0.N, .seq (eL e_u8 a0.S), .seq (eL (e_sl e_u8) a0.K), .seq (eL e_GValue a0.L)]] = some (.val false [.bool r], [])) := by
  induction n with
  | zero => exact fun _ _ h => (by rw [U_spec_l2known] at h; cases h)
  | succ n ih =>
    have ih_spec_l2known := ih
    exact fun a0 r h => g_spec_l2known (U_spec_l2known n) ih_spec_l2known n a0 r (by rw [U_spec_l2known] at h; exact h)
theorem l2known_loop {G : GValue → Option Bool} {v : GValue} (ha : v.L.length <= 2 ^ 40) (hG : ∀ x ∈ v.L, G x = some (knV x)) : ∀ (l p : List GValue) (m : Nat), v.L = p ++ l → l.length < m → ∃ z, L_spec_l2known_l0 G v m ((p.length : Nat) : Int) = some (if knVs l = true then .inr z else .inl false) := by
  intro l
  induction l with
  | nil =>
    intro p m he hm
    obtain ⟨m, rfl, _⟩ := fuel hm
    exact ⟨_, by rw [L_spec_l2known_l0, if_neg (by rw [he]; exact nlt_end p)]; rfl⟩
  | cons x l ih =>
    intro p m he hm
    obtain ⟨m, rfl, hm'⟩ := fuel hm
    have hlen : v.L.length = p.length + (l.length + 1) := by rw [he]; simp
    rw [L_spec_l2known_l0, if_pos (by omega), natO_nat, Option.bind_some, show v.L[p.length]? = some x by rw [he]; exact get_mid p x l, Option.bind_some, hG x (by rw [he]; simp), Option.bind_some, knVs]
    cases hx : knV x with
    | true =>
      dsimp only
      rw [w64_len p x (by omega), Bool.true_and]
      exact ih (p ++ [x]) m (by rw [he]; simp) (by simp only [List.length_cons] at hm'; omega)
    | false => exact ⟨0, rfl⟩
theorem l2known_U : ∀ (N : Nat) (v : GValue), vsz v < N → vsz v <= 2 ^ 39 → ∀ f, vsz v + 2 <= f → U_spec_l2known f v = some (knV v) := by
  intro N
  induction N with
  | zero => intro v hv; omega
  | succ N ih =>
    intro v hv hs f hf
    have he := vsz_eq v
    have hl := vszs_len v.L
    obtain ⟨f, rfl, _⟩ := fuel (show 0 < f by omega)
    rw [U_spec_l2known]
    unfold T_spec_l2known
    rw [knV_eq]
    by_cases h6 : v.Kind = 6
    · rw [if_pos h6, h6]; rfl
    · rw [if_neg h6]
      obtain ⟨z, hz⟩ := l2known_loop (G := U_spec_l2known f) (v := v) (by omega) (fun x hx => by
        have := vszs_mem hx
        exact ih x (by omega) (by omega) f (by omega)) v.L [] f rfl (by omega)
      simp only [List.length_nil, Int.natCast_zero] at hz
      rw [hz, Option.bind_some, decide_eq_true h6, Bool.true_and]
      cases knVs v.L <;> rfl
def S_spec_l2known (a0 : GValue) : Option Bool := if vsz a0 <= 2 ^ 39 then some (knV a0) else none
theorem spec_spec_l2known (a0 : GValue) (r : Bool) (h : S_spec_l2known a0 = some r) : ∃ n, U_spec_l2known n a0 = some r := by
  unfold S_spec_l2known at h
  obtain ⟨ha, h⟩ := need_c h
  exact ⟨vsz a0 + 2, by rw [<- h]; exact l2known_U _ a0 (Nat.lt_succ_self _) ha _ (Nat.le_refl _)⟩
theorem ok_spec_l2known (a0 : GValue) (r : Bool) (h : S_spec_l2known a0 = some r) : (mach cfg).call 108 [] [.val true [.int .i64 a0.Kind, .int .i64 a0.N, .seq (eL e_u8 a0.S), .seq (eL (e_sl e_u8) a0.K), .seq (eL e_GValue a0.L)]] = some (.val false [.bool r], []) := by
  obtain ⟨n, hn⟩ := spec_spec_l2known a0 r h
  exact (rec_spec_l2known n) a0 r hn
def S_spec_l4map (a0 : GValue) : Option Bool :=
  if a0.Kind = 5 then
    (S_spec_ValOk a0).bind fun r2 =>
    match r2 with
    | true =>
      (S_spec_l2known a0).bind fun r4 =>
      some r4
    | false =>
      some false
  else
    some false
set_option maxRecDepth 100000 in
theorem fd_63 : cfg.funcs 63 = some (bodyOf Tryz.f63, Tryz.f63.ntmps, Tryz.f63.results.toList) := fn_of Tryz.func63 (by kernel_rfl) (by kernel_rfl)
theorem ok_spec_l4map (a0 : GValue) (r : Bool) (h : S_spec_l4map a0 = some r) : (mach cfg).call 63 [] [.val true [.int .i64 a0.Kind, .int .i64 a0.N, .seq (eL e_u8 a0.S), .seq (eL (e_sl e_u8) a0.K), .seq (eL e_GValue a0.L)]] = some (.val false [.bool r], []) := by
  unfold S_spec_l4map at h
  rcases ite_some h with ⟨c1, h⟩ | ⟨c1, h⟩
  ·obtain ⟨r2, hr2, h⟩ := bs h
   cases r2 with
   | true =>
    try dsimp only at h
    obtain ⟨r4, hr4, h⟩ := bs h
    obtain rfl := Option.some.inj h
    exact call_wQ [.eT c1, .cl (ok_spec_ValOk a0 _ hr2), .cl (ok_spec_l2known a0 _ hr4)] rfl fd_63 (by kernel_rfl)
   | false =>
    try dsimp only at h
    obtain rfl := Option.some.inj h
    exact call_wQ [.eT c1, .cl (ok_spec_ValOk a0 _ hr2)] rfl fd_63 (by kernel_rfl)
  ·obtain rfl := Option.some.inj h
   exact call_wQ [.eF c1] rfl fd_63 (by kernel_rfl)
def L_spec_l4addrs_l0 (a0 : (List (List UInt8))) : Nat → Int → Option (Bool ⊕ Int)
  | 0, _ => none
  | m + 1, v1 =>
    if v1 < ((a0.length : Nat) : Int) then
      (natO v1).bind fun i2 =>
      (a0[i2]?).bind fun x3 =>
      (S_spec_AddrOk x3).bind fun r4 =>
      match r4 with
      | true =>
        if 0 < v1 then
          (natO (w64 (v1 - 1))).bind fun i7 =>
          (a0[i7]?).bind fun x8 =>
          if Op.bytesLess x8 x3 = true then
            L_spec_l4addrs_l0 a0 m (w64 (v1 + 1))
          else
            some (.inl false)
        else
          L_spec_l4addrs_l0 a0 m (w64 (v1 + 1))
      | false =>
        some (.inl false)
    else
      some (.inr v1)
theorem gl_spec_l4addrs_l0 (a0 : (List (List UInt8))) (m : Nat) : ∀ (v1 : Int) (o : (Bool ⊕ Int)), L_spec_l4addrs_l0 a0 m v1 = some o → (mach cfg).loop 64 (loopB Tryz.f64 0) ⟨[(0, .val false [.seq (eL (e_sl e_u8) a0)]), (3, .val false [.int .i64 v1])], [], 0⟩ = some (match o with | .inl o_0 => (.ret, (⟨[(2, .val false [.bool o_0])], [], 0⟩ : S)) | .inr (o_1) => (.exit 0, (⟨[(0, .val false [.seq (eL (e_sl e_u8) a0)]), (3, .val false [.int .i64 o_1]), (10, .val false [.bool false])], [], 0⟩ : S))) := by
  induction m with
  | zero => intro v1 o h; cases h
  | succ m ih =>
    intro v1 o h
    rw [L_spec_l4addrs_l0] at h
    rcases ite_some h with ⟨c1, h⟩ | ⟨c1, h⟩
    ·obtain ⟨i2, hi2, h⟩ := bs h
     obtain ⟨x3, hx3, h⟩ := bs h
     obtain ⟨r4, hr4, h⟩ := bs h
     let p33 : List (Q cfg) := [.le (e_sl e_u8) a0, .lT c1, .na hi2, .ix0 (e_sl e_u8) hx3]
     cases r4 with
     | true =>
      try dsimp only at h
      rcases ite_some h with ⟨c6, h⟩ | ⟨c6, h⟩
      ·obtain ⟨i7, hi7, h⟩ := bs h
       obtain ⟨x8, hx8, h⟩ := bs h
       rcases ite_some h with ⟨c9, h⟩ | ⟨c9, h⟩
       ·exact loop_nQ (p33 ++ [.cl (ok_spec_AddrOk x3 _ hr4), .nt true, .lT c6, .su v1 1, .na hi7, .ix0 (e_sl e_u8) hx8, ⟨.bytes (eL e_u8 x8), .s x8, A.bytes⟩, .na hi2, .ix0 (e_sl e_u8) hx3, ⟨.bytes (eL e_u8 x3), .s x3, A.bytes⟩, ⟨.ltS x8 x3, .b true, (A.ltS_t c9)⟩, .nt true, .ad v1 1]) (by kernel_rfl) (ih (w64 (v1 + 1)) o h)
       ·obtain rfl := Option.some.inj h
        exact loop_eQ (p33 ++ [.cl (ok_spec_AddrOk x3 _ hr4), .nt true, .lT c6, .su v1 1, .na hi7, .ix0 (e_sl e_u8) hx8, ⟨.bytes (eL e_u8 x8), .s x8, A.bytes⟩, .na hi2, .ix0 (e_sl e_u8) hx3, ⟨.bytes (eL e_u8 x3), .s x3, A.bytes⟩, ⟨.ltS x8 x3, .b false, (A.ltS_f c9)⟩, .nt false]) (by kernel_rfl) (by intro h; cases h)
      ·exact loop_nQ (p33 ++ [.cl (ok_spec_AddrOk x3 _ hr4), .nt true, .lF c6, .ad v1 1]) (by kernel_rfl) (ih (w64 (v1 + 1)) o h)
     | false =>
      try dsimp only at h
      obtain rfl := Option.some.inj h
      exact loop_eQ (p33 ++ [.cl (ok_spec_AddrOk x3 _ hr4), .nt false]) (by kernel_rfl) (by intro h; cases h)
    ·obtain rfl := Option.some.inj h
     exact loop_eQ [.le (e_sl e_u8) a0, .lF c1] (by kernel_rfl) (by intro h; cases h)
def T_spec_l4addrs (n : Nat) (a0 : (List (List UInt8))) : Option Bool :=
  if 8 < ((a0.length : Nat) : Int) then
    some false
  else
    (L_spec_l4addrs_l0 a0 n 0).bind fun o2 =>
    match o2 with
    | .inl o2_0 =>
      some o2_0
    | .inr (o2_1) =>
      some true
set_option maxRecDepth 100000 in
theorem fd_64 : cfg.funcs 64 = some (bodyOf Tryz.f64, Tryz.f64.ntmps, Tryz.f64.results.toList) := fn_of Tryz.func64 (by kernel_rfl) (by kernel_rfl)
theorem g_spec_l4addrs (n : Nat) (a0 : (List (List UInt8))) (r : Bool) (h : T_spec_l4addrs n a0 = some r) : (mach cfg).call 64 [] [.val false [.seq (eL (e_sl e_u8) a0)]] = some (.val false [.bool r], []) := by
  unfold T_spec_l4addrs at h
  rcases ite_some h with ⟨c1, h⟩ | ⟨c1, h⟩
  ·obtain rfl := Option.some.inj h
   exact call_wQ [.le (e_sl e_u8) a0, .lT c1] rfl fd_64 (by kernel_rfl)
  ·obtain ⟨o2, ho2, h⟩ := bs h
   let p34 : List (Q cfg) := [.le (e_sl e_u8) a0, .lF c1, .lp (gl_spec_l4addrs_l0 a0 _ 0 _ ho2)]
   rcases o2 with o2_0 | o2_1
   · try dsimp only at h
     obtain rfl := Option.some.inj h
     exact call_wQ p34 rfl fd_64 (by kernel_rfl)
   · try dsimp only at h
     obtain rfl := Option.some.inj h
     exact call_wQ p34 rfl fd_64 (by kernel_rfl)
theorem specAd_eq {a : List UInt8} (h : a.length <= 2 ^ 20) : S_spec_AddrOk a = some (addrB a) := specA_eq h
theorem l4addrs_loop {a : List (List UInt8)} (hs : ∀ x ∈ a, x.length <= 2 ^ 20) (ha : a.length <= 2 ^ 40) : ∀ (d i m : Nat), i + d = a.length → d < m → ∃ z, L_spec_l4addrs_l0 a m (i : Int) = some (if gAll addrB id a i d = true then .inr z else .inl false) := by
  intro d
  induction d with
  | zero =>
    intro i m hi hm
    obtain ⟨m, rfl, _⟩ := fuel hm
    exact ⟨_, by rw [L_spec_l4addrs_l0, if_neg (by omega)]; rfl⟩
  | succ d ih =>
    intro i m hi hm
    obtain ⟨m, rfl, hm'⟩ := fuel hm
    have hil : i < a.length := by omega
    rw [L_spec_l4addrs_l0, if_pos (by omega), natO_nat, Option.bind_some, get_some hil, Option.bind_some, specAd_eq (hs _ (List.getElem_mem hil)), Option.bind_some, gAll_succ]
    obtain ⟨z, hz⟩ := ih (i + 1) m (by omega) (by omega)
    cases hx : addrB a[i] with
    | false =>
      refine ⟨0, ?_⟩
      have : gOk addrB id a i = false := by
        unfold gOk; rw [get_some hil]; simp [hx]
      rw [this]; rfl
    | true =>
      dsimp only
      by_cases h0 : 0 < i
      · rw [if_pos (by omega), w64_pred (by omega) h0, natO_nat, Option.bind_some, get_some (show i - 1 < a.length by omega), Option.bind_some, gOk_eq hil h0, hx, Bool.true_and, w64_succ (by omega), hz]
        by_cases hl : Op.bytesLess a[i - 1] a[i] = true
        · rw [if_pos hl, show Op.bytesLess (id a[i - 1]) (id a[i]) = true from hl, Bool.true_and]; exact ⟨z, rfl⟩
        · rw [if_neg hl, show Op.bytesLess (id a[i - 1]) (id a[i]) = false from Bool.eq_false_iff.2 hl]; exact ⟨z, rfl⟩
      · obtain rfl : i = 0 := by omega
        rw [if_neg (by omega), gOk_zero hil, hx, Bool.true_and, w64_succ (by omega), hz]
        exact ⟨z, rfl⟩
def S_spec_l4addrs (a0 : (List (List UInt8))) : Option Bool := if bsz a0 <= 2 ^ 20 then some (addrsB a0) else none
theorem spec_spec_l4addrs (a0 : (List (List UInt8))) (r : Bool) (h : S_spec_l4addrs a0 = some r) : ∃ n, T_spec_l4addrs n a0 = some r := by
  unfold S_spec_l4addrs at h
  obtain ⟨ha, h⟩ := need_c h
  have hl := bsz_len a0
  obtain ⟨z, hz⟩ := l4addrs_loop (a := a0) (fun x hx => by have := bsz_mem hx; omega) (by omega) a0.length 0 (a0.length + 1) (by omega) (by omega)
  refine ⟨a0.length + 1, ?_⟩
  unfold T_spec_l4addrs
  rw [show ((0 : Nat) : Int) = 0 from rfl] at hz
  rw [<- h]
  unfold addrsB
  by_cases h8 : (8 : Int) < ((a0.length : Nat) : Int)
  · rw [if_pos h8, decide_eq_false (by omega)]; rfl
  · rw [if_neg h8, hz, Option.bind_some, decide_eq_true (by omega), Bool.true_and]
    cases gAll addrB id a0 0 a0.length <;> rfl
theorem ok_spec_l4addrs (a0 : (List (List UInt8))) (r : Bool) (h : S_spec_l4addrs a0 = some r) : (mach cfg).call 64 [] [.val false [.seq (eL (e_sl e_u8) a0)]] = some (.val false [.bool r], []) := by
  obtain ⟨n, hn⟩ := spec_spec_l4addrs a0 r h
  exact g_spec_l4addrs n a0 r hn
def L_spec_StateOk_l0 (a0 : GState) : Nat → Int → Option (Bool ⊕ Int)
  | 0, _ => none
  | m + 1, v0 =>
    if v0 < ((a0.Entries.length : Nat) : Int) then
      (natO v0).bind fun i2 =>
      (a0.Entries[i2]?).bind fun x3 =>
      (S_spec_AddrOk x3.Addr).bind fun r4 =>
      match r4 with
      | true =>
        (S_spec_l4map x3.Val).bind fun r6 =>
        match r6 with
        | true =>
          (S_spec_l4addrs x3.Deps).bind fun r8 =>
          match r8 with
          | true =>
            if x3.Turned < 1 then
              some (.inl false)
            else
              if a0.Serial < x3.Turned then
                some (.inl false)
              else
                if 0 < v0 then
                  (natO (w64 (v0 - 1))).bind fun i13 =>
                  (a0.Entries[i13]?).bind fun x14 =>
                  if Op.bytesLess x14.Addr x3.Addr = true then
                    L_spec_StateOk_l0 a0 m (w64 (v0 + 1))
                  else
                    some (.inl false)
                else
                  L_spec_StateOk_l0 a0 m (w64 (v0 + 1))
          | false =>
            some (.inl false)
        | false =>
          some (.inl false)
      | false =>
        some (.inl false)
    else
      some (.inr v0)
theorem gl_spec_StateOk_l0 (a0 : GState) (m : Nat) : ∀ (v0 : Int) (o : (Bool ⊕ Int)), L_spec_StateOk_l0 a0 m v0 = some o → (mach cfg).loop 14 (loopB Tryz.f14 0) ⟨[(1, .val false [.ptr 0 0]), (4, .val false [.int .i64 v0])], [.var [.int .i64 a0.Serial, .bool a0.Open, .seq (eL e_u8 a0.Pending), .int .i64 a0.Act, .seq (eL e_GEntry a0.Entries)]], 0⟩ = some (match o with | .inl o_0 => (.ret, (⟨[(2, .val false [.bool o_0])], [], 0⟩ : S)) | .inr (o_1) => (.exit 0, (⟨[(1, .val false [.ptr 0 0]), (4, .val false [.int .i64 o_1]), (71, .val false [.bool false])], [.var [.int .i64 a0.Serial, .bool a0.Open, .seq (eL e_u8 a0.Pending), .int .i64 a0.Act, .seq (eL e_GEntry a0.Entries)]], 0⟩ : S))) := by
  induction m with
  | zero => intro v0 o h; cases h
  | succ m ih =>
    intro v0 o h
    rw [L_spec_StateOk_l0] at h
    rcases ite_some h with ⟨c1, h⟩ | ⟨c1, h⟩
    ·obtain ⟨i2, hi2, h⟩ := bs h
     obtain ⟨x3, hx3, h⟩ := bs h
     obtain ⟨r4, hr4, h⟩ := bs h
     cases r4 with
     | true =>
      try dsimp only at h
      obtain ⟨r6, hr6, h⟩ := bs h
      cases r6 with
      | true =>
       try dsimp only at h
       obtain ⟨r8, hr8, h⟩ := bs h
       cases r8 with
       | true =>
        try dsimp only at h
        rcases ite_some h with ⟨c10, h⟩ | ⟨c10, h⟩
        ·obtain rfl := Option.some.inj h
         exact loop_eQ [.le e_GEntry a0.Entries, .lT c1, .na hi2, .ix hx3 (eq_GEntry x3), .cl (ok_spec_AddrOk x3.Addr _ hr4), .nt true, .cl (ok_spec_l4map x3.Val _ hr6), .nt true, .cl (ok_spec_l4addrs x3.Deps _ hr8), .nt true, .lT c10] (by kernel_rfl) (by intro h; cases h)
        ·rcases ite_some h with ⟨c11, h⟩ | ⟨c11, h⟩
         ·obtain rfl := Option.some.inj h
          exact loop_eQ [.le e_GEntry a0.Entries, .lT c1, .na hi2, .ix hx3 (eq_GEntry x3), .cl (ok_spec_AddrOk x3.Addr _ hr4), .nt true, .cl (ok_spec_l4map x3.Val _ hr6), .nt true, .cl (ok_spec_l4addrs x3.Deps _ hr8), .nt true, .lF c10, .lT c11] (by kernel_rfl) (by intro h; cases h)
         ·let p35 : List (Q cfg) := [.le e_GEntry a0.Entries, .lT c1, .na hi2]
          rcases ite_some h with ⟨c12, h⟩ | ⟨c12, h⟩
          ·obtain ⟨i13, hi13, h⟩ := bs h
           obtain ⟨x14, hx14, h⟩ := bs h
           rcases ite_some h with ⟨c15, h⟩ | ⟨c15, h⟩
           ·exact loop_nQ (p35 ++ [.ix hx3 (eq_GEntry x3), .cl (ok_spec_AddrOk x3.Addr _ hr4), .nt true, .cl (ok_spec_l4map x3.Val _ hr6), .nt true, .cl (ok_spec_l4addrs x3.Deps _ hr8), .nt true, .lF c10, .lF c11, .lT c12, .su v0 1, .na hi13, .ix hx14 (eq_GEntry x14), ⟨.bytes (eL e_u8 x14.Addr), .s x14.Addr, A.bytes⟩, ⟨.bytes (eL e_u8 x3.Addr), .s x3.Addr, A.bytes⟩, ⟨.ltS x14.Addr x3.Addr, .b true, (A.ltS_t c15)⟩, .nt true, .ad v0 1]) (by kernel_rfl) (ih (w64 (v0 + 1)) o h)
           ·obtain rfl := Option.some.inj h
            exact loop_eQ (p35 ++ [.ix hx3 (eq_GEntry x3), .cl (ok_spec_AddrOk x3.Addr _ hr4), .nt true, .cl (ok_spec_l4map x3.Val _ hr6), .nt true, .cl (ok_spec_l4addrs x3.Deps _ hr8), .nt true, .lF c10, .lF c11, .lT c12, .su v0 1, .na hi13, .ix hx14 (eq_GEntry x14), ⟨.bytes (eL e_u8 x14.Addr), .s x14.Addr, A.bytes⟩, ⟨.bytes (eL e_u8 x3.Addr), .s x3.Addr, A.bytes⟩, ⟨.ltS x14.Addr x3.Addr, .b false, (A.ltS_f c15)⟩, .nt false]) (by kernel_rfl) (by intro h; cases h)
          ·exact loop_nQ (p35 ++ [.ix hx3 (eq_GEntry x3), .cl (ok_spec_AddrOk x3.Addr _ hr4), .nt true, .cl (ok_spec_l4map x3.Val _ hr6), .nt true, .cl (ok_spec_l4addrs x3.Deps _ hr8), .nt true, .lF c10, .lF c11, .lF c12, .ad v0 1]) (by kernel_rfl) (ih (w64 (v0 + 1)) o h)
       | false =>
        try dsimp only at h
        obtain rfl := Option.some.inj h
        exact loop_eQ [.le e_GEntry a0.Entries, .lT c1, .na hi2, .ix hx3 (eq_GEntry x3), .cl (ok_spec_AddrOk x3.Addr _ hr4), .nt true, .cl (ok_spec_l4map x3.Val _ hr6), .nt true, .cl (ok_spec_l4addrs x3.Deps _ hr8), .nt false] (by kernel_rfl) (by intro h; cases h)
      | false =>
       try dsimp only at h
       obtain rfl := Option.some.inj h
       exact loop_eQ [.le e_GEntry a0.Entries, .lT c1, .na hi2, .ix hx3 (eq_GEntry x3), .cl (ok_spec_AddrOk x3.Addr _ hr4), .nt true, .cl (ok_spec_l4map x3.Val _ hr6), .nt false] (by kernel_rfl) (by intro h; cases h)
     | false =>
      try dsimp only at h
      obtain rfl := Option.some.inj h
      exact loop_eQ [.le e_GEntry a0.Entries, .lT c1, .na hi2, .ix hx3 (eq_GEntry x3), .cl (ok_spec_AddrOk x3.Addr _ hr4), .nt false] (by kernel_rfl) (by intro h; cases h)
    ·obtain rfl := Option.some.inj h
     exact loop_eQ [.le e_GEntry a0.Entries, .lF c1] (by kernel_rfl) (by intro h; cases h)
def T_spec_StateOk (n : Nat) (a0 : GState) : Option Bool :=
  if a0.Serial < 0 then
    some false
  else
    if 1000000 < a0.Serial then
      some false
    else
      if 16 < ((a0.Entries.length : Nat) : Int) then
        some false
      else
        if 0 < ((a0.Pending.length : Nat) : Int) then
          match a0.Open with
          | true =>
            (S_spec_AddrOk a0.Pending).bind fun r6 =>
            match r6 with
            | true =>
              if a0.Act < 1 then
                some false
              else
                if 4 < a0.Act then
                  some false
                else
                  (S_spec_l4find (GState.mk a0.Serial true a0.Pending a0.Act a0.Entries) a0.Pending).bind fun r10 =>
                  if a0.Act = 1 then
                    if 0 <= r10 then
                      some false
                    else
                      (L_spec_StateOk_l0 a0 n 0).bind fun o13 =>
                      match o13 with
                      | .inl o13_0 =>
                        some o13_0
                      | .inr (o13_1) =>
                        some true
                  else
                    if 0 <= r10 then
                      (L_spec_StateOk_l0 a0 n 0).bind fun o13 =>
                      match o13 with
                      | .inl o13_0 =>
                        some o13_0
                      | .inr (o13_1) =>
                        some true
                    else
                      some false
            | false =>
              some false
          | false =>
            some false
        else
          if a0.Act = 0 then
            (L_spec_StateOk_l0 a0 n 0).bind fun o6 =>
            match o6 with
            | .inl o6_0 =>
              some o6_0
            | .inr (o6_1) =>
              some true
          else
            some false
set_option maxRecDepth 100000 in
theorem fd_14 : cfg.funcs 14 = some (bodyOf Tryz.f14, Tryz.f14.ntmps, Tryz.f14.results.toList) := fn_of Tryz.func14 (by kernel_rfl) (by kernel_rfl)
theorem g_spec_StateOk (n : Nat) (a0 : GState) (r : Bool) (h : T_spec_StateOk n a0 = some r) : (mach cfg).call 14 [] [.val true [.int .i64 a0.Serial, .bool a0.Open, .seq (eL e_u8 a0.Pending), .int .i64 a0.Act, .seq (eL e_GEntry a0.Entries)]] = some (.val false [.bool r], []) := by
  unfold T_spec_StateOk at h
  rcases ite_some h with ⟨c1, h⟩ | ⟨c1, h⟩
  ·obtain rfl := Option.some.inj h
   exact call_wQ [.lT c1] rfl fd_14 (by kernel_rfl)
  ·let p36 : List (Q cfg) := [.lF c1]
   rcases ite_some h with ⟨c2, h⟩ | ⟨c2, h⟩
   ·obtain rfl := Option.some.inj h
    exact call_wQ (p36 ++ [.lT c2]) rfl fd_14 (by kernel_rfl)
   ·let p37 : List (Q cfg) := p36 ++ [.lF c2]
    rcases ite_some h with ⟨c3, h⟩ | ⟨c3, h⟩
    ·obtain rfl := Option.some.inj h
     exact call_wQ (p37 ++ [.le e_GEntry a0.Entries, .lT c3]) rfl fd_14 (by kernel_rfl)
    ·rcases ite_some h with ⟨c4, h⟩ | ⟨c4, h⟩
     ·cases c5 : a0.Open with
      | true =>
       rw [c5] at h
       try dsimp only at h
       obtain ⟨r6, hr6, h⟩ := bs h
       cases r6 with
       | true =>
        try dsimp only at h
        rcases ite_some h with ⟨c8, h⟩ | ⟨c8, h⟩
        ·obtain rfl := Option.some.inj h
         exact call_wQ (p37 ++ [.le e_GEntry a0.Entries, .lF c3, .le e_u8 a0.Pending, .lT c4, .nt true, .cl (ok_spec_AddrOk a0.Pending _ hr6), .nt true, .lT c8]) rfl fd_14 (by kernel_rfl)
        ·rcases ite_some h with ⟨c9, h⟩ | ⟨c9, h⟩
         ·obtain rfl := Option.some.inj h
          exact call_wQ (p37 ++ [.le e_GEntry a0.Entries, .lF c3, .le e_u8 a0.Pending, .lT c4, .nt true, .cl (ok_spec_AddrOk a0.Pending _ hr6), .nt true, .lF c8, .lT c9]) rfl fd_14 (by kernel_rfl)
         ·obtain ⟨r10, hr10, h⟩ := bs h
          rcases ite_some h with ⟨c11, h⟩ | ⟨c11, h⟩
          ·let p38 : List (Q cfg) := p37 ++ [.le e_GEntry a0.Entries, .lF c3, .le e_u8 a0.Pending, .lT c4, .nt true, .cl (ok_spec_AddrOk a0.Pending _ hr6), .nt true, .lF c8, .lF c9, .nt true, .eT c11, .cl (ok_spec_l4find (GState.mk a0.Serial true a0.Pending a0.Act a0.Entries) a0.Pending _ hr10)]
           rcases ite_some h with ⟨c12, h⟩ | ⟨c12, h⟩
           ·obtain rfl := Option.some.inj h
            exact call_wQ (p38 ++ [.gT c12, ⟨.eqB true true, .b true, rfl⟩]) rfl fd_14 (by kernel_rfl)
           ·obtain ⟨o13, ho13, h⟩ := bs h
            rcases o13 with o13_0 | o13_1
            · try dsimp only at h
              obtain rfl := Option.some.inj h
              exact call_wQ (p38 ++ [.gF c12, ⟨.eqB true false, .b false, rfl⟩, ⟨.loop 14 (loopB Tryz.f14 0) ⟨[(1, .val false [.ptr 0 0]), (4, .val false [.int .i64 0])], [.var [.int .i64 a0.Serial, .bool true, .seq (eL e_u8 a0.Pending), .int .i64 a0.Act, .seq (eL e_GEntry a0.Entries)]], 0⟩, .x (.ret) ⟨[(2, .val false [.bool o13_0])], [], 0⟩, (A.loop (by have q := gl_spec_StateOk_l0 a0 _ 0 _ ho13; rw [c5] at q; exact q))⟩]) rfl fd_14 (by kernel_rfl)
            · try dsimp only at h
              obtain rfl := Option.some.inj h
              exact call_wQ (p38 ++ [.gF c12, ⟨.eqB true false, .b false, rfl⟩, ⟨.loop 14 (loopB Tryz.f14 0) ⟨[(1, .val false [.ptr 0 0]), (4, .val false [.int .i64 0])], [.var [.int .i64 a0.Serial, .bool true, .seq (eL e_u8 a0.Pending), .int .i64 a0.Act, .seq (eL e_GEntry a0.Entries)]], 0⟩, .x (.exit 0) ⟨[(1, .val false [.ptr 0 0]), (4, .val false [.int .i64 o13_1]), (71, .val false [.bool false])], [.var [.int .i64 a0.Serial, .bool true, .seq (eL e_u8 a0.Pending), .int .i64 a0.Act, .seq (eL e_GEntry a0.Entries)]], 0⟩, (A.loop (by have q := gl_spec_StateOk_l0 a0 _ 0 _ ho13; rw [c5] at q; exact q))⟩]) rfl fd_14 (by kernel_rfl)
          ·let p39 : List (Q cfg) := p37 ++ [.le e_GEntry a0.Entries, .lF c3, .le e_u8 a0.Pending, .lT c4, .nt true, .cl (ok_spec_AddrOk a0.Pending _ hr6), .nt true, .lF c8, .lF c9, .nt true, .eF c11, .cl (ok_spec_l4find (GState.mk a0.Serial true a0.Pending a0.Act a0.Entries) a0.Pending _ hr10)]
           rcases ite_some h with ⟨c12, h⟩ | ⟨c12, h⟩
           ·obtain ⟨o13, ho13, h⟩ := bs h
            rcases o13 with o13_0 | o13_1
            · try dsimp only at h
              obtain rfl := Option.some.inj h
              exact call_wQ (p39 ++ [.gT c12, ⟨.eqB false true, .b false, rfl⟩, ⟨.loop 14 (loopB Tryz.f14 0) ⟨[(1, .val false [.ptr 0 0]), (4, .val false [.int .i64 0])], [.var [.int .i64 a0.Serial, .bool true, .seq (eL e_u8 a0.Pending), .int .i64 a0.Act, .seq (eL e_GEntry a0.Entries)]], 0⟩, .x (.ret) ⟨[(2, .val false [.bool o13_0])], [], 0⟩, (A.loop (by have q := gl_spec_StateOk_l0 a0 _ 0 _ ho13; rw [c5] at q; exact q))⟩]) rfl fd_14 (by kernel_rfl)
            · try dsimp only at h
              obtain rfl := Option.some.inj h
              exact call_wQ (p39 ++ [.gT c12, ⟨.eqB false true, .b false, rfl⟩, ⟨.loop 14 (loopB Tryz.f14 0) ⟨[(1, .val false [.ptr 0 0]), (4, .val false [.int .i64 0])], [.var [.int .i64 a0.Serial, .bool true, .seq (eL e_u8 a0.Pending), .int .i64 a0.Act, .seq (eL e_GEntry a0.Entries)]], 0⟩, .x (.exit 0) ⟨[(1, .val false [.ptr 0 0]), (4, .val false [.int .i64 o13_1]), (71, .val false [.bool false])], [.var [.int .i64 a0.Serial, .bool true, .seq (eL e_u8 a0.Pending), .int .i64 a0.Act, .seq (eL e_GEntry a0.Entries)]], 0⟩, (A.loop (by have q := gl_spec_StateOk_l0 a0 _ 0 _ ho13; rw [c5] at q; exact q))⟩]) rfl fd_14 (by kernel_rfl)
           ·obtain rfl := Option.some.inj h
            exact call_wQ (p39 ++ [.gF c12, ⟨.eqB false false, .b true, rfl⟩]) rfl fd_14 (by kernel_rfl)
       | false =>
        try dsimp only at h
        obtain rfl := Option.some.inj h
        exact call_wQ (p37 ++ [.le e_GEntry a0.Entries, .lF c3, .le e_u8 a0.Pending, .lT c4, .nt true, .cl (ok_spec_AddrOk a0.Pending _ hr6), .nt false]) rfl fd_14 (by kernel_rfl)
      | false =>
       rw [c5] at h
       try dsimp only at h
       obtain rfl := Option.some.inj h
       exact call_wQ (p37 ++ [.le e_GEntry a0.Entries, .lF c3, .le e_u8 a0.Pending, .lT c4, .nt false]) rfl fd_14 (by kernel_rfl)
     ·rcases ite_some h with ⟨c5, h⟩ | ⟨c5, h⟩
      ·obtain ⟨o6, ho6, h⟩ := bs h
       let p40 : List (Q cfg) := p37 ++ [.le e_GEntry a0.Entries, .lF c3, .le e_u8 a0.Pending, .lF c4, .nt false, .eT c5, .nt true, .lp (gl_spec_StateOk_l0 a0 _ 0 _ ho6)]
       rcases o6 with o6_0 | o6_1
       · try dsimp only at h
         obtain rfl := Option.some.inj h
         exact call_wQ p40 rfl fd_14 (by kernel_rfl)
       · try dsimp only at h
         obtain rfl := Option.some.inj h
         exact call_wQ p40 rfl fd_14 (by kernel_rfl)
      ·obtain rfl := Option.some.inj h
       exact call_wQ (p37 ++ [.le e_GEntry a0.Entries, .lF c3, .le e_u8 a0.Pending, .lF c4, .nt false, .eF c5, .nt false]) rfl fd_14 (by kernel_rfl)
theorem sV_eq {v : GValue} (h : vsz v <= 2 ^ 20) : S_spec_ValOk v = some (valB v) := by
  unfold S_spec_ValOk S_spec_l2ok
  rw [if_pos ⟨h, by decide, by decide, by decide⟩, Option.bind_some]
  congr 1
  unfold okV valB
  rw [show (6 - (1 : Int)).toNat = 5 from rfl]
  by_cases hc : shV 5 v = true ∧ (ptV v : Int) <= 40
  · rw [if_pos hc, decide_eq_true hc]; exact decide_eq_true (by omega)
  · rw [if_neg hc, decide_eq_false hc]; rfl
theorem specKm_eq {v : GValue} (h : vsz v <= 2 ^ 20) : S_spec_l4map v = some (kmapB v) := by
  unfold S_spec_l4map kmapB
  by_cases h5 : v.Kind = 5
  · rw [if_pos h5, sV_eq h, Option.bind_some, decide_eq_true h5, Bool.true_and]
    cases hv : valB v with
    | false => rfl
    | true =>
      simp only [Bool.true_and]
      unfold S_spec_l2known
      rw [if_pos (by omega)]; rfl
  · rw [if_neg h5, decide_eq_false h5]; rfl
theorem specAds_eq {l : List (List UInt8)} (h : bsz l <= 2 ^ 20) : S_spec_l4addrs l = some (addrsB l) := if_pos h
theorem StateOk_loop {s : GState} (hs : eszs s.Entries <= 2 ^ 20) : ∀ (d i m : Nat), i + d = s.Entries.length → d < m → ∃ z, L_spec_StateOk_l0 s m (i : Int) = some (if gAll (entB s.Serial) GEntry.Addr s.Entries i d = true then .inr z else .inl false) := by
  have hlen := eszs_len s.Entries
  intro d
  induction d with
  | zero =>
    intro i m hi hm
    obtain ⟨m, rfl, _⟩ := fuel hm
    exact ⟨_, by rw [L_spec_StateOk_l0, if_neg (by omega)]; rfl⟩
  | succ d ih =>
    intro i m hi hm
    obtain ⟨m, rfl, hm'⟩ := fuel hm
    have hil : i < s.Entries.length := by omega
    have hz0 := eszs_mem (List.getElem_mem hil)
    obtain ⟨z, hz⟩ := ih (i + 1) m (by omega) (by omega)
    rw [L_spec_StateOk_l0, if_pos (by omega), natO_nat, Option.bind_some, get_some hil, Option.bind_some, gAll_succ]
    unfold esz at hz0
    rw [specAd_eq (by omega), Option.bind_some, specKm_eq (by omega), Option.bind_some, specAds_eq (by omega), Option.bind_some, w64_succ (by omega), hz]
    generalize gAll _ GEntry.Addr s.Entries (i + 1) d = g
    have hT : decide (1 <= s.Entries[i].Turned ∧ s.Entries[i].Turned <= s.Serial) = (!(decide (s.Entries[i].Turned < 1)) && !(decide (s.Serial < s.Entries[i].Turned))) := by
      by_cases a : s.Entries[i].Turned < 1 <;> by_cases b : s.Serial < s.Entries[i].Turned <;> simp [a, b] <;> omega
    refine ⟨z, ?_⟩
    by_cases h0 : 0 < i
    · rw [gOk_eq hil h0]
      unfold entB
      rw [hT]
      rw [if_pos (show (0 : Int) < ((i : Nat) : Int) by omega), w64_pred (by omega) h0, natO_nat, Option.bind_some, get_some (show i - 1 < s.Entries.length by omega), Option.bind_some]
      generalize Op.bytesLess s.Entries[i - 1].Addr s.Entries[i].Addr = b
      by_cases a1 : s.Entries[i].Turned < 1 <;> by_cases a2 : s.Serial < s.Entries[i].Turned <;> cases b <;> cases addrB s.Entries[i].Addr <;> cases kmapB s.Entries[i].Val <;> cases addrsB s.Entries[i].Deps <;> simp [a1, a2]
    · obtain rfl : i = 0 := by omega
      rw [gOk_zero hil]
      unfold entB
      rw [hT]
      rw [if_neg (show ¬ (0 : Int) < ((0 : Nat) : Int) by omega)]
      by_cases a1 : s.Entries[0].Turned < 1 <;> by_cases a2 : s.Serial < s.Entries[0].Turned <;> cases addrB s.Entries[0].Addr <;> cases kmapB s.Entries[0].Val <;> cases addrsB s.Entries[0].Deps <;> simp [a1, a2]
def S_spec_StateOk (a0 : GState) : Option Bool := if ssz a0 <= 2 ^ 20 then some (stB a0) else none
theorem specSt_eq {s : GState} (h : ssz s <= 2 ^ 20) : S_spec_StateOk s = some (stB s) := if_pos h
theorem StateOk_val {s : GState} (h : ssz s <= 2 ^ 20) : T_spec_StateOk (s.Entries.length + 1) s = some (stB s) := by
  have hlen := eszs_len s.Entries
  unfold ssz at h
  obtain ⟨z, hz⟩ := StateOk_loop (s := s) (by omega) s.Entries.length 0 (s.Entries.length + 1) (by omega) (by omega)
  rw [show ((0 : Nat) : Int) = 0 from rfl] at hz
  have hf : ((L_spec_StateOk_l0 s (s.Entries.length + 1) 0).bind fun o4 => match o4 with | .inl o => some o | .inr _ => some true) = some (entsB s) := by
    rw [hz, show entsB s = gAll (entB s.Serial) GEntry.Addr s.Entries 0 s.Entries.length from rfl]
    cases gAll (entB s.Serial) GEntry.Addr s.Entries 0 s.Entries.length <;> rfl
  unfold T_spec_StateOk
  unfold stB
  by_cases h1 : s.Serial < 0
  · rw [if_pos h1, decide_eq_false (p := 0 <= s.Serial ∧ s.Serial <= 1000000 ∧ s.Entries.length <= 16) (by omega)]; rfl
  rw [if_neg h1]
  by_cases h2 : 1000000 < s.Serial
  · rw [if_pos h2, decide_eq_false (p := 0 <= s.Serial ∧ s.Serial <= 1000000 ∧ s.Entries.length <= 16) (by omega)]; rfl
  rw [if_neg h2]
  by_cases h3 : (16 : Int) < ((s.Entries.length : Nat) : Int)
  · rw [if_pos h3, decide_eq_false (p := 0 <= s.Serial ∧ s.Serial <= 1000000 ∧ s.Entries.length <= 16) (by omega)]; rfl
  rw [if_neg h3, decide_eq_true (p := 0 <= s.Serial ∧ s.Serial <= 1000000 ∧ s.Entries.length <= 16) (by omega), Bool.true_and]
  unfold pendB
  by_cases hp : s.Pending = []
  · rw [if_neg (by rw [hp]; simp), if_pos hp]
    by_cases ha : s.Act = 0
    · rw [if_pos ha, decide_eq_true ha, Bool.and_true]
      exact hf
    · rw [if_neg ha, decide_eq_false ha, Bool.and_false]
  · have hp0 : (0 : Int) < ((s.Pending.length : Nat) : Int) := by
      have : s.Pending.length ≠ 0 := fun e => hp (List.eq_nil_of_length_eq_zero e)
      omega
    rw [if_pos hp0, if_neg hp]
    cases ho : s.Open with
    | false => simp
    | true =>
      dsimp only
      rw [specAd_eq (by omega), Option.bind_some]
      cases addrB s.Pending with
      | false => simp
      | true =>
        dsimp only
        by_cases a1 : s.Act < 1
        · rw [if_pos a1, decide_eq_false (p := 1 <= s.Act ∧ s.Act <= 4) (by omega)]; simp
        rw [if_neg a1]
        by_cases a2 : 4 < s.Act
        · rw [if_pos a2, decide_eq_false (p := 1 <= s.Act ∧ s.Act <= 4) (by omega)]; simp
        rw [if_neg a2, decide_eq_true (p := 1 <= s.Act ∧ s.Act <= 4) (by omega)]
        unfold S_spec_l4find
        rw [show (GState.mk s.Serial true s.Pending s.Act s.Entries).Entries = s.Entries from rfl, if_pos (by omega), Option.bind_some]
        have hh := findA_has s.Entries s.Pending 0
        by_cases hA : s.Act = 1
        · rw [if_pos hA, decide_eq_false (p := s.Act ≠ 1) (by omega)]
          cases hb : hasB s.Entries s.Pending with
          | true => rw [if_pos (hh.2 hb)]; simp
          | false => rw [if_neg (fun h => by rw [hh.1 h] at hb; cases hb)]; refine Eq.trans hf ?_; simp
        · rw [if_neg hA, decide_eq_true (p := s.Act ≠ 1) hA]
          cases hb : hasB s.Entries s.Pending with
          | true => rw [if_pos (hh.2 hb)]; refine Eq.trans hf ?_; simp
          | false => rw [if_neg (fun h => by rw [hh.1 h] at hb; cases hb)]; simp
theorem spec_spec_StateOk (a0 : GState) (r : Bool) (h : S_spec_StateOk a0 = some r) : ∃ n, T_spec_StateOk n a0 = some r := by
  unfold S_spec_StateOk at h
  obtain ⟨ha, h⟩ := need_c h
  exact ⟨_, by rw [<- h]; exact StateOk_val ha⟩
theorem ok_spec_StateOk (a0 : GState) (r : Bool) (h : S_spec_StateOk a0 = some r) : (mach cfg).call 14 [] [.val true [.int .i64 a0.Serial, .bool a0.Open, .seq (eL e_u8 a0.Pending), .int .i64 a0.Act, .seq (eL e_GEntry a0.Entries)]] = some (.val false [.bool r], []) := by
  obtain ⟨n, hn⟩ := spec_spec_StateOk a0 r h
  exact g_spec_StateOk n a0 r hn
def L_spec_l2own_l0 (G_spec_l2own : GValue → Option GValue) (a0 : GValue) (v2 : Int) (v3 : Int) (v4 : Int) (v5 : Int) (v6 : (List UInt8)) (v7 : (List (List UInt8))) (v8 : (List GValue)) (v9 : (List UInt8)) (v11 : (List GValue)) : Nat → Int → (List (List UInt8)) → Option (Int × (List (List UInt8)))
  | 0, _, _ => none
  | m + 1, v0, v10 =>
    if v0 < ((a0.K.length : Nat) : Int) then
      (natO v0).bind fun i2 =>
      (a0.K[i2]?).bind fun x3 =>
      if roomP 1 (0 + x3.length) then
      if roomP 24 (v10.length + [x3].length) then
      L_spec_l2own_l0 G_spec_l2own a0 v2 v3 v4 v5 v6 v7 v8 v9 v11 m (w64 (v0 + 1)) (v10 ++ [x3])
      else none
      else none
    else
      some (v0, v10)
theorem gl_spec_l2own_l0 (G_spec_l2own : GValue → Option GValue) (H_spec_l2own : ∀ (a0 : GValue) (r : GValue), G_spec_l2own a0 = some r → (mach cfg).call 116 [] [.val true [.int .i64 a0.Kind, .int .i64 a0.N, .seq (eL e_u8 a0.S), .seq (eL (e_sl e_u8) a0.K), .seq (eL e_GValue a0.L)]] = some (.val true [.int .i64 r.Kind, .int .i64 r.N, .own 1 (eL e_u8 r.S), .own 1 (eL (o_sl 1 e_u8) r.K), .own 5 (eL o_GValue r.L)], [])) (a0 : GValue) (v2 : Int) (v3 : Int) (v4 : Int) (v5 : Int) (v6 : (List UInt8)) (v7 : (List (List UInt8))) (v8 : (List GValue)) (v9 : (List UInt8)) (v11 : (List GValue)) (m : Nat) : ∀ (v0 : Int) (v10 : (List (List UInt8))) (o : (Int × (List (List UInt8)))), L_spec_l2own_l0 G_spec_l2own a0 v2 v3 v4 v5 v6 v7 v8 v9 v11 m v0 v10 = some o → (mach cfg).loop 116 (loopB Tryz.f116 0) ⟨[(1, .val false [.ptr 0 0]), (2, .val false [.ptr 1 0]), (3, .val false [.ptr 2 0]), (4, .val false [.int .i64 v0])], [.var [.int .i64 a0.Kind, .int .i64 a0.N, .seq (eL e_u8 a0.S), .seq (eL (e_sl e_u8) a0.K), .seq (eL e_GValue a0.L)], .var [.int .i64 v2, .int .i64 v3, .ref 3, .ref 4, .ref 5], .var [.int .i64 v4, .int .i64 v5, .ref 6, .ref 7, .ref 8], .obj 1 (eL e_u8 v6), .obj 1 (eL (o_sl 1 e_u8) v7), .obj 5 (eL o_GValue v8), .obj 1 (eL e_u8 v9), .obj 1 (eL (o_sl 1 e_u8) v10), .obj 5 (eL o_GValue v11)], 0⟩ = some (match o with | ⟨o_0, o_1⟩ => (.exit 0, (⟨[(1, .val false [.ptr 0 0]), (2, .val false [.ptr 1 0]), (3, .val false [.ptr 2 0]), (4, .val false [.int .i64 o_0]), (19, .val false [.bool false])], [.var [.int .i64 a0.Kind, .int .i64 a0.N, .seq (eL e_u8 a0.S), .seq (eL (e_sl e_u8) a0.K), .seq (eL e_GValue a0.L)], .var [.int .i64 v2, .int .i64 v3, .ref 3, .ref 4, .ref 5], .var [.int .i64 v4, .int .i64 v5, .ref 6, .ref 7, .ref 8], .obj 1 (eL e_u8 v6), .obj 1 (eL (o_sl 1 e_u8) v7), .obj 5 (eL o_GValue v8), .obj 1 (eL e_u8 v9), .obj 1 (eL (o_sl 1 e_u8) o_1), .obj 5 (eL o_GValue v11)], 0⟩ : S))) := by
  induction m with
  | zero => intro v0 v10 o h; cases h
  | succ m ih =>
    intro v0 v10 o h
    rw [L_spec_l2own_l0] at h
    rcases ite_some h with ⟨c1, h⟩ | ⟨c1, h⟩
    ·obtain ⟨i2, hi2, h⟩ := bs h
     obtain ⟨x3, hx3, h⟩ := bs h
     obtain ⟨n4, h⟩ := need_some h
     obtain ⟨n5, h⟩ := need_some h
     exact loop_nQ [.le (e_sl e_u8) a0.K, .lT c1, .na hi2, .ix0 (e_sl e_u8) hx3, ⟨.room 1 (eL e_u8 []) (eL e_u8 x3), .b true, (A.room n4)⟩, ⟨.uni 1 (eL e_u8 x3), .b true, (A.uni E_u8)⟩, ⟨.app (eL e_u8 []) (eL e_u8 x3), .l (eL e_u8 x3), A.app0⟩, ⟨.room 24 (eL (o_sl 1 e_u8) v10) (eL (o_sl 1 e_u8) [x3]), .b true, (A.room n5)⟩, ⟨.uni 1 (eL (o_sl 1 e_u8) [x3]), .b true, (A.uniO (O_sl 1 O_u8))⟩, ⟨.app (eL (o_sl 1 e_u8) v10) (eL (o_sl 1 e_u8) [x3]), .l (eL (o_sl 1 e_u8) (v10 ++ [x3])), A.app⟩, .ad v0 1] (by kernel_rfl) (ih (w64 (v0 + 1)) (v10 ++ [x3]) o h)
    ·obtain rfl := Option.some.inj h
     exact loop_eQ [.le (e_sl e_u8) a0.K, .lF c1] (by kernel_rfl) (by intro h; cases h)
def L_spec_l2own_l1 (G_spec_l2own : GValue → Option GValue) (a0 : GValue) (v2 : Int) (v3 : Int) (v4 : Int) (v5 : Int) (v6 : (List UInt8)) (v7 : (List (List UInt8))) (v8 : (List GValue)) (v9 : (List UInt8)) (v10 : (List (List UInt8))) : Nat → Int → (List GValue) → Option (Int × (List GValue))
  | 0, _, _ => none
  | m + 1, v0, v11 =>
    if v0 < ((a0.L.length : Nat) : Int) then
      (natO v0).bind fun i2 =>
      (a0.L[i2]?).bind fun x3 =>
      (G_spec_l2own x3).bind fun r4 =>
      if roomP 88 (v11.length + [r4].length) then
      L_spec_l2own_l1 G_spec_l2own a0 v2 v3 v4 v5 v6 v7 v8 v9 v10 m (w64 (v0 + 1)) (v11 ++ [r4])
      else none
    else
      some (v0, v11)
theorem gl_spec_l2own_l1 (G_spec_l2own : GValue → Option GValue) (H_spec_l2own : ∀ (a0 : GValue) (r : GValue), G_spec_l2own a0 = some r → (mach cfg).call 116 [] [.val true [.int .i64 a0.Kind, .int .i64 a0.N, .seq (eL e_u8 a0.S), .seq (eL (e_sl e_u8) a0.K), .seq (eL e_GValue a0.L)]] = some (.val true [.int .i64 r.Kind, .int .i64 r.N, .own 1 (eL e_u8 r.S), .own 1 (eL (o_sl 1 e_u8) r.K), .own 5 (eL o_GValue r.L)], [])) (a0 : GValue) (v2 : Int) (v3 : Int) (v4 : Int) (v5 : Int) (v6 : (List UInt8)) (v7 : (List (List UInt8))) (v8 : (List GValue)) (v9 : (List UInt8)) (v10 : (List (List UInt8))) (m : Nat) : ∀ (v0 : Int) (v11 : (List GValue)) (o : (Int × (List GValue))), L_spec_l2own_l1 G_spec_l2own a0 v2 v3 v4 v5 v6 v7 v8 v9 v10 m v0 v11 = some o → (mach cfg).loop 116 (loopB Tryz.f116 1) ⟨[(1, .val false [.ptr 0 0]), (2, .val false [.ptr 1 0]), (3, .val false [.ptr 2 0]), (5, .val false [.int .i64 v0])], [.var [.int .i64 a0.Kind, .int .i64 a0.N, .seq (eL e_u8 a0.S), .seq (eL (e_sl e_u8) a0.K), .seq (eL e_GValue a0.L)], .var [.int .i64 v2, .int .i64 v3, .ref 3, .ref 4, .ref 5], .var [.int .i64 v4, .int .i64 v5, .ref 6, .ref 7, .ref 8], .obj 1 (eL e_u8 v6), .obj 1 (eL (o_sl 1 e_u8) v7), .obj 5 (eL o_GValue v8), .obj 1 (eL e_u8 v9), .obj 1 (eL (o_sl 1 e_u8) v10), .obj 5 (eL o_GValue v11)], 0⟩ = some (match o with | ⟨o_0, o_1⟩ => (.exit 2, (⟨[(1, .val false [.ptr 0 0]), (2, .val false [.ptr 1 0]), (3, .val false [.ptr 2 0]), (5, .val false [.int .i64 o_0]), (38, .val false [.bool false])], [.var [.int .i64 a0.Kind, .int .i64 a0.N, .seq (eL e_u8 a0.S), .seq (eL (e_sl e_u8) a0.K), .seq (eL e_GValue a0.L)], .var [.int .i64 v2, .int .i64 v3, .ref 3, .ref 4, .ref 5], .var [.int .i64 v4, .int .i64 v5, .ref 6, .ref 7, .ref 8], .obj 1 (eL e_u8 v6), .obj 1 (eL (o_sl 1 e_u8) v7), .obj 5 (eL o_GValue v8), .obj 1 (eL e_u8 v9), .obj 1 (eL (o_sl 1 e_u8) v10), .obj 5 (eL o_GValue o_1)], 0⟩ : S))) := by
  induction m with
  | zero => intro v0 v11 o h; cases h
  | succ m ih =>
    intro v0 v11 o h
    rw [L_spec_l2own_l1] at h
    rcases ite_some h with ⟨c1, h⟩ | ⟨c1, h⟩
    ·obtain ⟨i2, hi2, h⟩ := bs h
     obtain ⟨x3, hx3, h⟩ := bs h
     obtain ⟨r4, hr4, h⟩ := bs h
     obtain ⟨n5, h⟩ := need_some h
     exact loop_nQ [.le e_GValue a0.L, .lT c1, .na hi2, .ix hx3 (eq_GValue x3), .cl (H_spec_l2own x3 _ hr4), ⟨.room 88 (eL o_GValue v11) ([[.int .i64 r4.Kind, .int .i64 r4.N, .own 1 (eL e_u8 r4.S), .own 1 (eL (o_sl 1 e_u8) r4.K), .own 5 (eL o_GValue r4.L)]] : List (List C)), .b true, by rw [(show ([[.int .i64 r4.Kind, .int .i64 r4.N, .own 1 (eL e_u8 r4.S), .own 1 (eL (o_sl 1 e_u8) r4.K), .own 5 (eL o_GValue r4.L)]] : List (List C)) = eL o_GValue [r4] from (raw_cons (oeq_GValue r4) raw_nil))]; exact (A.room n5)⟩, ⟨.uni 5 ([[.int .i64 r4.Kind, .int .i64 r4.N, .own 1 (eL e_u8 r4.S), .own 1 (eL (o_sl 1 e_u8) r4.K), .own 5 (eL o_GValue r4.L)]] : List (List C)), .b true, by rw [(show ([[.int .i64 r4.Kind, .int .i64 r4.N, .own 1 (eL e_u8 r4.S), .own 1 (eL (o_sl 1 e_u8) r4.K), .own 5 (eL o_GValue r4.L)]] : List (List C)) = eL o_GValue [r4] from (raw_cons (oeq_GValue r4) raw_nil))]; exact (A.uniO O_GValue)⟩, ⟨.app (eL o_GValue v11) ([[.int .i64 r4.Kind, .int .i64 r4.N, .own 1 (eL e_u8 r4.S), .own 1 (eL (o_sl 1 e_u8) r4.K), .own 5 (eL o_GValue r4.L)]] : List (List C)), .l (eL o_GValue (v11 ++ [r4])), by rw [(show ([[.int .i64 r4.Kind, .int .i64 r4.N, .own 1 (eL e_u8 r4.S), .own 1 (eL (o_sl 1 e_u8) r4.K), .own 5 (eL o_GValue r4.L)]] : List (List C)) = eL o_GValue [r4] from (raw_cons (oeq_GValue r4) raw_nil))]; exact A.app⟩, .ad v0 1] (by kernel_rfl) (ih (w64 (v0 + 1)) (v11 ++ [r4]) o h)
    ·obtain rfl := Option.some.inj h
     exact loop_eQ [.le e_GValue a0.L, .lF c1] (by kernel_rfl) (by intro h; cases h)
def T_spec_l2own (G_spec_l2own : GValue → Option GValue) (n : Nat) (a0 : GValue) : Option GValue :=
  if roomP 1 (0 + a0.S.length) then
  (L_spec_l2own_l0 G_spec_l2own a0 0 0 a0.Kind a0.N [] [] [] a0.S [] n 0 []).bind fun ⟨o2_0, o2_1⟩ =>
  (L_spec_l2own_l1 G_spec_l2own a0 0 0 a0.Kind a0.N [] [] [] a0.S o2_1 n 0 []).bind fun ⟨o3_0, o3_1⟩ =>
  some (GValue.mk a0.Kind a0.N a0.S o2_1 o3_1)
  else none
set_option maxRecDepth 100000 in
theorem fd_116 : cfg.funcs 116 = some (bodyOf Tryz.f116, Tryz.f116.ntmps, Tryz.f116.results.toList) := fn_of Tryz.func116 (by kernel_rfl) (by kernel_rfl)
theorem g_spec_l2own (G_spec_l2own : GValue → Option GValue) (H_spec_l2own : ∀ (a0 : GValue) (r : GValue), G_spec_l2own a0 = some r → (mach cfg).call 116 [] [.val true [.int .i64 a0.Kind, .int .i64 a0.N, .seq (eL e_u8 a0.S), .seq (eL (e_sl e_u8) a0.K), .seq (eL e_GValue a0.L)]] = some (.val true [.int .i64 r.Kind, .int .i64 r.N, .own 1 (eL e_u8 r.S), .own 1 (eL (o_sl 1 e_u8) r.K), .own 5 (eL o_GValue r.L)], [])) (n : Nat) (a0 : GValue) (r : GValue) (h : T_spec_l2own G_spec_l2own n a0 = some r) : (mach cfg).call 116 [] [.val true [.int .i64 a0.Kind, .int .i64 a0.N, .seq (eL e_u8 a0.S), .seq (eL (e_sl e_u8) a0.K), .seq (eL e_GValue a0.L)]] = some (.val true [.int .i64 r.Kind, .int .i64 r.N, .own 1 (eL e_u8 r.S), .own 1 (eL (o_sl 1 e_u8) r.K), .own 5 (eL o_GValue r.L)], []) := by
  unfold T_spec_l2own at h
  obtain ⟨n1, h⟩ := need_some h
  obtain ⟨⟨o2_0, o2_1⟩, ho2, h⟩ := bs h
  try dsimp only at h
  obtain ⟨⟨o3_0, o3_1⟩, ho3, h⟩ := bs h
  try dsimp only at h
  obtain rfl := Option.some.inj h
  exact call_wQ [⟨.room 1 (eL e_u8 []) (eL e_u8 a0.S), .b true, (A.room n1)⟩, ⟨.uni 1 (eL e_u8 a0.S), .b true, (A.uni E_u8)⟩, ⟨.app (eL e_u8 []) (eL e_u8 a0.S), .l (eL e_u8 a0.S), A.app0⟩, .lp (gl_spec_l2own_l0 G_spec_l2own H_spec_l2own a0 0 0 a0.Kind a0.N [] [] [] a0.S [] _ 0 [] _ ho2), .lp (gl_spec_l2own_l1 G_spec_l2own H_spec_l2own a0 0 0 a0.Kind a0.N [] [] [] a0.S o2_1 _ 0 [] _ ho3)] rfl fd_116 (by kernel_rfl)
def U_spec_l2own : Nat → GValue → Option GValue
  | 0, _ => none
  | n + 1, a0 => T_spec_l2own (U_spec_l2own n) n a0
theorem rec_spec_l2own (n : Nat) : (∀ (a0 : GValue) (r : GValue), U_spec_l2own n a0 = some r → (mach cfg).call 116 [] [.val true [.int .i64 a0.Kind, .int .i64 a0.N, .seq (eL e_u8 a0.S), .seq (eL (e_sl e_u8) a0.K), .seq (eL e_GValue a0.L)]] = some (.val true [.int .i64 r.Kind, .int .i64 r.N, .own 1 (eL e_u8 r.S), .own 1 (eL (o_sl 1 e_u8) r.K), .own 5 (eL o_GValue r.L)], [])) := by
  induction n with
  | zero => exact fun _ _ h => (by rw [U_spec_l2own] at h; cases h)
  | succ n ih =>
    have ih_spec_l2own := ih
    exact fun a0 r h => g_spec_l2own (U_spec_l2own n) ih_spec_l2own n a0 r (by rw [U_spec_l2own] at h; exact h)
theorem l2own_loop0 {G : GValue → Option GValue} {a : GValue} {v2 v3 v4 v5 : Int} {v6 : List UInt8} {v7 : List (List UInt8)} {v8 : List GValue} {v9 : List UInt8} {v11 : List GValue} (ha : bsz a.K <= 2 ^ 39) : ∀ (l p : List (List UInt8)) (m : Nat), a.K = p ++ l → l.length < m → ∃ z, L_spec_l2own_l0 G a v2 v3 v4 v5 v6 v7 v8 v9 v11 m ((p.length : Nat) : Int) p = some (z, a.K) := by
  have hl := bsz_len a.K
  intro l
  induction l with
  | nil =>
    intro p m he hm
    obtain ⟨m, rfl, _⟩ := fuel hm
    exact ⟨_, by rw [L_spec_l2own_l0, he, if_neg (nlt_end p)]; simp; rfl⟩
  | cons x l ih =>
    intro p m he hm
    obtain ⟨m, rfl, hm'⟩ := fuel hm
    have hx : 1 + x.length <= bsz a.K := bsz_mem (by rw [he]; simp)
    have hlen : a.K.length = p.length + (l.length + 1) := by rw [he]; simp
    obtain ⟨z, hz⟩ := ih (p ++ [x]) m (by rw [he]; simp) (by simp only [List.length_cons] at hm'; omega)
    refine ⟨z, ?_⟩
    rw [L_spec_l2own_l0, if_pos (by rw [he]; exact lt_mid p x l), natO_nat, Option.bind_some, show a.K[p.length]? = some x by rw [he]; exact get_mid p x l, Option.bind_some, if_pos (room_ok (by decide) (by omega)), if_pos (room_ok (by decide) (by simp only [List.length_cons, List.length_nil]; omega)), w64_len p x (by omega), hz]
theorem l2own_loop1 {G : GValue → Option GValue} {a : GValue} {v2 v3 v4 v5 : Int} {v6 : List UInt8} {v7 : List (List UInt8)} {v8 : List GValue} {v9 : List UInt8} {v10 : List (List UInt8)} (ha : vszs a.L <= 2 ^ 39) : ∀ (l p : List GValue) (m : Nat), a.L = p ++ l → (∀ x ∈ l, G x = some x) → l.length < m → ∃ z, L_spec_l2own_l1 G a v2 v3 v4 v5 v6 v7 v8 v9 v10 m ((p.length : Nat) : Int) p = some (z, a.L) := by
  have hl := vszs_len a.L
  intro l
  induction l with
  | nil =>
    intro p m he _ hm
    obtain ⟨m, rfl, _⟩ := fuel hm
    exact ⟨_, by rw [L_spec_l2own_l1, he, if_neg (nlt_end p)]; simp; rfl⟩
  | cons x l ih =>
    intro p m he hG hm
    obtain ⟨m, rfl, hm'⟩ := fuel hm
    have hlen : a.L.length = p.length + (l.length + 1) := by rw [he]; simp
    obtain ⟨z, hz⟩ := ih (p ++ [x]) m (by rw [he]; simp) (fun y hy => hG y (List.mem_cons_of_mem _ hy)) (by simp only [List.length_cons] at hm'; omega)
    refine ⟨z, ?_⟩
    rw [L_spec_l2own_l1, if_pos (by omega), natO_nat, Option.bind_some, show a.L[p.length]? = some x by rw [he]; exact get_mid p x l, Option.bind_some, hG x List.mem_cons_self, Option.bind_some, if_pos (room_ok (by decide) (by simp only [List.length_cons, List.length_nil]; omega)), w64_len p x (by omega), hz]
theorem l2own_U : ∀ (N : Nat) (v : GValue), vsz v < N → vsz v <= 2 ^ 39 → ∀ f : Nat, vsz v + 2 <= f → U_spec_l2own f v = some v := by
  intro N
  induction N with
  | zero => intro v hv; omega
  | succ N ih =>
    intro v hv hs f hf
    obtain ⟨f, rfl, _⟩ := fuel (show 0 < f by omega)
    have he := vsz_eq v
    have hl := vszs_len v.L
    have hb := bsz_len v.K
    rw [U_spec_l2own]
    unfold T_spec_l2own
    rw [if_pos (room_ok (by decide) (by omega))]
    obtain ⟨y, hy⟩ := l2own_loop0 (G := U_spec_l2own f) (a := v) (v2 := 0) (v3 := 0) (v4 := v.Kind) (v5 := v.N) (v6 := []) (v7 := []) (v8 := []) (v9 := v.S) (v11 := []) (by omega) v.K [] f rfl (by omega)
    simp only [List.length_nil, Int.natCast_zero] at hy
    rw [hy, Option.bind_some]
    dsimp only
    obtain ⟨z, hz⟩ := l2own_loop1 (G := U_spec_l2own f) (a := v) (v2 := 0) (v3 := 0) (v4 := v.Kind) (v5 := v.N) (v6 := []) (v7 := []) (v8 := []) (v9 := v.S) (v10 := v.K) (by omega) v.L [] f rfl (fun x hx => by
      have := vszs_mem hx
      exact ih x (by omega) (by omega) f (by omega)) (by omega)
    simp only [List.length_nil, Int.natCast_zero] at hz
    rw [hz]
    exact congrArg some (GValue.eta v)
def S_spec_l2own (a0 : GValue) : Option GValue := if vsz a0 <= 2 ^ 39 then some a0 else none
theorem spec_spec_l2own (a0 : GValue) (r : GValue) (h : S_spec_l2own a0 = some r) : ∃ n, U_spec_l2own n a0 = some r := by
  unfold S_spec_l2own at h
  obtain ⟨ha, h⟩ := need_c h
  exact ⟨vsz a0 + 2, by rw [<- h]; exact l2own_U _ a0 (Nat.lt_succ_self _) ha _ (Nat.le_refl _)⟩
theorem ok_spec_l2own (a0 : GValue) (r : GValue) (h : S_spec_l2own a0 = some r) : (mach cfg).call 116 [] [.val true [.int .i64 a0.Kind, .int .i64 a0.N, .seq (eL e_u8 a0.S), .seq (eL (e_sl e_u8) a0.K), .seq (eL e_GValue a0.L)]] = some (.val true [.int .i64 r.Kind, .int .i64 r.N, .own 1 (eL e_u8 r.S), .own 1 (eL (o_sl 1 e_u8) r.K), .own 5 (eL o_GValue r.L)], []) := by
  obtain ⟨n, hn⟩ := spec_spec_l2own a0 r h
  exact (rec_spec_l2own n) a0 r hn
def L_spec_l4ownAddrs_l0 (a0 : (List (List UInt8))) : Nat → Int → (List (List UInt8)) → Option (Int × (List (List UInt8)))
  | 0, _, _ => none
  | m + 1, v1, v2 =>
    if v1 < ((a0.length : Nat) : Int) then
      (natO v1).bind fun i2 =>
      (a0[i2]?).bind fun x3 =>
      if roomP 1 (0 + x3.length) then
      if roomP 24 (v2.length + [x3].length) then
      L_spec_l4ownAddrs_l0 a0 m (w64 (v1 + 1)) (v2 ++ [x3])
      else none
      else none
    else
      some (v1, v2)
theorem gl_spec_l4ownAddrs_l0 (a0 : (List (List UInt8))) (m : Nat) : ∀ (v1 : Int) (v2 : (List (List UInt8))) (o : (Int × (List (List UInt8)))), L_spec_l4ownAddrs_l0 a0 m v1 v2 = some o → (mach cfg).loop 94 (loopB Tryz.f94 0) ⟨[(0, .val false [.seq (eL (e_sl e_u8) a0)]), (3, .val false [.ref 0]), (4, .val false [.int .i64 v1])], [.obj 1 (eL (o_sl 1 e_u8) v2)], 0⟩ = some (match o with | ⟨o_0, o_1⟩ => (.exit 0, (⟨[(0, .val false [.seq (eL (e_sl e_u8) a0)]), (3, .val false [.ref 0]), (4, .val false [.int .i64 o_0]), (8, .val false [.bool false])], [.obj 1 (eL (o_sl 1 e_u8) o_1)], 0⟩ : S))) := by
  induction m with
  | zero => intro v1 v2 o h; cases h
  | succ m ih =>
    intro v1 v2 o h
    rw [L_spec_l4ownAddrs_l0] at h
    rcases ite_some h with ⟨c1, h⟩ | ⟨c1, h⟩
    ·obtain ⟨i2, hi2, h⟩ := bs h
     obtain ⟨x3, hx3, h⟩ := bs h
     obtain ⟨n4, h⟩ := need_some h
     obtain ⟨n5, h⟩ := need_some h
     exact loop_nQ [.le (e_sl e_u8) a0, .lT c1, .na hi2, .ix0 (e_sl e_u8) hx3, ⟨.room 1 (eL e_u8 []) (eL e_u8 x3), .b true, (A.room n4)⟩, ⟨.uni 1 (eL e_u8 x3), .b true, (A.uni E_u8)⟩, ⟨.app (eL e_u8 []) (eL e_u8 x3), .l (eL e_u8 x3), A.app0⟩, ⟨.room 24 (eL (o_sl 1 e_u8) v2) (eL (o_sl 1 e_u8) [x3]), .b true, (A.room n5)⟩, ⟨.uni 1 (eL (o_sl 1 e_u8) [x3]), .b true, (A.uniO (O_sl 1 O_u8))⟩, ⟨.app (eL (o_sl 1 e_u8) v2) (eL (o_sl 1 e_u8) [x3]), .l (eL (o_sl 1 e_u8) (v2 ++ [x3])), A.app⟩, .ad v1 1] (by kernel_rfl) (ih (w64 (v1 + 1)) (v2 ++ [x3]) o h)
    ·obtain rfl := Option.some.inj h
     exact loop_eQ [.le (e_sl e_u8) a0, .lF c1] (by kernel_rfl) (by intro h; cases h)
def T_spec_l4ownAddrs (n : Nat) (a0 : (List (List UInt8))) : Option (List (List UInt8)) :=
  (L_spec_l4ownAddrs_l0 a0 n 0 []).bind fun ⟨o1_0, o1_1⟩ =>
  some o1_1
set_option maxRecDepth 100000 in
theorem fd_94 : cfg.funcs 94 = some (bodyOf Tryz.f94, Tryz.f94.ntmps, Tryz.f94.results.toList) := fn_of Tryz.func94 (by kernel_rfl) (by kernel_rfl)
theorem g_spec_l4ownAddrs (n : Nat) (a0 : (List (List UInt8))) (r : (List (List UInt8))) (h : T_spec_l4ownAddrs n a0 = some r) : (mach cfg).call 94 [] [.val false [.seq (eL (e_sl e_u8) a0)]] = some (.val false [.own 1 (eL (o_sl 1 e_u8) r)], []) := by
  unfold T_spec_l4ownAddrs at h
  obtain ⟨⟨o1_0, o1_1⟩, ho1, h⟩ := bs h
  try dsimp only at h
  obtain rfl := Option.some.inj h
  exact call_wQ [.lp (gl_spec_l4ownAddrs_l0 a0 _ 0 [] _ ho1)] rfl fd_94 (by kernel_rfl)
theorem l4own_loop {a : List (List UInt8)} (ha : bsz a <= 2 ^ 39) : ∀ (l p : List (List UInt8)) (m : Nat), a = p ++ l → l.length < m → ∃ z, L_spec_l4ownAddrs_l0 a m ((p.length : Nat) : Int) p = some (z, a) := by
  have hl := bsz_len a
  intro l
  induction l with
  | nil =>
    intro p m he hm
    subst he
    obtain ⟨m, rfl, _⟩ := fuel hm
    exact ⟨_, by rw [L_spec_l4ownAddrs_l0, if_neg (nlt_end p)]; simp; rfl⟩
  | cons x l ih =>
    intro p m he hm
    obtain ⟨m, rfl, hm'⟩ := fuel hm
    have hx : 1 + x.length <= bsz a := bsz_mem (by rw [he]; simp)
    have hlen : a.length = p.length + (l.length + 1) := by rw [he]; simp
    obtain ⟨z, hz⟩ := ih (p ++ [x]) m (by rw [he]; simp) (by simp only [List.length_cons] at hm'; omega)
    refine ⟨z, ?_⟩
    rw [L_spec_l4ownAddrs_l0, if_pos (by rw [he]; exact lt_mid p x l), natO_nat, Option.bind_some, show a[p.length]? = some x by rw [he]; exact get_mid p x l, Option.bind_some, if_pos (room_ok (by decide) (by omega)), if_pos (room_ok (by decide) (by simp only [List.length_cons, List.length_nil]; omega)), w64_len p x (by omega), hz]
def S_spec_l4ownAddrs (a0 : (List (List UInt8))) : Option (List (List UInt8)) := if bsz a0 <= 2 ^ 39 then some a0 else none
theorem spec_spec_l4ownAddrs (a0 : (List (List UInt8))) (r : (List (List UInt8))) (h : S_spec_l4ownAddrs a0 = some r) : ∃ n, T_spec_l4ownAddrs n a0 = some r := by
  unfold S_spec_l4ownAddrs at h
  obtain ⟨ha, h⟩ := need_c h
  obtain ⟨z, hz⟩ := l4own_loop ha a0 [] (a0.length + 1) rfl (by omega)
  refine ⟨a0.length + 1, ?_⟩
  unfold T_spec_l4ownAddrs
  simp only [List.length_nil, Int.natCast_zero] at hz
  rw [hz]; exact h
theorem ok_spec_l4ownAddrs (a0 : (List (List UInt8))) (r : (List (List UInt8))) (h : S_spec_l4ownAddrs a0 = some r) : (mach cfg).call 94 [] [.val false [.seq (eL (e_sl e_u8) a0)]] = some (.val false [.own 1 (eL (o_sl 1 e_u8) r)], []) := by
  obtain ⟨n, hn⟩ := spec_spec_l4ownAddrs a0 r h
  exact g_spec_l4ownAddrs n a0 r hn
def S_spec_l4ownEntry (a0 : GEntry) : Option GEntry :=
  if roomP 1 (0 + a0.Addr.length) then
  (S_spec_l2own a0.Val).bind fun r2 =>
  (S_spec_l4ownAddrs a0.Deps).bind fun r3 =>
  some (GEntry.mk a0.Addr r2 r3 a0.Taint a0.Turned)
  else none
set_option maxRecDepth 100000 in
theorem fd_73 : cfg.funcs 73 = some (bodyOf Tryz.f73, Tryz.f73.ntmps, Tryz.f73.results.toList) := fn_of Tryz.func73 (by kernel_rfl) (by kernel_rfl)
theorem ok_spec_l4ownEntry (a0 : GEntry) (r : GEntry) (h : S_spec_l4ownEntry a0 = some r) : (mach cfg).call 73 [] [.val true [.seq (eL e_u8 a0.Addr), .int .i64 a0.Val.Kind, .int .i64 a0.Val.N, .seq (eL e_u8 a0.Val.S), .seq (eL (e_sl e_u8) a0.Val.K), .seq (eL e_GValue a0.Val.L), .seq (eL (e_sl e_u8) a0.Deps), .bool a0.Taint, .int .i64 a0.Turned]] = some (.val true [.own 1 (eL e_u8 r.Addr), .int .i64 r.Val.Kind, .int .i64 r.Val.N, .own 1 (eL e_u8 r.Val.S), .own 1 (eL (o_sl 1 e_u8) r.Val.K), .own 5 (eL o_GValue r.Val.L), .own 1 (eL (o_sl 1 e_u8) r.Deps), .bool r.Taint, .int .i64 r.Turned], []) := by
  unfold S_spec_l4ownEntry at h
  obtain ⟨n1, h⟩ := need_some h
  obtain ⟨r2, hr2, h⟩ := bs h
  obtain ⟨r3, hr3, h⟩ := bs h
  obtain rfl := Option.some.inj h
  exact call_wQ [⟨.room 1 (eL e_u8 []) (eL e_u8 a0.Addr), .b true, (A.room n1)⟩, ⟨.uni 1 (eL e_u8 a0.Addr), .b true, (A.uni E_u8)⟩, ⟨.app (eL e_u8 []) (eL e_u8 a0.Addr), .l (eL e_u8 a0.Addr), A.app0⟩, .cl (ok_spec_l2own a0.Val _ hr2), .cl (ok_spec_l4ownAddrs a0.Deps _ hr3)] rfl fd_73 (by kernel_rfl)
def S_spec_EntryOf (a0 : GState) (a1 : (List UInt8)) : Option (GEntry × Bool) :=
  (S_spec_StateOk a0).bind fun r1 =>
  match r1 with
  | true =>
    (S_spec_l4find a0 a1).bind fun r3 =>
    if r3 < 0 then
      some ((GEntry.mk [] (GValue.mk 0 0 [] [] []) [] false 0), false)
    else
      (natO r3).bind fun i5 =>
      (a0.Entries[i5]?).bind fun x6 =>
      (S_spec_l4ownEntry x6).bind fun r7 =>
      some (r7, true)
  | false =>
    some ((GEntry.mk [] (GValue.mk 0 0 [] [] []) [] false 0), false)
set_option maxRecDepth 100000 in
theorem fd_29 : cfg.funcs 29 = some (bodyOf Tryz.f29, Tryz.f29.ntmps, Tryz.f29.results.toList) := fn_of Tryz.func29 (by kernel_rfl) (by kernel_rfl)
theorem ok_spec_EntryOf (a0 : GState) (a1 : (List UInt8)) (r : (GEntry × Bool)) (h : S_spec_EntryOf a0 a1 = some r) : (mach cfg).call 29 [] [.val true [.int .i64 a0.Serial, .bool a0.Open, .seq (eL e_u8 a0.Pending), .int .i64 a0.Act, .seq (eL e_GEntry a0.Entries)], .val false [.seq (eL e_u8 a1)]] = some (.tup [(true, [.own 1 (eL e_u8 r.1.Addr), .int .i64 r.1.Val.Kind, .int .i64 r.1.Val.N, .own 1 (eL e_u8 r.1.Val.S), .own 1 (eL (o_sl 1 e_u8) r.1.Val.K), .own 5 (eL o_GValue r.1.Val.L), .own 1 (eL (o_sl 1 e_u8) r.1.Deps), .bool r.1.Taint, .int .i64 r.1.Turned]), (false, [.bool r.2])], []) := by
  unfold S_spec_EntryOf at h
  obtain ⟨r1, hr1, h⟩ := bs h
  let p41 : List (Q cfg) := [.cl (ok_spec_StateOk a0 _ hr1)]
  cases r1 with
  | true =>
   try dsimp only at h
   obtain ⟨r3, hr3, h⟩ := bs h
   rcases ite_some h with ⟨c4, h⟩ | ⟨c4, h⟩
   ·obtain rfl := Option.some.inj h
    exact call_wQ (p41 ++ [.nt true, .cl (ok_spec_l4find a0 a1 _ hr3), .lT c4]) rfl fd_29 (by kernel_rfl)
   ·obtain ⟨i5, hi5, h⟩ := bs h
    obtain ⟨x6, hx6, h⟩ := bs h
    obtain ⟨r7, hr7, h⟩ := bs h
    obtain rfl := Option.some.inj h
    exact call_wQ (p41 ++ [.nt true, .cl (ok_spec_l4find a0 a1 _ hr3), .lF c4, .na hi5, .ix hx6 (eq_GEntry x6), .cl (ok_spec_l4ownEntry x6 _ hr7)]) rfl fd_29 (by kernel_rfl)
  | false =>
   try dsimp only at h
   obtain rfl := Option.some.inj h
   exact call_wQ (p41 ++ [.nt false]) rfl fd_29 (by kernel_rfl)
def S_bytes_Compare (a0 : (List UInt8)) (a1 : (List UInt8)) : Option Int :=
  (S_internal_bytealg_Compare a0 a1).bind fun r1 =>
  some r1
set_option maxRecDepth 100000 in
theorem fd_97 : cfg.funcs 97 = some (bodyOf Tryz.f97, Tryz.f97.ntmps, Tryz.f97.results.toList) := fn_of Tryz.func97 (by kernel_rfl) (by kernel_rfl)
theorem ok_bytes_Compare (a0 : (List UInt8)) (a1 : (List UInt8)) (r : Int) (h : S_bytes_Compare a0 a1 = some r) : (mach cfg).call 97 [] [.val false [.seq (eL e_u8 a0)], .val false [.seq (eL e_u8 a1)]] = some (.val false [.int .i64 r], []) := by
  unfold S_bytes_Compare at h
  obtain ⟨r1, hr1, h⟩ := bs h
  obtain rfl := Option.some.inj h
  exact call_wQ [.cl (ok_internal_bytealg_Compare a0 a1 _ hr1)] rfl fd_97 (by kernel_rfl)
def S_impl_State_entryAt_1 (a0 : GEntry) (a1 : (List UInt8)) : Option Int :=
  (S_bytes_Compare a0.Addr a1).bind fun r1 =>
  some r1
set_option maxRecDepth 100000 in
theorem fd_118 : cfg.funcs 118 = some (bodyOf Tryz.f118, Tryz.f118.ntmps, Tryz.f118.results.toList) := fn_of Tryz.func118 (by kernel_rfl) (by kernel_rfl)
theorem ok_impl_State_entryAt_1 (a0 : GEntry) (a1 : (List UInt8)) (r : Int) (h : S_impl_State_entryAt_1 a0 a1 = some r) : (mach cfg).call 118 [] [.val true [.seq (eL e_u8 a0.Addr), .int .i64 a0.Val.Kind, .int .i64 a0.Val.N, .seq (eL e_u8 a0.Val.S), .seq (eL (e_sl e_u8) a0.Val.K), .seq (eL e_GValue a0.Val.L), .seq (eL (e_sl e_u8) a0.Deps), .bool a0.Taint, .int .i64 a0.Turned], .val false [.seq (eL e_u8 a1)]] = some (.val false [.int .i64 r], []) := by
  unfold S_impl_State_entryAt_1 at h
  obtain ⟨r1, hr1, h⟩ := bs h
  obtain rfl := Option.some.inj h
  exact call_wQ [.cl (ok_bytes_Compare a0.Addr a1 _ hr1)] rfl fd_118 (by kernel_rfl)
def L_slices_BinarySearchFunc_byte_State_entryAt_1_l0 (a0 : (List GEntry)) (a1 : (List UInt8)) (v2 : Int) : Nat → Int → Int → Option (Int × Int)
  | 0, _, _ => none
  | m + 1, v3, v4 =>
    if v3 < v4 then
      (natO (w64 (bitI .shr .u64 (IntKind.u64.wrap (w64 (v3 + v4))) 1))).bind fun i2 =>
      (a0[i2]?).bind fun x3 =>
      (S_impl_State_entryAt_1 x3 a1).bind fun r4 =>
      if r4 < 0 then
        L_slices_BinarySearchFunc_byte_State_entryAt_1_l0 a0 a1 v2 m (w64 ((w64 (bitI .shr .u64 (IntKind.u64.wrap (w64 (v3 + v4))) 1)) + 1)) v4
      else
        L_slices_BinarySearchFunc_byte_State_entryAt_1_l0 a0 a1 v2 m v3 (w64 (bitI .shr .u64 (IntKind.u64.wrap (w64 (v3 + v4))) 1))
    else
      some (v3, v4)
theorem gl_slices_BinarySearchFunc_byte_State_entryAt_1_l0 (a0 : (List GEntry)) (a1 : (List UInt8)) (v2 : Int) (m : Nat) : ∀ (v3 : Int) (v4 : Int) (o : (Int × Int)), L_slices_BinarySearchFunc_byte_State_entryAt_1_l0 a0 a1 v2 m v3 v4 = some o → (mach cfg).loop 117 (loopB Tryz.f117 0) ⟨[(0, .val false [.seq (eL e_GEntry a0)]), (1, .val false [.seq (eL e_u8 a1)]), (2, .val false [.fn 118 []]), (8, .val false [.int .i64 v2]), (9, .val false [.int .i64 v3]), (10, .val false [.int .i64 v4])], [], 0⟩ = some (match o with | ⟨o_0, o_1⟩ => (.exit 0, (⟨[(0, .val false [.seq (eL e_GEntry a0)]), (1, .val false [.seq (eL e_u8 a1)]), (2, .val false [.fn 118 []]), (8, .val false [.int .i64 v2]), (9, .val false [.int .i64 o_0]), (10, .val false [.int .i64 o_1]), (17, .val false [.bool false])], [], 0⟩ : S))) := by
  induction m with
  | zero => intro v3 v4 o h; cases h
  | succ m ih =>
    intro v3 v4 o h
    rw [L_slices_BinarySearchFunc_byte_State_entryAt_1_l0] at h
    rcases ite_some h with ⟨c1, h⟩ | ⟨c1, h⟩
    ·obtain ⟨i2, hi2, h⟩ := bs h
     obtain ⟨x3, hx3, h⟩ := bs h
     obtain ⟨r4, hr4, h⟩ := bs h
     let p42 : List (Q cfg) := [.lT c1, .ad v3 v4, ⟨.conv .u64 (w64 (v3 + v4)), .i (IntKind.u64.wrap (w64 (v3 + v4))), rfl⟩]
     rcases ite_some h with ⟨c5, h⟩ | ⟨c5, h⟩
     ·exact loop_nQ (p42 ++ [.gTo 0 1 (by decide), ⟨.bit .shr .u64 (IntKind.u64.wrap (w64 (v3 + v4))) 1, .i (bitI .shr .u64 (IntKind.u64.wrap (w64 (v3 + v4))) 1), rfl⟩, ⟨.conv .i64 (bitI .shr .u64 (IntKind.u64.wrap (w64 (v3 + v4))) 1), .i (w64 (bitI .shr .u64 (IntKind.u64.wrap (w64 (v3 + v4))) 1)), rfl⟩, .na hi2, .ix hx3 (eq_GEntry x3), .cl (ok_impl_State_entryAt_1 x3 a1 _ hr4), .lT c5, .ad (w64 (bitI .shr .u64 (IntKind.u64.wrap (w64 (v3 + v4))) 1)) 1]) (by kernel_rfl) (ih (w64 ((w64 (bitI .shr .u64 (IntKind.u64.wrap (w64 (v3 + v4))) 1)) + 1)) v4 o h)
     ·exact loop_nQ (p42 ++ [.gTo 0 1 (by decide), ⟨.bit .shr .u64 (IntKind.u64.wrap (w64 (v3 + v4))) 1, .i (bitI .shr .u64 (IntKind.u64.wrap (w64 (v3 + v4))) 1), rfl⟩, ⟨.conv .i64 (bitI .shr .u64 (IntKind.u64.wrap (w64 (v3 + v4))) 1), .i (w64 (bitI .shr .u64 (IntKind.u64.wrap (w64 (v3 + v4))) 1)), rfl⟩, .na hi2, .ix hx3 (eq_GEntry x3), .cl (ok_impl_State_entryAt_1 x3 a1 _ hr4), .lF c5]) (by kernel_rfl) (ih v3 (w64 (bitI .shr .u64 (IntKind.u64.wrap (w64 (v3 + v4))) 1)) o h)
    ·obtain rfl := Option.some.inj h
     exact loop_eQ [.lF c1] (by kernel_rfl) (by intro h; cases h)
def T_slices_BinarySearchFunc_byte_State_entryAt_1 (n : Nat) (a0 : (List GEntry)) (a1 : (List UInt8)) : Option (Int × Bool) :=
  (L_slices_BinarySearchFunc_byte_State_entryAt_1_l0 a0 a1 ((a0.length : Nat) : Int) n 0 ((a0.length : Nat) : Int)).bind fun ⟨o1_0, o1_1⟩ =>
  if o1_0 < ((a0.length : Nat) : Int) then
    (natO o1_0).bind fun i3 =>
    (a0[i3]?).bind fun x4 =>
    (S_impl_State_entryAt_1 x4 a1).bind fun r5 =>
    some (o1_0, (decide (r5 = 0)))
  else
    some (o1_0, false)
set_option maxRecDepth 100000 in
theorem fd_117 : cfg.funcs 117 = some (bodyOf Tryz.f117, Tryz.f117.ntmps, Tryz.f117.results.toList) := fn_of Tryz.func117 (by kernel_rfl) (by kernel_rfl)
theorem g_slices_BinarySearchFunc_byte_State_entryAt_1 (n : Nat) (a0 : (List GEntry)) (a1 : (List UInt8)) (r : (Int × Bool)) (h : T_slices_BinarySearchFunc_byte_State_entryAt_1 n a0 a1 = some r) : (mach cfg).call 117 [] [.val false [.seq (eL e_GEntry a0)], .val false [.seq (eL e_u8 a1)], .val false [.fn 118 []]] = some (.tup [(false, [.int .i64 r.1]), (false, [.bool r.2])], []) := by
  unfold T_slices_BinarySearchFunc_byte_State_entryAt_1 at h
  obtain ⟨⟨o1_0, o1_1⟩, ho1, h⟩ := bs h
  try dsimp only at h
  rcases ite_some h with ⟨c2, h⟩ | ⟨c2, h⟩
  ·obtain ⟨i3, hi3, h⟩ := bs h
   obtain ⟨x4, hx4, h⟩ := bs h
   obtain ⟨r5, hr5, h⟩ := bs h
   obtain rfl := Option.some.inj h
   exact call_wQ [.le e_GEntry a0, .lp (gl_slices_BinarySearchFunc_byte_State_entryAt_1_l0 a0 a1 ((a0.length : Nat) : Int) _ 0 ((a0.length : Nat) : Int) _ ho1), .lT c2, .na hi3, .ix hx4 (eq_GEntry x4), .cl (ok_impl_State_entryAt_1 x4 a1 _ hr5), .eD r5 0] rfl fd_117 (by kernel_rfl)
  ·obtain rfl := Option.some.inj h
   exact call_wQ [.le e_GEntry a0, .lp (gl_slices_BinarySearchFunc_byte_State_entryAt_1_l0 a0 a1 ((a0.length : Nat) : Int) _ 0 ((a0.length : Nat) : Int) _ ho1), .lF c2] rfl fd_117 (by kernel_rfl)
theorem eat_cmp (e : GEntry) (x : List UInt8) : S_impl_State_entryAt_1 e x = some (Lib.compareBytes e.Addr x) := rfl
theorem eat_any {a : List GEntry} {x : List UInt8} {v2 : Int} (ha : a.length <= 2 ^ 40) : ∀ (d i j m : Nat), j - i <= d → i <= j → j <= a.length → d < m → ∃ c c' : Nat, c <= a.length ∧ L_slices_BinarySearchFunc_byte_State_entryAt_1_l0 a x v2 m (i : Int) (j : Int) = some ((c : Int), (c' : Int)) := by
  intro d
  induction d with
  | zero =>
    intro i j m hd h1 h3 hm
    obtain ⟨m, rfl, _⟩ := fuel hm
    exact ⟨i, j, by omega, by rw [L_slices_BinarySearchFunc_byte_State_entryAt_1_l0, if_neg (by omega)]⟩
  | succ d ih =>
    intro i j m hd h1 h3 hm
    obtain ⟨m, rfl, hm'⟩ := fuel hm
    by_cases hij : i < j
    · have hk : (i + j) / 2 < a.length := by omega
      rw [L_slices_BinarySearchFunc_byte_State_entryAt_1_l0, if_pos (by omega), mid_eq (by omega), natO_nat, Option.bind_some, get_some hk, Option.bind_some, eat_cmp, Option.bind_some]
      split
      · rw [w64_succ (by omega)]
        exact ih _ _ m (by omega) (by omega) h3 (by omega)
      · exact ih _ _ m (by omega) (by omega) (by omega) (by omega)
    · exact ⟨i, j, by omega, by rw [L_slices_BinarySearchFunc_byte_State_entryAt_1_l0, if_neg (by omega)]⟩
theorem eat_loop {a : List GEntry} {x : List UInt8} {c : Nat} {v2 : Int} (hp : Part (a.map GEntry.Addr) x c) (ha : a.length <= 2 ^ 40) : ∀ (d i j m : Nat), j - i <= d → i <= c → c <= j → j <= a.length → d < m → L_slices_BinarySearchFunc_byte_State_entryAt_1_l0 a x v2 m (i : Int) (j : Int) = some ((c : Int), (c : Int)) := by
  intro d
  induction d with
  | zero =>
    intro i j m hd h1 h2 h3 hm
    obtain ⟨m, rfl, _⟩ := fuel hm
    rw [L_slices_BinarySearchFunc_byte_State_entryAt_1_l0, if_neg (by omega), show i = c by omega, show j = c by omega]
  | succ d ih =>
    intro i j m hd h1 h2 h3 hm
    obtain ⟨m, rfl, hm'⟩ := fuel hm
    by_cases hij : i < j
    · have hk : (i + j) / 2 < a.length := by omega
      rw [L_slices_BinarySearchFunc_byte_State_entryAt_1_l0, if_pos (by omega), mid_eq (by omega), natO_nat, Option.bind_some, get_some hk, Option.bind_some, eat_cmp, Option.bind_some]
      have hq := hp.2 ((i + j) / 2) (by rw [List.length_map]; exact hk)
      rw [List.getElem_map] at hq
      by_cases hl : Op.bytesLess a[(i + j) / 2].Addr x = true
      · rw [if_pos (by rw [cmp_neg]; exact hl), w64_succ (by omega)]
        have := hq.2 hl
        exact ih _ _ m (by omega) (by omega) h2 h3 (by omega)
      · rw [if_neg (by rw [cmp_neg]; exact hl)]
        have : ¬ (i + j) / 2 < c := fun h => hl (hq.1 h)
        exact ih _ _ m (by omega) h1 (by omega) (by omega) (by omega)
    · rw [L_slices_BinarySearchFunc_byte_State_entryAt_1_l0, if_neg (by omega), show i = c by omega, show j = c by omega]
def S_slices_BinarySearchFunc_byte_State_entryAt_1 (a0 : (List GEntry)) (a1 : (List UInt8)) : Option (Int × Bool) := T_slices_BinarySearchFunc_byte_State_entryAt_1 (a0.length + 5) a0 a1
theorem spec_slices_BinarySearchFunc_byte_State_entryAt_1 (a0 : (List GEntry)) (a1 : (List UInt8)) (r : (Int × Bool)) (h : S_slices_BinarySearchFunc_byte_State_entryAt_1 a0 a1 = some r) : ∃ n, T_slices_BinarySearchFunc_byte_State_entryAt_1 n a0 a1 = some r := ⟨_, h⟩
theorem eat_some {a : List GEntry} {x : List UInt8} (ha : a.length <= 2 ^ 40) : ∃ (c : Nat) (b : Bool), S_slices_BinarySearchFunc_byte_State_entryAt_1 a x = some ((c : Int), b) := by
  unfold S_slices_BinarySearchFunc_byte_State_entryAt_1 T_slices_BinarySearchFunc_byte_State_entryAt_1
  obtain ⟨c, c', hc, hl⟩ := eat_any (x := x) (v2 := ((a.length : Nat) : Int)) ha a.length 0 a.length (a.length + 5) (by omega) (by omega) (Nat.le_refl _) (by omega)
  rw [show ((0 : Nat) : Int) = 0 from rfl] at hl
  rw [hl, Option.bind_some]
  dsimp only
  by_cases h : c < a.length
  · rw [if_pos (by omega), natO_nat, Option.bind_some, get_some h, Option.bind_some, eat_cmp, Option.bind_some]
    exact ⟨c, _, rfl⟩
  · rw [if_neg (by omega)]
    exact ⟨c, _, rfl⟩
theorem hasB_iff {l : List GEntry} {a : List UInt8} : hasB l a = true ↔ a ∈ l.map GEntry.Addr := by
  unfold hasB
  rw [List.any_eq_true, List.mem_map]
  constructor
  · rintro ⟨e, he, h⟩; exact ⟨e, he, of_decide_eq_true h⟩
  · rintro ⟨e, he, rfl⟩; exact ⟨e, he, decide_eq_true rfl⟩
theorem eat_eq {a : List GEntry} {x : List UInt8} (ha : a.length <= 2 ^ 40) (h : Asc (a.map GEntry.Addr)) : ∃ c : Nat, Part (a.map GEntry.Addr) x c ∧ S_slices_BinarySearchFunc_byte_State_entryAt_1 a x = some ((c : Int), hasB a x) := by
  obtain ⟨c, hp⟩ := Part.of h x
  refine ⟨c, hp, ?_⟩
  have hm := Part.mem h hp
  have hcl : c <= a.length := by have := hp.1; rwa [List.length_map] at this
  unfold S_slices_BinarySearchFunc_byte_State_entryAt_1 T_slices_BinarySearchFunc_byte_State_entryAt_1
  have hl := eat_loop (v2 := ((a.length : Nat) : Int)) hp ha a.length 0 a.length (a.length + 5) (by omega) (by omega) hcl (Nat.le_refl _) (by omega)
  rw [show ((0 : Nat) : Int) = 0 from rfl] at hl
  rw [hl, Option.bind_some]
  dsimp only
  have hb : hasB a x = decide ((a.map GEntry.Addr)[c]? = some x) := by
    cases hx : hasB a x with
    | true => exact (decide_eq_true (hm.2 (hasB_iff.1 hx))).symm
    | false => exact (decide_eq_false fun h' => by rw [hasB_iff.2 (hm.1 h')] at hx; cases hx).symm
  rw [hb, List.getElem?_map]
  by_cases hc : c < a.length
  · rw [if_pos (by omega), natO_nat, Option.bind_some, get_some hc, Option.bind_some, eat_cmp, Option.bind_some]
    congr 2
    exact decide_eq_decide.2 ((cmp_zero _ _).trans (by simp))
  · rw [if_neg (by omega), List.getElem?_eq_none (by omega)]
    simp
theorem ok_slices_BinarySearchFunc_byte_State_entryAt_1 (a0 : (List GEntry)) (a1 : (List UInt8)) (r : (Int × Bool)) (h : S_slices_BinarySearchFunc_byte_State_entryAt_1 a0 a1 = some r) : (mach cfg).call 117 [] [.val false [.seq (eL e_GEntry a0)], .val false [.seq (eL e_u8 a1)], .val false [.fn 118 []]] = some (.tup [(false, [.int .i64 r.1]), (false, [.bool r.2])], []) := by
  obtain ⟨n, hn⟩ := spec_slices_BinarySearchFunc_byte_State_entryAt_1 a0 a1 r h
  exact g_slices_BinarySearchFunc_byte_State_entryAt_1 n a0 a1 r hn
def S_impl_State_entryAt (a0 : GState) (a1 : (List UInt8)) : Option (Int × Bool) :=
  (S_slices_BinarySearchFunc_byte_State_entryAt_1 a0.Entries a1).bind fun ⟨r1_0, r1_1⟩ =>
  some (r1_0, r1_1)
set_option maxRecDepth 100000 in
theorem fd_74 : cfg.funcs 74 = some (bodyOf Tryz.f74, Tryz.f74.ntmps, Tryz.f74.results.toList) := fn_of Tryz.func74 (by kernel_rfl) (by kernel_rfl)
theorem ok_impl_State_entryAt (a0 : GState) (a1 : (List UInt8)) (r : (Int × Bool)) (h : S_impl_State_entryAt a0 a1 = some r) : (mach cfg).call 74 [] [.val true [.int .i64 a0.Serial, .bool a0.Open, .seq (eL e_u8 a0.Pending), .int .i64 a0.Act, .seq (eL e_GEntry a0.Entries)], .val false [.seq (eL e_u8 a1)]] = some (.tup [(false, [.int .i64 r.1]), (false, [.bool r.2])], []) := by
  unfold S_impl_State_entryAt at h
  obtain ⟨⟨r1_0, r1_1⟩, hr1, h⟩ := bs h
  try dsimp only at h
  obtain rfl := Option.some.inj h
  exact call_wQ [.cl (ok_slices_BinarySearchFunc_byte_State_entryAt_1 a0.Entries a1 _ hr1)] rfl fd_74 (by kernel_rfl)
def S_impl_in (a0 : Int) (a1 : Int) (a2 : Int) : Option Bool :=
  if a1 <= a0 then
    some (decide (a0 <= a2))
  else
    some false
set_option maxRecDepth 100000 in
theorem fd_110 : cfg.funcs 110 = some (bodyOf Tryz.f110, Tryz.f110.ntmps, Tryz.f110.results.toList) := fn_of Tryz.func110 (by kernel_rfl) (by kernel_rfl)
theorem ok_impl_in (a0 : Int) (a1 : Int) (a2 : Int) (r : Bool) (h : S_impl_in a0 a1 a2 = some r) : (mach cfg).call 110 [] [.val false [.int .i64 a0], .val false [.int .i64 a1], .val false [.int .i64 a2]] = some (.val false [.bool r], []) := by
  unfold S_impl_in at h
  rcases ite_some h with ⟨c1, h⟩ | ⟨c1, h⟩
  ·obtain rfl := Option.some.inj h
   exact call_wQ [.gT c1, .gD a0 a2] rfl fd_110 (by kernel_rfl)
  ·obtain rfl := Option.some.inj h
   exact call_wQ [.gF c1] rfl fd_110 (by kernel_rfl)
def S_bytes_IndexByte (a0 : (List UInt8)) (a1 : UInt8) : Option Int :=
  (S_internal_bytealg_IndexByte a0 a1).bind fun r1 =>
  some r1
set_option maxRecDepth 100000 in
theorem fd_186 : cfg.funcs 186 = some (bodyOf Tryz.f186, Tryz.f186.ntmps, Tryz.f186.results.toList) := fn_of Tryz.func186 (by kernel_rfl) (by kernel_rfl)
theorem ok_bytes_IndexByte (a0 : (List UInt8)) (a1 : UInt8) (r : Int) (h : S_bytes_IndexByte a0 a1 = some r) : (mach cfg).call 186 [] [.val false [.seq (eL e_u8 a0)], .val false [.int .u8 ((a1.toNat : Nat) : Int)]] = some (.val false [.int .i64 r], []) := by
  unfold S_bytes_IndexByte at h
  obtain ⟨r1, hr1, h⟩ := bs h
  obtain rfl := Option.some.inj h
  exact call_wQ [.cl (ok_internal_bytealg_IndexByte a0 a1 _ hr1)] rfl fd_186 (by kernel_rfl)
def S_bytes_Equal (a0 : (List UInt8)) (a1 : (List UInt8)) : Option Bool :=
  some (decide (a0 = a1))
set_option maxRecDepth 100000 in
theorem fd_72 : cfg.funcs 72 = some (bodyOf Tryz.f72, Tryz.f72.ntmps, Tryz.f72.results.toList) := fn_of Tryz.func72 (by kernel_rfl) (by kernel_rfl)
theorem ok_bytes_Equal (a0 : (List UInt8)) (a1 : (List UInt8)) (r : Bool) (h : S_bytes_Equal a0 a1 = some r) : (mach cfg).call 72 [] [.val false [.seq (eL e_u8 a0)], .val false [.seq (eL e_u8 a1)]] = some (.val false [.bool r], []) := by
  unfold S_bytes_Equal at h
  obtain rfl := Option.some.inj h
  exact call_wQ [⟨.bytes (eL e_u8 a0), .s a0, A.bytes⟩, ⟨.bytes (eL e_u8 a1), .s a1, A.bytes⟩, ⟨.eqS a0 a1, .b (decide (a0 = a1)), A.eqS_d⟩] rfl fd_72 (by kernel_rfl)
def S_bytes_Index (a0 : (List UInt8)) (a1 : (List UInt8)) : Option Int :=
  if ((a1.length : Nat) : Int) = 0 then
    some 0
  else
    if ((a1.length : Nat) : Int) = 1 then
      (a1[0]?).bind fun x3 =>
      (S_bytes_IndexByte a0 x3).bind fun r4 =>
      some r4
    else
      if ((a1.length : Nat) : Int) = ((a0.length : Nat) : Int) then
        (S_bytes_Equal a1 a0).bind fun r4 =>
        match r4 with
        | true =>
          some 0
        | false =>
          some (-1)
      else
        if ((a0.length : Nat) : Int) < ((a1.length : Nat) : Int) then
          some (-1)
        else
          none
set_option maxRecDepth 100000 in
theorem fd_171 : cfg.funcs 171 = some (bodyOf Tryz.f171, Tryz.f171.ntmps, Tryz.f171.results.toList) := fn_of Tryz.func171 (by kernel_rfl) (by kernel_rfl)
theorem ok_bytes_Index (a0 : (List UInt8)) (a1 : (List UInt8)) (r : Int) (h : S_bytes_Index a0 a1 = some r) : (mach cfg).call 171 [] [.val false [.seq (eL e_u8 a0)], .val false [.seq (eL e_u8 a1)]] = some (.val false [.int .i64 r], []) := by
  unfold S_bytes_Index at h
  rcases ite_some h with ⟨c1, h⟩ | ⟨c1, h⟩
  ·obtain rfl := Option.some.inj h
   exact call_wQ [.le e_u8 a1, .eT c1] rfl fd_171 (by kernel_rfl)
  ·rcases ite_some h with ⟨c2, h⟩ | ⟨c2, h⟩
   ·obtain ⟨x3, hx3, h⟩ := bs h
    obtain ⟨r4, hr4, h⟩ := bs h
    obtain rfl := Option.some.inj h
    exact call_wQ [.le e_u8 a1, .eF c1, .eT c2, ⟨.nat 0, .n 0, rfl⟩, .ix0 e_u8 hx3, .cl (ok_bytes_IndexByte a0 x3 _ hr4)] rfl fd_171 (by kernel_rfl)
   ·rcases ite_some h with ⟨c3, h⟩ | ⟨c3, h⟩
    ·obtain ⟨r4, hr4, h⟩ := bs h
     let p43 : List (Q cfg) := [.le e_u8 a1, .eF c1, .eF c2, .le e_u8 a0, .eT c3, .cl (ok_bytes_Equal a1 a0 _ hr4)]
     cases r4 with
     | true =>
      try dsimp only at h
      obtain rfl := Option.some.inj h
      exact call_wQ p43 rfl fd_171 (by kernel_rfl)
     | false =>
      try dsimp only at h
      obtain rfl := Option.some.inj h
      exact call_wQ p43 rfl fd_171 (by kernel_rfl)
    ·rcases ite_some h with ⟨c4, h⟩ | ⟨c4, h⟩
     ·obtain rfl := Option.some.inj h
      exact call_wQ [.le e_u8 a1, .eF c1, .eF c2, .le e_u8 a0, .eF c3, .le e_u8 a0, .lT c4] rfl fd_171 (by kernel_rfl)
     ·cases h
def S_bytes_Cut (a0 : (List UInt8)) (a1 : (List UInt8)) : Option ((List UInt8) × (List UInt8) × Bool) :=
  (S_bytes_Index a0 a1).bind fun r1 =>
  if 0 <= r1 then
    (natO r1).bind fun i3 =>
    (cutO a0 none (some i3)).bind fun s4 =>
    (natO (w64 (r1 + ((a1.length : Nat) : Int)))).bind fun i5 =>
    (cutO a0 (some i5) none).bind fun s6 =>
    some (s4, s6, true)
  else
    some (a0, [], false)
set_option maxRecDepth 100000 in
theorem fd_148 : cfg.funcs 148 = some (bodyOf Tryz.f148, Tryz.f148.ntmps, Tryz.f148.results.toList) := fn_of Tryz.func148 (by kernel_rfl) (by kernel_rfl)
theorem ok_bytes_Cut (a0 : (List UInt8)) (a1 : (List UInt8)) (r : ((List UInt8) × (List UInt8) × Bool)) (h : S_bytes_Cut a0 a1 = some r) : (mach cfg).call 148 [] [.val false [.seq (eL e_u8 a0)], .val false [.seq (eL e_u8 a1)]] = some (.tup [(false, [.seq (eL e_u8 r.1)]), (false, [.seq (eL e_u8 r.2.1)]), (false, [.bool r.2.2])], []) := by
  unfold S_bytes_Cut at h
  obtain ⟨r1, hr1, h⟩ := bs h
  rcases ite_some h with ⟨c2, h⟩ | ⟨c2, h⟩
  ·obtain ⟨i3, hi3, h⟩ := bs h
   obtain ⟨s4, hs4, h⟩ := bs h
   obtain ⟨i5, hi5, h⟩ := bs h
   obtain ⟨s6, hs6, h⟩ := bs h
   obtain rfl := Option.some.inj h
   exact call_wQ [.cl (ok_bytes_Index a0 a1 _ hr1), .gT c2, .na hi3, ⟨.cut (eL e_u8 a0) none (some i3), .l (eL e_u8 s4), (A.cut hs4)⟩, ⟨.uni 1 (eL e_u8 a0), .b true, (A.uni E_u8)⟩, .le e_u8 a1, .ad r1 ((a1.length : Nat) : Int), .na hi5, ⟨.cut (eL e_u8 a0) (some i5) none, .l (eL e_u8 s6), (A.cut hs6)⟩, ⟨.uni 1 (eL e_u8 a0), .b true, (A.uni E_u8)⟩] rfl fd_148 (by kernel_rfl)
  ·obtain rfl := Option.some.inj h
   exact (call_wQ (r := (.tup [(false, [.seq (eL e_u8 a0)]), (false, [.seq (viewL (eL e_u8 []))]), (false, [.bool false])], [])) [.cl (ok_bytes_Index a0 a1 _ hr1), .gF c2] rfl fd_148 (by kernel_rfl)).trans (by simp only [viewL_eL E_u8] <;> rfl)
end
end Go.Am.Try
