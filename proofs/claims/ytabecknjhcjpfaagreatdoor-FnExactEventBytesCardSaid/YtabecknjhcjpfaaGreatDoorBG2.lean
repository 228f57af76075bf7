/- The functions of the program in plain Lean, and that the machine answers as they do; conditions at each theorem. -/
import Derived.Test.YtabecknjhcjpfaaGreatDoorBG1
set_option linter.unusedVariables false
set_option linter.unusedSimpArgs false
namespace Go.Am.Try
open Go.Am Go.Proofs
set_option linter.unusedVariables false
set_option maxRecDepth 20000
set_option maxHeartbeats 2000000
noncomputable section
def L_spec_l2ok_l0 (G_spec_l2ok : GValue → Int → Int → Option Int) (a1 : Int) (a0 : GValue) : Nat → Int → Int → Option (Int ⊕ (Int × Int))
  | 0, _, _ => none
  | m + 1, v1, v2 =>
    if v2 < ((a0.L.length : Nat) : Int) then
      if a0.Kind = 5 then
        (natO v2).bind fun i3 =>
        (a0.K[i3]?).bind fun x4 =>
        (S_spec_NameOk x4).bind fun r5 =>
        match r5 with
        | true =>
          if 0 < v2 then
            (natO (w64 (v2 - 1))).bind fun i8 =>
            (a0.K[i8]?).bind fun x9 =>
            if Op.bytesLess x9 x4 = true then
              (a0.L[i3]?).bind fun x11 =>
              (G_spec_l2ok x11 (w64 (a1 + 1)) v1).bind fun r12 =>
              if r12 < 0 then
                some (.inl (-1))
              else
                L_spec_l2ok_l0 G_spec_l2ok a1 a0 m r12 (w64 (v2 + 1))
            else
              some (.inl (-1))
          else
            (a0.L[i3]?).bind fun x8 =>
            (G_spec_l2ok x8 (w64 (a1 + 1)) v1).bind fun r9 =>
            if r9 < 0 then
              some (.inl (-1))
            else
              L_spec_l2ok_l0 G_spec_l2ok a1 a0 m r9 (w64 (v2 + 1))
        | false =>
          some (.inl (-1))
      else
        (natO v2).bind fun i3 =>
        (a0.L[i3]?).bind fun x4 =>
        (G_spec_l2ok x4 (w64 (a1 + 1)) v1).bind fun r5 =>
        if r5 < 0 then
          some (.inl (-1))
        else
          L_spec_l2ok_l0 G_spec_l2ok a1 a0 m r5 (w64 (v2 + 1))
    else
      some (.inr (v1, v2))
theorem gl_spec_l2ok_l0 (G_spec_l2ok : GValue → Int → Int → Option Int) (H_spec_l2ok : ∀ (a0 : GValue) (a1 : Int) (a2 : Int) (r : Int), G_spec_l2ok a0 a1 a2 = some r → (mach cfg).call 147 [] [.val true [.int .i64 a0.Kind, .int .i64 a0.N, .seq (eL e_u8 a0.S), .seq (eL (e_sl e_u8) a0.K), .seq (eL e_GValue a0.L)], .val false [.int .i64 a1], .val false [.int .i64 a2]] = some (.val false [.int .i64 r], [])) (a1 : Int) (a0 : GValue) (m : Nat) : ∀ (v1 : Int) (v2 : Int) (o : (Int ⊕ (Int × Int))), L_spec_l2ok_l0 G_spec_l2ok a1 a0 m v1 v2 = some o → (mach cfg).loop 147 (loopB Tryz.f147 0) ⟨[(1, .val false [.int .i64 a1]), (2, .val false [.int .i64 v1]), (3, .val false [.ptr 0 0]), (7, .val false [.int .i64 v2])], [.var [.int .i64 a0.Kind, .int .i64 a0.N, .seq (eL e_u8 a0.S), .seq (eL (e_sl e_u8) a0.K), .seq (eL e_GValue a0.L)]], 0⟩ = some (match o with | .inl o_0 => (.ret, (⟨[(6, .val false [.int .i64 o_0])], [], 0⟩ : S)) | .inr (⟨o_1_0, o_1_1⟩) => (.exit 1, (⟨[(1, .val false [.int .i64 a1]), (2, .val false [.int .i64 o_1_0]), (3, .val false [.ptr 0 0]), (7, .val false [.int .i64 o_1_1]), (117, .val false [.bool false])], [.var [.int .i64 a0.Kind, .int .i64 a0.N, .seq (eL e_u8 a0.S), .seq (eL (e_sl e_u8) a0.K), .seq (eL e_GValue a0.L)]], 0⟩ : S))) := by
  induction m with
  | zero => intro v1 v2 o h; cases h
  | succ m ih =>
    intro v1 v2 o h
    rw [L_spec_l2ok_l0] at h
    rcases ite_some h with ⟨c1, h⟩ | ⟨c1, h⟩
    ·rcases ite_some h with ⟨c2, h⟩ | ⟨c2, h⟩
     ·obtain ⟨i3, hi3, h⟩ := bs h
      obtain ⟨x4, hx4, h⟩ := bs h
      obtain ⟨r5, hr5, h⟩ := bs h
      let p18 : List (Q cfg) := [.le e_GValue a0.L, .lT c1, .eT c2, .na hi3, .ix0 (e_sl e_u8) hx4]
      cases r5 with
      | true =>
       try dsimp only at h
       rcases ite_some h with ⟨c7, h⟩ | ⟨c7, h⟩
       ·obtain ⟨i8, hi8, h⟩ := bs h
        obtain ⟨x9, hx9, h⟩ := bs h
        rcases ite_some h with ⟨c10, h⟩ | ⟨c10, h⟩
        ·obtain ⟨x11, hx11, h⟩ := bs h
         obtain ⟨r12, hr12, h⟩ := bs h
         let p19 : List (Q cfg) := p18 ++ [.cl (ok_spec_NameOk x4 _ hr5), .nt true, .lT c7, .su v2 1, .na hi8, .ix0 (e_sl e_u8) hx9, ⟨.bytes (eL e_u8 x9), .s x9, A.bytes⟩, .na hi3, .ix0 (e_sl e_u8) hx4, ⟨.bytes (eL e_u8 x4), .s x4, A.bytes⟩, ⟨.ltS x9 x4, .b true, (A.ltS_t c10)⟩, .nt true, .na hi3, .ix hx11 (eq_GValue x11), .ad a1 1, .cl (H_spec_l2ok x11 (w64 (a1 + 1)) v1 _ hr12)]
         rcases ite_some h with ⟨c13, h⟩ | ⟨c13, h⟩
         ·obtain rfl := Option.some.inj h
          exact loop_eQ (p19 ++ [.lT c13]) (by kernel_rfl) (by intro h; cases h)
         ·exact loop_nQ (p19 ++ [.lF c13, .ad v2 1]) (by kernel_rfl) (ih r12 (w64 (v2 + 1)) o h)
        ·obtain rfl := Option.some.inj h
         exact loop_eQ (p18 ++ [.cl (ok_spec_NameOk x4 _ hr5), .nt true, .lT c7, .su v2 1, .na hi8, .ix0 (e_sl e_u8) hx9, ⟨.bytes (eL e_u8 x9), .s x9, A.bytes⟩, .na hi3, .ix0 (e_sl e_u8) hx4, ⟨.bytes (eL e_u8 x4), .s x4, A.bytes⟩, ⟨.ltS x9 x4, .b false, (A.ltS_f c10)⟩, .nt false]) (by kernel_rfl) (by intro h; cases h)
       ·obtain ⟨x8, hx8, h⟩ := bs h
        obtain ⟨r9, hr9, h⟩ := bs h
        let p20 : List (Q cfg) := p18 ++ [.cl (ok_spec_NameOk x4 _ hr5), .nt true, .lF c7, .na hi3, .ix hx8 (eq_GValue x8), .ad a1 1, .cl (H_spec_l2ok x8 (w64 (a1 + 1)) v1 _ hr9)]
        rcases ite_some h with ⟨c10, h⟩ | ⟨c10, h⟩
        ·obtain rfl := Option.some.inj h
         exact loop_eQ (p20 ++ [.lT c10]) (by kernel_rfl) (by intro h; cases h)
        ·exact loop_nQ (p20 ++ [.lF c10, .ad v2 1]) (by kernel_rfl) (ih r9 (w64 (v2 + 1)) o h)
      | false =>
       try dsimp only at h
       obtain rfl := Option.some.inj h
       exact loop_eQ (p18 ++ [.cl (ok_spec_NameOk x4 _ hr5), .nt false]) (by kernel_rfl) (by intro h; cases h)
     ·obtain ⟨i3, hi3, h⟩ := bs h
      obtain ⟨x4, hx4, h⟩ := bs h
      obtain ⟨r5, hr5, h⟩ := bs h
      let p21 : List (Q cfg) := [.le e_GValue a0.L, .lT c1, .eF c2, .na hi3, .ix hx4 (eq_GValue x4), .ad a1 1, .cl (H_spec_l2ok x4 (w64 (a1 + 1)) v1 _ hr5)]
      rcases ite_some h with ⟨c6, h⟩ | ⟨c6, h⟩
      ·obtain rfl := Option.some.inj h
       exact loop_eQ (p21 ++ [.lT c6]) (by kernel_rfl) (by intro h; cases h)
      ·exact loop_nQ (p21 ++ [.lF c6, .ad v2 1]) (by kernel_rfl) (ih r5 (w64 (v2 + 1)) o h)
    ·obtain rfl := Option.some.inj h
     exact loop_eQ [.le e_GValue a0.L, .lF c1] (by kernel_rfl) (by intro h; cases h)
def T_spec_l2ok (G_spec_l2ok : GValue → Int → Int → Option Int) (n : Nat) (a0 : GValue) (a1 : Int) (a2 : Int) : Option Int :=
  if (w64 (a2 - 1)) < 0 then
    some (-1)
  else
    if 5 < a1 then
      some (-1)
    else
      if a0.Kind = 3 then
        if 0 < ((a0.K.length : Nat) : Int) then
          some (-1)
        else
          if a0.N = 0 then
            if 0 < ((a0.L.length : Nat) : Int) then
              some (-1)
            else
              (S_spec_l2text a0.S).bind fun r7 =>
              match r7 with
              | true =>
                some (w64 (a2 - 1))
              | false =>
                some (-1)
          else
            some (-1)
      else
        if 0 < ((a0.S.length : Nat) : Int) then
          some (-1)
        else
          if a0.Kind = 5 then
            if a0.N = 0 then
              if ((a0.K.length : Nat) : Int) = ((a0.L.length : Nat) : Int) then
                (L_spec_l2ok_l0 G_spec_l2ok a1 a0 n (w64 (a2 - 1)) 0).bind fun o8 =>
                match o8 with
                | .inl o8_0 =>
                  some o8_0
                | .inr (⟨o8_1_0, o8_1_1⟩) =>
                  some o8_1_0
              else
                some (-1)
            else
              some (-1)
          else
            if 0 < ((a0.K.length : Nat) : Int) then
              some (-1)
            else
              if a0.Kind = 1 then
                if 0 < ((a0.L.length : Nat) : Int) then
                  some (-1)
                else
                  if a0.N < 0 then
                    some (-1)
                  else
                    if 1 < a0.N then
                      some (-1)
                    else
                      some (w64 (a2 - 1))
              else
                if a0.Kind = 2 then
                  if 0 < ((a0.L.length : Nat) : Int) then
                    some (-1)
                  else
                    (S_spec_l2int a0.N).bind fun r10 =>
                    match r10 with
                    | true =>
                      some (w64 (a2 - 1))
                    | false =>
                      some (-1)
                else
                  if a0.N = 0 then
                    if a0.Kind = 4 then
                      (L_spec_l2ok_l0 G_spec_l2ok a1 a0 n (w64 (a2 - 1)) 0).bind fun o11 =>
                      match o11 with
                      | .inl o11_0 =>
                        some o11_0
                      | .inr (⟨o11_1_0, o11_1_1⟩) =>
                        some o11_1_0
                    else
                      if 0 < ((a0.L.length : Nat) : Int) then
                        some (-1)
                      else
                        if a0.Kind = 0 then
                          some (w64 (a2 - 1))
                        else
                          if a0.Kind = 6 then
                            some (w64 (a2 - 1))
                          else
                            some (-1)
                  else
                    some (-1)
set_option maxRecDepth 100000 in
theorem fd_147 : cfg.funcs 147 = some (bodyOf Tryz.f147, Tryz.f147.ntmps, Tryz.f147.results.toList) := fn_of Tryz.func147 (by kernel_rfl) (by kernel_rfl)
theorem g_spec_l2ok (G_spec_l2ok : GValue → Int → Int → Option Int) (H_spec_l2ok : ∀ (a0 : GValue) (a1 : Int) (a2 : Int) (r : Int), G_spec_l2ok a0 a1 a2 = some r → (mach cfg).call 147 [] [.val true [.int .i64 a0.Kind, .int .i64 a0.N, .seq (eL e_u8 a0.S), .seq (eL (e_sl e_u8) a0.K), .seq (eL e_GValue a0.L)], .val false [.int .i64 a1], .val false [.int .i64 a2]] = some (.val false [.int .i64 r], [])) (n : Nat) (a0 : GValue) (a1 : Int) (a2 : Int) (r : Int) (h : T_spec_l2ok G_spec_l2ok n a0 a1 a2 = some r) : (mach cfg).call 147 [] [.val true [.int .i64 a0.Kind, .int .i64 a0.N, .seq (eL e_u8 a0.S), .seq (eL (e_sl e_u8) a0.K), .seq (eL e_GValue a0.L)], .val false [.int .i64 a1], .val false [.int .i64 a2]] = some (.val false [.int .i64 r], []) := by
  unfold T_spec_l2ok at h
  rcases ite_some h with ⟨c1, h⟩ | ⟨c1, h⟩
  ·obtain rfl := Option.some.inj h
   exact call_wQ [.su a2 1, .lT c1] rfl fd_147 (by kernel_rfl)
  ·rcases ite_some h with ⟨c2, h⟩ | ⟨c2, h⟩
   ·obtain rfl := Option.some.inj h
    exact call_wQ [.su a2 1, .lF c1, .lT c2] rfl fd_147 (by kernel_rfl)
   ·rcases ite_some h with ⟨c3, h⟩ | ⟨c3, h⟩
    ·let p22 : List (Q cfg) := [.su a2 1, .lF c1, .lF c2, .eT c3, .nt true]
     rcases ite_some h with ⟨c4, h⟩ | ⟨c4, h⟩
     ·obtain rfl := Option.some.inj h
      exact call_wQ (p22 ++ [.eFo a0.Kind 5 (by omega), .nt false, .le (e_sl e_u8) a0.K, .lT c4]) rfl fd_147 (by kernel_rfl)
     ·rcases ite_some h with ⟨c5, h⟩ | ⟨c5, h⟩
      ·rcases ite_some h with ⟨c6, h⟩ | ⟨c6, h⟩
       ·obtain rfl := Option.some.inj h
        exact call_wQ (p22 ++ [.eFo a0.Kind 5 (by omega), .nt false, .le (e_sl e_u8) a0.K, .lF c4, .eFo a0.Kind 1 (by omega), .nt false, .eFo a0.Kind 2 (by omega), .nt false, .eT c5, .nt true, .eFo a0.Kind 4 (by omega), .nt false, .eFo a0.Kind 5 (by omega), .nt false, .le e_GValue a0.L, .lT c6]) rfl fd_147 (by kernel_rfl)
       ·obtain ⟨r7, hr7, h⟩ := bs h
        let p23 : List (Q cfg) := p22 ++ [.eFo a0.Kind 5 (by omega), .nt false, .le (e_sl e_u8) a0.K, .lF c4, .eFo a0.Kind 1 (by omega), .nt false, .eFo a0.Kind 2 (by omega), .nt false, .eT c5, .nt true, .eFo a0.Kind 4 (by omega), .nt false, .eFo a0.Kind 5 (by omega), .nt false, .le e_GValue a0.L, .lF c6, .eFo a0.Kind 0 (by omega), .eFo a0.Kind 6 (by omega), .eFo a0.Kind 1 (by omega), .eFo a0.Kind 2 (by omega), .eT c3, .cl (ok_spec_l2text a0.S _ hr7)]
        cases r7 with
        | true =>
         try dsimp only at h
         obtain rfl := Option.some.inj h
         exact call_wQ (p23 ++ [.nt true]) rfl fd_147 (by kernel_rfl)
        | false =>
         try dsimp only at h
         obtain rfl := Option.some.inj h
         exact call_wQ (p23 ++ [.nt false]) rfl fd_147 (by kernel_rfl)
      ·obtain rfl := Option.some.inj h
       exact call_wQ (p22 ++ [.eFo a0.Kind 5 (by omega), .nt false, .le (e_sl e_u8) a0.K, .lF c4, .eFo a0.Kind 1 (by omega), .nt false, .eFo a0.Kind 2 (by omega), .nt false, .eF c5, .nt false]) rfl fd_147 (by kernel_rfl)
    ·rcases ite_some h with ⟨c4, h⟩ | ⟨c4, h⟩
     ·obtain rfl := Option.some.inj h
      exact call_wQ [.su a2 1, .lF c1, .lF c2, .eF c3, .nt false, .le e_u8 a0.S, .lT c4] rfl fd_147 (by kernel_rfl)
     ·rcases ite_some h with ⟨c5, h⟩ | ⟨c5, h⟩
      ·let p24 : List (Q cfg) := [.su a2 1, .lF c1, .lF c2, .eF c3, .nt false]
       rcases ite_some h with ⟨c6, h⟩ | ⟨c6, h⟩
       ·rcases ite_some h with ⟨c7, h⟩ | ⟨c7, h⟩
        ·obtain ⟨o8, ho8, h⟩ := bs h
         let p25 : List (Q cfg) := p24 ++ [.le e_u8 a0.S, .lF c4, .eT c5, .nt true, .eFo a0.Kind 1 (by omega), .nt false, .eFo a0.Kind 2 (by omega), .nt false, .eT c6, .nt true, .eFo a0.Kind 4 (by omega), .nt false, .eT c5, .nt true, .eFo a0.Kind 0 (by omega), .eFo a0.Kind 6 (by omega), .eFo a0.Kind 1 (by omega), .eFo a0.Kind 2 (by omega), .eF c3, .eFo a0.Kind 4 (by omega), .eT c5, .eT c5, .le (e_sl e_u8) a0.K, .le e_GValue a0.L, .eT c7, .nt true, .lp (gl_spec_l2ok_l0 G_spec_l2ok H_spec_l2ok a1 a0 _ (w64 (a2 - 1)) 0 _ ho8)]
         rcases o8 with o8_0 | ⟨o8_1_0, o8_1_1⟩
         · try dsimp only at h
           obtain rfl := Option.some.inj h
           exact call_wQ p25 rfl fd_147 (by kernel_rfl)
         · try dsimp only at h
           obtain rfl := Option.some.inj h
           exact call_wQ p25 rfl fd_147 (by kernel_rfl)
        ·obtain rfl := Option.some.inj h
         exact call_wQ (p24 ++ [.le e_u8 a0.S, .lF c4, .eT c5, .nt true, .eFo a0.Kind 1 (by omega), .nt false, .eFo a0.Kind 2 (by omega), .nt false, .eT c6, .nt true, .eFo a0.Kind 4 (by omega), .nt false, .eT c5, .nt true, .eFo a0.Kind 0 (by omega), .eFo a0.Kind 6 (by omega), .eFo a0.Kind 1 (by omega), .eFo a0.Kind 2 (by omega), .eF c3, .eFo a0.Kind 4 (by omega), .eT c5, .eT c5, .le (e_sl e_u8) a0.K, .le e_GValue a0.L, .eF c7, .nt false]) rfl fd_147 (by kernel_rfl)
       ·obtain rfl := Option.some.inj h
        exact call_wQ (p24 ++ [.le e_u8 a0.S, .lF c4, .eT c5, .nt true, .eFo a0.Kind 1 (by omega), .nt false, .eFo a0.Kind 2 (by omega), .nt false, .eF c6, .nt false]) rfl fd_147 (by kernel_rfl)
      ·rcases ite_some h with ⟨c6, h⟩ | ⟨c6, h⟩
       ·obtain rfl := Option.some.inj h
        exact call_wQ [.su a2 1, .lF c1, .lF c2, .eF c3, .nt false, .le e_u8 a0.S, .lF c4, .eF c5, .nt false, .le (e_sl e_u8) a0.K, .lT c6] rfl fd_147 (by kernel_rfl)
       ·rcases ite_some h with ⟨c7, h⟩ | ⟨c7, h⟩
        ·rcases ite_some h with ⟨c8, h⟩ | ⟨c8, h⟩
         ·obtain rfl := Option.some.inj h
          exact call_wQ [.su a2 1, .lF c1, .lF c2, .eF c3, .nt false, .le e_u8 a0.S, .lF c4, .eF c5, .nt false, .le (e_sl e_u8) a0.K, .lF c6, .eT c7, .nt true, .eFo a0.Kind 4 (by omega), .nt false, .eF c5, .nt false, .le e_GValue a0.L, .lT c8] rfl fd_147 (by kernel_rfl)
         ·rcases ite_some h with ⟨c9, h⟩ | ⟨c9, h⟩
          ·obtain rfl := Option.some.inj h
           exact call_wQ [.su a2 1, .lF c1, .lF c2, .eF c3, .nt false, .le e_u8 a0.S, .lF c4, .eF c5, .nt false, .le (e_sl e_u8) a0.K, .lF c6, .eT c7, .nt true, .eFo a0.Kind 4 (by omega), .nt false, .eF c5, .nt false, .le e_GValue a0.L, .lF c8, .eFo a0.Kind 0 (by omega), .eFo a0.Kind 6 (by omega), .eT c7, .lT c9] rfl fd_147 (by kernel_rfl)
          ·rcases ite_some h with ⟨c10, h⟩ | ⟨c10, h⟩
           ·obtain rfl := Option.some.inj h
            exact call_wQ [.su a2 1, .lF c1, .lF c2, .eF c3, .nt false, .le e_u8 a0.S, .lF c4, .eF c5, .nt false, .le (e_sl e_u8) a0.K, .lF c6, .eT c7, .nt true, .eFo a0.Kind 4 (by omega), .nt false, .eF c5, .nt false, .le e_GValue a0.L, .lF c8, .eFo a0.Kind 0 (by omega), .eFo a0.Kind 6 (by omega), .eT c7, .lF c9, .lT c10] rfl fd_147 (by kernel_rfl)
           ·obtain rfl := Option.some.inj h
            exact call_wQ [.su a2 1, .lF c1, .lF c2, .eF c3, .nt false, .le e_u8 a0.S, .lF c4, .eF c5, .nt false, .le (e_sl e_u8) a0.K, .lF c6, .eT c7, .nt true, .eFo a0.Kind 4 (by omega), .nt false, .eF c5, .nt false, .le e_GValue a0.L, .lF c8, .eFo a0.Kind 0 (by omega), .eFo a0.Kind 6 (by omega), .eT c7, .lF c9, .lF c10] rfl fd_147 (by kernel_rfl)
        ·let p26 : List (Q cfg) := [.su a2 1, .lF c1, .lF c2, .eF c3, .nt false]
         rcases ite_some h with ⟨c8, h⟩ | ⟨c8, h⟩
         ·rcases ite_some h with ⟨c9, h⟩ | ⟨c9, h⟩
          ·obtain rfl := Option.some.inj h
           exact call_wQ (p26 ++ [.le e_u8 a0.S, .lF c4, .eF c5, .nt false, .le (e_sl e_u8) a0.K, .lF c6, .eF c7, .nt false, .eT c8, .nt true, .eFo a0.Kind 4 (by omega), .nt false, .eF c5, .nt false, .le e_GValue a0.L, .lT c9]) rfl fd_147 (by kernel_rfl)
          ·obtain ⟨r10, hr10, h⟩ := bs h
           let p27 : List (Q cfg) := p26 ++ [.le e_u8 a0.S, .lF c4, .eF c5, .nt false, .le (e_sl e_u8) a0.K, .lF c6, .eF c7, .nt false, .eT c8, .nt true, .eFo a0.Kind 4 (by omega), .nt false, .eF c5, .nt false, .le e_GValue a0.L, .lF c9, .eFo a0.Kind 0 (by omega), .eFo a0.Kind 6 (by omega), .eF c7, .eT c8, .cl (ok_spec_l2int a0.N _ hr10)]
           cases r10 with
           | true =>
            try dsimp only at h
            obtain rfl := Option.some.inj h
            exact call_wQ (p27 ++ [.nt true]) rfl fd_147 (by kernel_rfl)
           | false =>
            try dsimp only at h
            obtain rfl := Option.some.inj h
            exact call_wQ (p27 ++ [.nt false]) rfl fd_147 (by kernel_rfl)
         ·rcases ite_some h with ⟨c9, h⟩ | ⟨c9, h⟩
          ·rcases ite_some h with ⟨c10, h⟩ | ⟨c10, h⟩
           ·obtain ⟨o11, ho11, h⟩ := bs h
            let p28 : List (Q cfg) := p26 ++ [.le e_u8 a0.S, .lF c4, .eF c5, .nt false, .le (e_sl e_u8) a0.K, .lF c6, .eF c7, .nt false, .eF c8, .nt false, .eT c9, .nt true, .eT c10, .nt true, .eFo a0.Kind 0 (by omega), .eFo a0.Kind 6 (by omega), .eF c7, .eF c8, .eF c3, .eT c10, .eF c5, .lp (gl_spec_l2ok_l0 G_spec_l2ok H_spec_l2ok a1 a0 _ (w64 (a2 - 1)) 0 _ ho11)]
            rcases o11 with o11_0 | ⟨o11_1_0, o11_1_1⟩
            · try dsimp only at h
              obtain rfl := Option.some.inj h
              exact call_wQ p28 rfl fd_147 (by kernel_rfl)
            · try dsimp only at h
              obtain rfl := Option.some.inj h
              exact call_wQ p28 rfl fd_147 (by kernel_rfl)
           ·rcases ite_some h with ⟨c11, h⟩ | ⟨c11, h⟩
            ·obtain rfl := Option.some.inj h
             exact call_wQ (p26 ++ [.le e_u8 a0.S, .lF c4, .eF c5, .nt false, .le (e_sl e_u8) a0.K, .lF c6, .eF c7, .nt false, .eF c8, .nt false, .eT c9, .nt true, .eF c10, .nt false, .eF c5, .nt false, .le e_GValue a0.L, .lT c11]) rfl fd_147 (by kernel_rfl)
            ·rcases ite_some h with ⟨c12, h⟩ | ⟨c12, h⟩
             ·obtain rfl := Option.some.inj h
              exact call_wQ (p26 ++ [.le e_u8 a0.S, .lF c4, .eF c5, .nt false, .le (e_sl e_u8) a0.K, .lF c6, .eF c7, .nt false, .eF c8, .nt false, .eT c9, .nt true, .eF c10, .nt false, .eF c5, .nt false, .le e_GValue a0.L, .lF c11, .eT c12]) rfl fd_147 (by kernel_rfl)
             ·rcases ite_some h with ⟨c13, h⟩ | ⟨c13, h⟩
              ·obtain rfl := Option.some.inj h
               exact call_wQ (p26 ++ [.le e_u8 a0.S, .lF c4, .eF c5, .nt false, .le (e_sl e_u8) a0.K, .lF c6, .eF c7, .nt false, .eF c8, .nt false, .eT c9, .nt true, .eF c10, .nt false, .eF c5, .nt false, .le e_GValue a0.L, .lF c11, .eF c12, .eT c13]) rfl fd_147 (by kernel_rfl)
              ·obtain rfl := Option.some.inj h
               exact call_wQ (p26 ++ [.le e_u8 a0.S, .lF c4, .eF c5, .nt false, .le (e_sl e_u8) a0.K, .lF c6, .eF c7, .nt false, .eF c8, .nt false, .eT c9, .nt true, .eF c10, .nt false, .eF c5, .nt false, .le e_GValue a0.L, .lF c11, .eF c12, .eF c13, .eF c7, .eF c8, .eF c3, .eF c10, .eF c5]) rfl fd_147 (by kernel_rfl)
          ·obtain rfl := Option.some.inj h
           exact call_wQ (p26 ++ [.le e_u8 a0.S, .lF c4, .eF c5, .nt false, .le (e_sl e_u8) a0.K, .lF c6, .eF c7, .nt false, .eF c8, .nt false, .eF c9, .nt false]) rfl fd_147 (by kernel_rfl)
def U_spec_l2ok : Nat → GValue → Int → Int → Option Int
  | 0, _, _, _ => none
  | n + 1, a0, a1, a2 => T_spec_l2ok (U_spec_l2ok n) n a0 a1 a2
theorem rec_spec_l2ok (n : Nat) : (∀ (a0 : GValue) (a1 : Int) (a2 : Int) (r : Int), U_spec_l2ok n a0 a1 a2 = some r → (mach cfg).call 147 [] [.val true [.int .i64 a0.Kind, .int .i64 a0.N, .seq (eL e_u8 a0.S), .seq (eL (e_sl e_u8) a0.K), .seq (eL e_GValue a0.L)], .val false [.int .i64 a1], .val false [.int .i64 a2]] = some (.val false [.int .i64 r], [])) := by
  induction n with
  | zero => exact fun _ _ _ _ h => (by rw [U_spec_l2ok] at h; cases h)
  | succ n ih =>
    have ih_spec_l2ok := ih
    exact fun a0 a1 a2 r h => g_spec_l2ok (U_spec_l2ok n) ih_spec_l2ok n a0 a1 a2 r (by rw [U_spec_l2ok] at h; exact h)
def okV (d : Nat) (left : Int) (v : GValue) : Int := if shV d v = true ∧ (ptV v : Int) <= left then left - ptV v else -1
theorem nameOk_eq {a : List UInt8} (h : a.length <= 2 ^ 20) : S_spec_NameOk a = some (nameB a) := if_pos h
theorem l2text_eq {a : List UInt8} (h : a.length <= 2 ^ 20) : S_spec_l2text a = some (textB a) := if_pos h
theorem l2int_eq (n : Int) : S_spec_l2int n = some (decide (-1000000000000 <= n ∧ n <= 1000000000000)) := by
  unfold S_spec_l2int
  by_cases h : (-1000000000000 : Int) <= n
  · rw [if_pos h]; simp [h]
  · rw [if_neg h]; simp [h]
theorem l2ok_loop {G : GValue → Int → Int → Option Int} {v : GValue} {dd : Nat} {deep : Int} (hdd : deep + dd = 5) (h1d : 1 <= deep) (hs : vsz v <= 2 ^ 20) (hk : v.Kind = 4 ∨ (v.Kind = 5 ∧ v.K.length = v.L.length))
    (hG : ∀ x ∈ v.L, ∀ r : Int, 0 <= r → r <= 40 → G x (deep + 1) r = some (okV dd r x)) : ∀ (d i m : Nat) (r : Int), i + d = v.L.length → d < m → 0 <= r → r <= 40 →
    ∃ z, L_spec_l2ok_l0 G deep v m r (i : Int) = some (if ((v.Kind = 5 → kAll v.K i d = true) ∧ (v.L.drop i).all (shV dd) = true) ∧ (ptVs (v.L.drop i) : Int) <= r then .inr (r - ptVs (v.L.drop i), z) else .inl (-1)) := by
  have he := vsz_eq v
  have hl := vszs_len v.L
  intro d
  induction d with
  | zero =>
    intro i m r hi hm h0 h1
    obtain ⟨m, rfl, _⟩ := fuel hm
    refine ⟨(i : Int), ?_⟩
    rw [L_spec_l2ok_l0, if_neg (by omega), List.drop_eq_nil_of_le (by omega), if_pos ⟨⟨fun _ => rfl, rfl⟩, by simpa [ptVs] using h0⟩]
    simp [ptVs]
  | succ d ih =>
    intro i m r hi hm h0 h1
    obtain ⟨m, rfl, hm'⟩ := fuel hm
    have hil : i < v.L.length := by omega
    have hp : ptVs (v.L.drop i) = ptV v.L[i] + ptVs (v.L.drop (i + 1)) := by rw [drop_cons hil]; simp only [ptVs]
    have ha : (v.L.drop i).all (shV dd) = (shV dd v.L[i] && (v.L.drop (i + 1)).all (shV dd)) := by rw [drop_cons hil, List.all_cons]
    have hd1 : w64 (deep + 1) = deep + 1 := w64_id (by omega) (by omega)
    have tail : (v.Kind = 5 → kOk v.K i = true) → ∃ z, ((G v.L[i] (w64 (deep + 1)) r).bind fun r12 => if r12 < 0 then some (.inl (-1)) else L_spec_l2ok_l0 G deep v m r12 (w64 ((i : Int) + 1))) =
        some (if ((v.Kind = 5 → kAll v.K i (d + 1) = true) ∧ (v.L.drop i).all (shV dd) = true) ∧ (ptVs (v.L.drop i) : Int) <= r then .inr (r - ptVs (v.L.drop i), z) else .inl (-1)) := by
      intro hki
      rw [hd1, hG _ (List.getElem_mem hil) r h0 h1, Option.bind_some, w64_succ (by omega), hp, ha]
      unfold okV
      by_cases hc : shV dd v.L[i] = true ∧ (ptV v.L[i] : Int) <= r
      · rw [if_pos hc, if_neg (by omega)]
        obtain ⟨z, hz⟩ := ih (i + 1) m (r - ptV v.L[i]) (by omega) (by omega) (by omega) (by omega)
        refine ⟨z, ?_⟩
        rw [hz, hc.1, Bool.true_and]
        have hcond : (((v.Kind = 5 → kAll v.K (i + 1) d = true) ∧ (v.L.drop (i + 1)).all (shV dd) = true) ∧ (ptVs (v.L.drop (i + 1)) : Int) <= r - ptV v.L[i]) ↔
            (((v.Kind = 5 → kAll v.K i (d + 1) = true) ∧ (v.L.drop (i + 1)).all (shV dd) = true) ∧ ((ptV v.L[i] + ptVs (v.L.drop (i + 1)) : Nat) : Int) <= r) := by
          have hka : (v.Kind = 5 → kAll v.K (i + 1) d = true) ↔ (v.Kind = 5 → kAll v.K i (d + 1) = true) := by
            constructor
            · intro h hk; rw [kAll_succ, hki hk, h hk]; rfl
            · intro h hk; have := h hk; rw [kAll_succ, hki hk, Bool.true_and] at this; exact this
          rw [hka]
          constructor
          · rintro ⟨h1, h2⟩; exact ⟨h1, by omega⟩
          · rintro ⟨h1, h2⟩; exact ⟨h1, by omega⟩
        by_cases hd : ((v.Kind = 5 → kAll v.K (i + 1) d = true) ∧ (v.L.drop (i + 1)).all (shV dd) = true) ∧ (ptVs (v.L.drop (i + 1)) : Int) <= r - ptV v.L[i]
        · rw [if_pos hd, if_pos (hcond.1 hd)]; congr 3; omega
        · rw [if_neg hd, if_neg (fun h => hd (hcond.2 h))]
      · refine ⟨0, ?_⟩
        rw [if_neg hc, if_pos (by omega), if_neg]
        rintro ⟨⟨_, h2⟩, h3⟩
        rw [Bool.and_eq_true] at h2
        exact hc ⟨h2.1, by omega⟩
    have bad : v.Kind = 5 → kOk v.K i = false → ∃ z, (some (.inl (-1)) : Option (Int ⊕ (Int × Int))) = some (if ((v.Kind = 5 → kAll v.K i (d + 1) = true) ∧ (v.L.drop i).all (shV dd) = true) ∧ (ptVs (v.L.drop i) : Int) <= r then .inr (r - ptVs (v.L.drop i), z) else .inl (-1)) := by
      intro hk hki
      refine ⟨0, ?_⟩
      rw [if_neg]
      rintro ⟨⟨h1, _⟩, _⟩
      have := h1 hk
      rw [kAll_succ, hki] at this
      cases this
    rw [L_spec_l2ok_l0, if_pos (by omega)]
    rcases hk with hk | ⟨hk, hkl⟩
    · rw [if_neg (by omega), natO_nat, Option.bind_some, get_some hil, Option.bind_some]
      exact tail fun h => by omega
    · have hik : i < v.K.length := by omega
      have hx := bsz_mem (List.getElem_mem hik)
      rw [if_pos hk, natO_nat, Option.bind_some, get_some hik, Option.bind_some, nameOk_eq (by omega), Option.bind_some]
      cases hnm : nameB v.K[i] with
      | false =>
        dsimp only
        refine bad hk ?_
        by_cases h0 : i = 0
        · subst h0; rw [kOk_zero hik, hnm]
        · rw [kOk_eq hik (by omega), hnm]; rfl
      | true =>
        dsimp only
        by_cases h0 : 0 < i
        · rw [if_pos (by omega), w64_pred (by omega) h0, natO_nat, Option.bind_some, get_some (show i - 1 < v.K.length by omega), Option.bind_some]
          by_cases hb : Op.bytesLess (v.K[i - 1]'(by omega)) v.K[i] = true
          · rw [if_pos hb, get_some hil, Option.bind_some]
            exact tail fun _ => by rw [kOk_eq hik h0, hnm, hb]; rfl
          · rw [if_neg hb]
            refine bad hk ?_
            rw [kOk_eq hik h0, hnm]; simpa using hb
        · have : i = 0 := by omega
          subst this
          rw [if_neg (by omega), get_some hil, Option.bind_some]
          exact tail fun _ => by rw [kOk_zero hik, hnm]
theorem l2ok_T {G : GValue → Int → Int → Option Int} {v : GValue} {f dd : Nat} {deep left : Int} (hdd : deep + dd = 5 ∨ (deep = 6 ∧ dd = 0)) (h1d : 1 <= deep) (hs : vsz v <= 2 ^ 20) (hf : v.L.length < f) (h0 : 0 <= left) (h1 : left <= 40)
    (hG : deep <= 5 → ∀ x ∈ v.L, ∀ r : Int, 0 <= r → r <= 40 → G x (deep + 1) r = some (okV dd r x)) : T_spec_l2ok G f v deep left = some (okV (if deep <= 5 then dd + 1 else 0) left v) := by
  have he := vsz_eq v
  have hl := vszs_len v.L
  have hpt := ptV_eq v
  have hpl := ptVs_len v.L
  unfold T_spec_l2ok
  rw [w64_id (by omega) (by omega)]
  by_cases hleft : left - 1 < 0
  · rw [if_pos hleft]
    unfold okV; rw [if_neg (by rintro ⟨_, h⟩; omega)]
  rw [if_neg hleft]
  by_cases hdeep : 5 < deep
  · rw [if_pos hdeep, if_neg (show ¬ deep <= 5 by omega)]
    unfold okV; rw [if_neg (by rintro ⟨h, _⟩; simp [shV] at h)]
  rw [if_neg hdeep, if_pos (show deep <= 5 by omega)]
  have hdd : deep + dd = 5 := by omega
  have hG := hG (by omega)
  unfold okV
  simp only [shV]
  have fin0 : v.L.length = 0 → (v.L.all (shV dd) = true ∧ ptV v = 1) := fun h => by
    have : v.L = [] := List.eq_nil_of_length_eq_zero h
    rw [hpt, this]; exact ⟨rfl, rfl⟩
  have yes : locV v = true → v.L.length = 0 → some (left - 1) = some (if (locV v && v.L.all (shV dd)) = true ∧ (ptV v : Int) <= left then left - ptV v else -1) := fun h1 h2 => by
    obtain ⟨a1, a2⟩ := fin0 h2
    rw [h1, a1, a2, if_pos ⟨rfl, by omega⟩]; rfl
  have no : locV v = false → some (-1) = some (if (locV v && v.L.all (shV dd)) = true ∧ (ptV v : Int) <= left then left - ptV v else -1) := fun h1 => by
    rw [h1, if_neg (by rintro ⟨h, _⟩; cases h)]
  have lp : v.Kind = 4 ∨ (v.Kind = 5 ∧ v.K.length = v.L.length) → (∀ b : Bool, v.L.length <= 40 → ((v.Kind = 5 → kAll v.K 0 v.L.length = true) ↔ b = true) → locV v = b) → ((L_spec_l2ok_l0 G deep v f (left - 1) 0).bind fun o8 => match o8 with | .inl o8_0 => some o8_0 | .inr (⟨o8_1_0, o8_1_1⟩) => some o8_1_0) =
      some (if (locV v && v.L.all (shV dd)) = true ∧ (ptV v : Int) <= left then left - ptV v else -1) := fun hk hloc => by
    obtain ⟨z, hz⟩ := l2ok_loop (G := G) hdd h1d hs hk hG v.L.length 0 f (left - 1) (by omega) (by omega) (by omega) (by omega)
    rw [show ((0 : Nat) : Int) = 0 from rfl, List.drop_zero] at hz
    rw [hz, Option.bind_some]
    by_cases hc : ((v.Kind = 5 → kAll v.K 0 v.L.length = true) ∧ v.L.all (shV dd) = true) ∧ (ptVs v.L : Int) <= left - 1
    · rw [if_pos hc]
      have h40 : v.L.length <= 40 := by omega
      have := hloc true h40 ⟨fun _ => rfl, fun _ => hc.1.1⟩
      rw [this, hc.1.2, if_pos ⟨rfl, by omega⟩, hpt]
      dsimp only
      congr 1; omega
    · rw [if_neg hc, if_neg]
      rintro ⟨h2, h3⟩
      rw [Bool.and_eq_true] at h2
      refine hc ⟨⟨?_, h2.2⟩, by omega⟩
      by_cases h40 : v.L.length <= 40
      · by_cases hb : (v.Kind = 5 → kAll v.K 0 v.L.length = true)
        · exact hb
        · have := hloc false h40 ⟨fun h => (hb h).elim, fun h => by cases h⟩
          rw [this] at h2; cases h2.1
      · omega
  have hloc : ∀ k, v.Kind = k → locV v = (if k = 0 ∨ k = 6 then decide (v.N = 0 ∧ v.S.length = 0 ∧ v.K.length = 0 ∧ v.L.length = 0)
      else if k = 1 then decide ((0 <= v.N ∧ v.N <= 1) ∧ v.S.length = 0 ∧ v.K.length = 0 ∧ v.L.length = 0)
      else if k = 2 then decide ((-1000000000000 <= v.N ∧ v.N <= 1000000000000) ∧ v.S.length = 0 ∧ v.K.length = 0 ∧ v.L.length = 0)
      else if k = 3 then textB v.S && decide (v.N = 0 ∧ v.K.length = 0 ∧ v.L.length = 0)
      else if k = 4 then decide (v.N = 0 ∧ v.S.length = 0 ∧ v.K.length = 0 ∧ v.L.length <= 40)
      else if k = 5 then decide (v.K.length = v.L.length ∧ v.N = 0 ∧ v.S.length = 0 ∧ v.L.length <= 40) && kAll v.K 0 v.K.length
      else false) := fun k hk => by unfold locV; rw [hk]
  by_cases k3 : v.Kind = 3
  · have hv := hloc 3 k3
    simp only [show ¬ ((3 : Int) = 0 ∨ (3 : Int) = 6) by omega, if_false, show ¬ ((3 : Int) = 1) by omega, show ¬ ((3 : Int) = 2) by omega, if_true] at hv
    rw [if_pos k3]
    by_cases a1 : 0 < ((v.K.length : Nat) : Int)
    · rw [if_pos a1]; exact no (by rw [hv, decide_eq_false (by omega)]; simp)
    · rw [if_neg a1]
      by_cases a2 : v.N = 0
      · rw [if_pos a2]
        by_cases a3 : 0 < ((v.L.length : Nat) : Int)
        · rw [if_pos a3]; exact no (by rw [hv, decide_eq_false (by omega)]; simp)
        · rw [if_neg a3, l2text_eq (by omega), Option.bind_some]
          rw [decide_eq_true (by omega), Bool.and_true] at hv
          cases ht : textB v.S with
          | true => exact yes (by rw [hv, ht]) (by omega)
          | false => exact no (by rw [hv, ht])
      · rw [if_neg a2]; exact no (by rw [hv, decide_eq_false (by omega)]; simp)
  rw [if_neg k3]
  by_cases hS : 0 < ((v.S.length : Nat) : Int)
  · rw [if_pos hS]
    refine no ?_
    unfold locV
    simp only [k3, if_false]
    repeat' split
    all_goals first | rfl | (rw [decide_eq_false (by omega)]; try rfl)
  rw [if_neg hS]
  by_cases k5 : v.Kind = 5
  · have hv := hloc 5 k5
    simp only [show ¬ ((5 : Int) = 0 ∨ (5 : Int) = 6) by omega, if_false, show ¬ ((5 : Int) = 1) by omega, show ¬ ((5 : Int) = 2) by omega, show ¬ ((5 : Int) = 3) by omega, show ¬ ((5 : Int) = 4) by omega, if_true] at hv
    rw [if_pos k5]
    by_cases a2 : v.N = 0
    · rw [if_pos a2]
      by_cases a3 : ((v.K.length : Nat) : Int) = ((v.L.length : Nat) : Int)
      · rw [if_pos a3]
        refine lp (.inr ⟨k5, by omega⟩) fun b h40 hb => ?_
        rw [hv, decide_eq_true (by omega), Bool.true_and, show v.K.length = v.L.length by omega, Bool.eq_iff_iff, <- hb]
        exact ⟨fun h _ => h, fun h => h k5⟩
      · rw [if_neg a3]; exact no (by rw [hv, decide_eq_false (by omega)]; rfl)
    · rw [if_neg a2]; exact no (by rw [hv, decide_eq_false (by omega)]; rfl)
  rw [if_neg k5]
  by_cases hK : 0 < ((v.K.length : Nat) : Int)
  · rw [if_pos hK]
    refine no ?_
    unfold locV
    simp only [k3, k5, if_false]
    repeat' split
    all_goals first | rfl | (rw [decide_eq_false (by omega)]; try rfl)
  rw [if_neg hK]
  by_cases k1 : v.Kind = 1
  · have hv := hloc 1 k1
    simp only [show ¬ ((1 : Int) = 0 ∨ (1 : Int) = 6) by omega, if_false, if_true] at hv
    rw [if_pos k1]
    by_cases a3 : 0 < ((v.L.length : Nat) : Int)
    · rw [if_pos a3]; exact no (by rw [hv, decide_eq_false (by omega)])
    · rw [if_neg a3]
      by_cases a4 : v.N < 0
      · rw [if_pos a4]; exact no (by rw [hv, decide_eq_false (by omega)])
      · rw [if_neg a4]
        by_cases a5 : 1 < v.N
        · rw [if_pos a5]; exact no (by rw [hv, decide_eq_false (by omega)])
        · rw [if_neg a5]; exact yes (by rw [hv, decide_eq_true (by omega)]) (by omega)
  rw [if_neg k1]
  by_cases k2 : v.Kind = 2
  · have hv := hloc 2 k2
    simp only [show ¬ ((2 : Int) = 0 ∨ (2 : Int) = 6) by omega, if_false, show ¬ ((2 : Int) = 1) by omega, if_true] at hv
    rw [if_pos k2]
    by_cases a3 : 0 < ((v.L.length : Nat) : Int)
    · rw [if_pos a3]; exact no (by rw [hv, decide_eq_false (by omega)])
    · rw [if_neg a3, l2int_eq, Option.bind_some]
      by_cases a4 : -1000000000000 <= v.N ∧ v.N <= 1000000000000
      · rw [decide_eq_true a4]; exact yes (by rw [hv, decide_eq_true (by omega)]) (by omega)
      · rw [decide_eq_false a4]; exact no (by rw [hv, decide_eq_false (by omega)])
  rw [if_neg k2]
  by_cases a2 : v.N = 0
  · rw [if_pos a2]
    by_cases k4 : v.Kind = 4
    · have hv := hloc 4 k4
      simp only [show ¬ ((4 : Int) = 0 ∨ (4 : Int) = 6) by omega, if_false, show ¬ ((4 : Int) = 1) by omega, show ¬ ((4 : Int) = 2) by omega, show ¬ ((4 : Int) = 3) by omega, if_true] at hv
      rw [if_pos k4]
      refine lp (.inl k4) fun b h40 hb => ?_
      rw [hv, decide_eq_true (by omega)]
      exact (hb.1 fun h => by omega).symm
    · rw [if_neg k4]
      by_cases a3 : 0 < ((v.L.length : Nat) : Int)
      · rw [if_pos a3]
        refine no ?_
        unfold locV
        simp only [k1, k2, k3, k4, k5, if_false]
        repeat' split
        all_goals first | rfl | (rw [decide_eq_false (by omega)])
      · rw [if_neg a3]
        by_cases k0 : v.Kind = 0
        · rw [if_pos k0]; exact yes (by unfold locV; rw [if_pos (.inl k0), decide_eq_true (by omega)]) (by omega)
        · rw [if_neg k0]
          by_cases k6 : v.Kind = 6
          · rw [if_pos k6]; exact yes (by unfold locV; rw [if_pos (.inr k6), decide_eq_true (by omega)]) (by omega)
          · rw [if_neg k6]
            exact no (by unfold locV; simp only [k0, k1, k2, k3, k4, k5, k6, or_self, if_false])
  · rw [if_neg a2]
    refine no ?_
    unfold locV
    simp only [k1, k2, k3, k5, if_false]
    repeat' split
    all_goals first | rfl | (rw [decide_eq_false (by omega)])
theorem l2ok_U : ∀ (N : Nat) (v : GValue), vsz v < N → vsz v <= 2 ^ 20 → ∀ (f : Nat) (deep left : Int), vsz v + 2 <= f → 1 <= deep → deep <= 6 → 0 <= left → left <= 40 → U_spec_l2ok f v deep left = some (okV (6 - deep).toNat left v) := by
  intro N
  induction N with
  | zero => intro v hv; omega
  | succ N ih =>
    intro v hv hs f deep left hf h1 h2 h3 h4
    obtain ⟨f, rfl, _⟩ := fuel (show 0 < f by omega)
    have he := vsz_eq v
    have hl := vszs_len v.L
    rw [U_spec_l2ok]
    have := l2ok_T (G := U_spec_l2ok f) (f := f) (dd := (5 - deep).toNat) (deep := deep) (left := left) (by omega) h1 hs (by omega) h3 h4 fun hd x hx r g0 g1 => by
      have hm := vszs_mem hx
      have := ih x (by omega) (by omega) f (deep + 1) r (by omega) (by omega) (by omega) g0 g1
      rw [show (6 - (deep + 1)).toNat = (5 - deep).toNat by omega] at this
      exact this
    rw [this]
    congr 2
    by_cases hd : deep <= 5
    · rw [if_pos hd]; omega
    · rw [if_neg hd]; omega
def S_spec_l2ok (a0 : GValue) (a1 : Int) (a2 : Int) : Option Int := if vsz a0 <= 2 ^ 20 ∧ (1 <= a1 ∧ a1 <= 6) ∧ 0 <= a2 ∧ a2 <= 40 then some (okV (6 - a1).toNat a2 a0) else none
theorem spec_spec_l2ok (a0 : GValue) (a1 : Int) (a2 : Int) (r : Int) (h : S_spec_l2ok a0 a1 a2 = some r) : ∃ n, U_spec_l2ok n a0 a1 a2 = some r := by
  unfold S_spec_l2ok at h
  obtain ⟨⟨hs, ⟨h1, h2⟩, h3, h4⟩, h⟩ := need_c h
  exact ⟨vsz a0 + 2, by rw [<- h]; exact l2ok_U _ a0 (Nat.lt_succ_self _) hs _ a1 a2 (Nat.le_refl _) h1 h2 h3 h4⟩
theorem ok_spec_l2ok (a0 : GValue) (a1 : Int) (a2 : Int) (r : Int) (h : S_spec_l2ok a0 a1 a2 = some r) : (mach cfg).call 147 [] [.val true [.int .i64 a0.Kind, .int .i64 a0.N, .seq (eL e_u8 a0.S), .seq (eL (e_sl e_u8) a0.K), .seq (eL e_GValue a0.L)], .val false [.int .i64 a1], .val false [.int .i64 a2]] = some (.val false [.int .i64 r], []) := by
  obtain ⟨n, hn⟩ := spec_spec_l2ok a0 a1 a2 r h
  exact (rec_spec_l2ok n) a0 a1 a2 r hn
def S_spec_ValOk (a0 : GValue) : Option Bool :=
  (S_spec_l2ok a0 1 40).bind fun r1 =>
  some (decide (0 <= r1))
set_option maxRecDepth 100000 in
theorem fd_107 : cfg.funcs 107 = some (bodyOf Tryz.f107, Tryz.f107.ntmps, Tryz.f107.results.toList) := fn_of Tryz.func107 (by kernel_rfl) (by kernel_rfl)
theorem ok_spec_ValOk (a0 : GValue) (r : Bool) (h : S_spec_ValOk a0 = some r) : (mach cfg).call 107 [] [.val true [.int .i64 a0.Kind, .int .i64 a0.N, .seq (eL e_u8 a0.S), .seq (eL (e_sl e_u8) a0.K), .seq (eL e_GValue a0.L)]] = some (.val false [.bool r], []) := by
  unfold S_spec_ValOk at h
  obtain ⟨r1, hr1, h⟩ := bs h
  obtain rfl := Option.some.inj h
  exact call_wQ [.cl (ok_spec_l2ok a0 1 40 _ hr1), .gD 0 r1] rfl fd_107 (by kernel_rfl)
def S_spec_l2bytes (a0 : (List UInt8)) (a1 : (List UInt8)) : Option Int :=
  if Op.bytesLess a0 a1 = true then
    some (-1)
  else
    if Op.bytesLess a1 a0 = true then
      some 1
    else
      some 0
set_option maxRecDepth 100000 in
theorem fd_140 : cfg.funcs 140 = some (bodyOf Tryz.f140, Tryz.f140.ntmps, Tryz.f140.results.toList) := fn_of Tryz.func140 (by kernel_rfl) (by kernel_rfl)
theorem ok_spec_l2bytes (a0 : (List UInt8)) (a1 : (List UInt8)) (r : Int) (h : S_spec_l2bytes a0 a1 = some r) : (mach cfg).call 140 [] [.val false [.seq (eL e_u8 a0)], .val false [.seq (eL e_u8 a1)]] = some (.val false [.int .i64 r], []) := by
  unfold S_spec_l2bytes at h
  rcases ite_some h with ⟨c1, h⟩ | ⟨c1, h⟩
  ·obtain rfl := Option.some.inj h
   exact call_wQ [⟨.bytes (eL e_u8 a0), .s a0, A.bytes⟩, ⟨.bytes (eL e_u8 a1), .s a1, A.bytes⟩, ⟨.ltS a0 a1, .b true, (A.ltS_t c1)⟩] rfl fd_140 (by kernel_rfl)
  ·rcases ite_some h with ⟨c2, h⟩ | ⟨c2, h⟩
   ·obtain rfl := Option.some.inj h
    exact call_wQ [⟨.bytes (eL e_u8 a0), .s a0, A.bytes⟩, ⟨.bytes (eL e_u8 a1), .s a1, A.bytes⟩, ⟨.ltS a0 a1, .b false, (A.ltS_f c1)⟩, ⟨.bytes (eL e_u8 a0), .s a0, A.bytes⟩, ⟨.bytes (eL e_u8 a1), .s a1, A.bytes⟩, ⟨.ltS a1 a0, .b true, (A.ltS_t c2)⟩] rfl fd_140 (by kernel_rfl)
   ·obtain rfl := Option.some.inj h
    exact call_wQ [⟨.bytes (eL e_u8 a0), .s a0, A.bytes⟩, ⟨.bytes (eL e_u8 a1), .s a1, A.bytes⟩, ⟨.ltS a0 a1, .b false, (A.ltS_f c1)⟩, ⟨.bytes (eL e_u8 a0), .s a0, A.bytes⟩, ⟨.bytes (eL e_u8 a1), .s a1, A.bytes⟩, ⟨.ltS a1 a0, .b false, (A.ltS_f c2)⟩] rfl fd_140 (by kernel_rfl)
def S_spec_l2num (a0 : Int) (a1 : Int) : Option Int :=
  if a0 < a1 then
    some (-1)
  else
    if a1 < a0 then
      some 1
    else
      some 0
set_option maxRecDepth 100000 in
theorem fd_139 : cfg.funcs 139 = some (bodyOf Tryz.f139, Tryz.f139.ntmps, Tryz.f139.results.toList) := fn_of Tryz.func139 (by kernel_rfl) (by kernel_rfl)
theorem ok_spec_l2num (a0 : Int) (a1 : Int) (r : Int) (h : S_spec_l2num a0 a1 = some r) : (mach cfg).call 139 [] [.val false [.int .i64 a0], .val false [.int .i64 a1]] = some (.val false [.int .i64 r], []) := by
  unfold S_spec_l2num at h
  rcases ite_some h with ⟨c1, h⟩ | ⟨c1, h⟩
  ·obtain rfl := Option.some.inj h
   exact call_wQ [.lT c1] rfl fd_139 (by kernel_rfl)
  ·rcases ite_some h with ⟨c2, h⟩ | ⟨c2, h⟩
   ·obtain rfl := Option.some.inj h
    exact call_wQ [.lF c1, .lT c2] rfl fd_139 (by kernel_rfl)
   ·obtain rfl := Option.some.inj h
    exact call_wQ [.lF c1, .lF c2] rfl fd_139 (by kernel_rfl)
def L_spec_l2cmp_l0 (G_spec_l2cmp : GValue → GValue → Option Int) (a0 : GValue) (a1 : GValue) : Nat → Int → Option (Int ⊕ Int)
  | 0, _ => none
  | m + 1, v0 =>
    if v0 < ((a0.L.length : Nat) : Int) then
      if v0 < ((a1.L.length : Nat) : Int) then
        if a0.Kind = 5 then
          (natO v0).bind fun i4 =>
          (a0.K[i4]?).bind fun x5 =>
          (a1.K[i4]?).bind fun x6 =>
          (S_spec_l2bytes x5 x6).bind fun r7 =>
          if r7 = 0 then
            (a0.L[i4]?).bind fun x9 =>
            (a1.L[i4]?).bind fun x10 =>
            (G_spec_l2cmp x9 x10).bind fun r11 =>
            if r11 = 0 then
              L_spec_l2cmp_l0 G_spec_l2cmp a0 a1 m (w64 (v0 + 1))
            else
              some (.inl r11)
          else
            some (.inl r7)
        else
          (natO v0).bind fun i4 =>
          (a0.L[i4]?).bind fun x5 =>
          (a1.L[i4]?).bind fun x6 =>
          (G_spec_l2cmp x5 x6).bind fun r7 =>
          if r7 = 0 then
            L_spec_l2cmp_l0 G_spec_l2cmp a0 a1 m (w64 (v0 + 1))
          else
            some (.inl r7)
      else
        some (.inr v0)
    else
      some (.inr v0)
theorem gl_spec_l2cmp_l0 (G_spec_l2cmp : GValue → GValue → Option Int) (H_spec_l2cmp : ∀ (a0 : GValue) (a1 : GValue) (r : Int), G_spec_l2cmp a0 a1 = some r → (mach cfg).call 92 [] [.val true [.int .i64 a0.Kind, .int .i64 a0.N, .seq (eL e_u8 a0.S), .seq (eL (e_sl e_u8) a0.K), .seq (eL e_GValue a0.L)], .val true [.int .i64 a1.Kind, .int .i64 a1.N, .seq (eL e_u8 a1.S), .seq (eL (e_sl e_u8) a1.K), .seq (eL e_GValue a1.L)]] = some (.val false [.int .i64 r], [])) (a0 : GValue) (a1 : GValue) (m : Nat) : ∀ (v0 : Int) (o : (Int ⊕ Int)), L_spec_l2cmp_l0 G_spec_l2cmp a0 a1 m v0 = some o → (mach cfg).loop 92 (loopB Tryz.f92 0) ⟨[(2, .val false [.ptr 0 0]), (3, .val false [.ptr 1 0]), (5, .val false [.int .i64 v0])], [.var [.int .i64 a0.Kind, .int .i64 a0.N, .seq (eL e_u8 a0.S), .seq (eL (e_sl e_u8) a0.K), .seq (eL e_GValue a0.L)], .var [.int .i64 a1.Kind, .int .i64 a1.N, .seq (eL e_u8 a1.S), .seq (eL (e_sl e_u8) a1.K), .seq (eL e_GValue a1.L)]], 0⟩ = some (match o with | .inl o_0 => (.ret, (⟨[(4, .val false [.int .i64 o_0])], [], 0⟩ : S)) | .inr (o_1) => (.exit 0, (⟨[(2, .val false [.ptr 0 0]), (3, .val false [.ptr 1 0]), (5, .val false [.int .i64 o_1]), (47, .val false [.bool false])], [.var [.int .i64 a0.Kind, .int .i64 a0.N, .seq (eL e_u8 a0.S), .seq (eL (e_sl e_u8) a0.K), .seq (eL e_GValue a0.L)], .var [.int .i64 a1.Kind, .int .i64 a1.N, .seq (eL e_u8 a1.S), .seq (eL (e_sl e_u8) a1.K), .seq (eL e_GValue a1.L)]], 0⟩ : S))) := by
  induction m with
  | zero => intro v0 o h; cases h
  | succ m ih =>
    intro v0 o h
    rw [L_spec_l2cmp_l0] at h
    rcases ite_some h with ⟨c1, h⟩ | ⟨c1, h⟩
    ·rcases ite_some h with ⟨c2, h⟩ | ⟨c2, h⟩
     ·rcases ite_some h with ⟨c3, h⟩ | ⟨c3, h⟩
      ·obtain ⟨i4, hi4, h⟩ := bs h
       obtain ⟨x5, hx5, h⟩ := bs h
       obtain ⟨x6, hx6, h⟩ := bs h
       obtain ⟨r7, hr7, h⟩ := bs h
       let p29 : List (Q cfg) := [.le e_GValue a0.L, .lT c1, .le e_GValue a1.L, .lT c2, .eT c3, .na hi4, .ix0 (e_sl e_u8) hx5, .na hi4, .ix0 (e_sl e_u8) hx6, .cl (ok_spec_l2bytes x5 x6 _ hr7)]
       rcases ite_some h with ⟨c8, h⟩ | ⟨c8, h⟩
       ·obtain ⟨x9, hx9, h⟩ := bs h
        obtain ⟨x10, hx10, h⟩ := bs h
        obtain ⟨r11, hr11, h⟩ := bs h
        let p30 : List (Q cfg) := p29 ++ [.eT c8, .nt true, .na hi4, .ix hx9 (eq_GValue x9), .na hi4, .ix hx10 (eq_GValue x10), .cl (H_spec_l2cmp x9 x10 _ hr11)]
        rcases ite_some h with ⟨c12, h⟩ | ⟨c12, h⟩
        ·exact loop_nQ (p30 ++ [.eT c12, .nt true, .ad v0 1]) (by kernel_rfl) (ih (w64 (v0 + 1)) o h)
        ·obtain rfl := Option.some.inj h
         exact loop_eQ (p30 ++ [.eF c12, .nt false]) (by kernel_rfl) (by intro h; cases h)
       ·obtain rfl := Option.some.inj h
        exact loop_eQ (p29 ++ [.eF c8, .nt false]) (by kernel_rfl) (by intro h; cases h)
      ·obtain ⟨i4, hi4, h⟩ := bs h
       obtain ⟨x5, hx5, h⟩ := bs h
       obtain ⟨x6, hx6, h⟩ := bs h
       obtain ⟨r7, hr7, h⟩ := bs h
       let p31 : List (Q cfg) := [.le e_GValue a0.L, .lT c1, .le e_GValue a1.L, .lT c2, .eF c3, .na hi4, .ix hx5 (eq_GValue x5), .na hi4, .ix hx6 (eq_GValue x6), .cl (H_spec_l2cmp x5 x6 _ hr7)]
       rcases ite_some h with ⟨c8, h⟩ | ⟨c8, h⟩
       ·exact loop_nQ (p31 ++ [.eT c8, .nt true, .ad v0 1]) (by kernel_rfl) (ih (w64 (v0 + 1)) o h)
       ·obtain rfl := Option.some.inj h
        exact loop_eQ (p31 ++ [.eF c8, .nt false]) (by kernel_rfl) (by intro h; cases h)
     ·obtain rfl := Option.some.inj h
      exact loop_eQ [.le e_GValue a0.L, .lT c1, .le e_GValue a1.L, .lF c2] (by kernel_rfl) (by intro h; cases h)
    ·obtain rfl := Option.some.inj h
     exact loop_eQ [.le e_GValue a0.L, .lF c1] (by kernel_rfl) (by intro h; cases h)
def T_spec_l2cmp (G_spec_l2cmp : GValue → GValue → Option Int) (n : Nat) (a0 : GValue) (a1 : GValue) : Option Int :=
  if a0.Kind = a1.Kind then
    if a0.Kind = 3 then
      (S_spec_l2bytes a0.S a1.S).bind fun r3 =>
      some r3
    else
      if a0.N = a1.N then
        (L_spec_l2cmp_l0 G_spec_l2cmp a0 a1 n 0).bind fun o4 =>
        match o4 with
        | .inl o4_0 =>
          some o4_0
        | .inr (o4_1) =>
          (S_spec_l2num ((a0.L.length : Nat) : Int) ((a1.L.length : Nat) : Int)).bind fun r5 =>
          some r5
      else
        (S_spec_l2num a0.N a1.N).bind fun r4 =>
        some r4
  else
    (S_spec_l2num a0.Kind a1.Kind).bind fun r2 =>
    some r2
set_option maxRecDepth 100000 in
theorem fd_92 : cfg.funcs 92 = some (bodyOf Tryz.f92, Tryz.f92.ntmps, Tryz.f92.results.toList) := fn_of Tryz.func92 (by kernel_rfl) (by kernel_rfl)
theorem g_spec_l2cmp (G_spec_l2cmp : GValue → GValue → Option Int) (H_spec_l2cmp : ∀ (a0 : GValue) (a1 : GValue) (r : Int), G_spec_l2cmp a0 a1 = some r → (mach cfg).call 92 [] [.val true [.int .i64 a0.Kind, .int .i64 a0.N, .seq (eL e_u8 a0.S), .seq (eL (e_sl e_u8) a0.K), .seq (eL e_GValue a0.L)], .val true [.int .i64 a1.Kind, .int .i64 a1.N, .seq (eL e_u8 a1.S), .seq (eL (e_sl e_u8) a1.K), .seq (eL e_GValue a1.L)]] = some (.val false [.int .i64 r], [])) (n : Nat) (a0 : GValue) (a1 : GValue) (r : Int) (h : T_spec_l2cmp G_spec_l2cmp n a0 a1 = some r) : (mach cfg).call 92 [] [.val true [.int .i64 a0.Kind, .int .i64 a0.N, .seq (eL e_u8 a0.S), .seq (eL (e_sl e_u8) a0.K), .seq (eL e_GValue a0.L)], .val true [.int .i64 a1.Kind, .int .i64 a1.N, .seq (eL e_u8 a1.S), .seq (eL (e_sl e_u8) a1.K), .seq (eL e_GValue a1.L)]] = some (.val false [.int .i64 r], []) := by
  unfold T_spec_l2cmp at h
  rcases ite_some h with ⟨c1, h⟩ | ⟨c1, h⟩
  ·rcases ite_some h with ⟨c2, h⟩ | ⟨c2, h⟩
   ·obtain ⟨r3, hr3, h⟩ := bs h
    obtain rfl := Option.some.inj h
    exact call_wQ [.eT c1, .nt true, .eT c2, .cl (ok_spec_l2bytes a0.S a1.S _ hr3)] rfl fd_92 (by kernel_rfl)
   ·rcases ite_some h with ⟨c3, h⟩ | ⟨c3, h⟩
    ·obtain ⟨o4, ho4, h⟩ := bs h
     let p32 : List (Q cfg) := [.eT c1, .nt true, .eF c2, .eT c3, .nt true, .lp (gl_spec_l2cmp_l0 G_spec_l2cmp H_spec_l2cmp a0 a1 _ 0 _ ho4)]
     rcases o4 with o4_0 | o4_1
     · try dsimp only at h
       obtain rfl := Option.some.inj h
       exact call_wQ p32 rfl fd_92 (by kernel_rfl)
     · try dsimp only at h
       obtain ⟨r5, hr5, h⟩ := bs h
       obtain rfl := Option.some.inj h
       exact call_wQ (p32 ++ [.le e_GValue a0.L, .le e_GValue a1.L, .cl (ok_spec_l2num ((a0.L.length : Nat) : Int) ((a1.L.length : Nat) : Int) _ hr5)]) rfl fd_92 (by kernel_rfl)
    ·obtain ⟨r4, hr4, h⟩ := bs h
     obtain rfl := Option.some.inj h
     exact call_wQ [.eT c1, .nt true, .eF c2, .eF c3, .nt false, .cl (ok_spec_l2num a0.N a1.N _ hr4)] rfl fd_92 (by kernel_rfl)
  ·obtain ⟨r2, hr2, h⟩ := bs h
   obtain rfl := Option.some.inj h
   exact call_wQ [.eF c1, .nt false, .cl (ok_spec_l2num a0.Kind a1.Kind _ hr2)] rfl fd_92 (by kernel_rfl)
def U_spec_l2cmp : Nat → GValue → GValue → Option Int
  | 0, _, _ => none
  | n + 1, a0, a1 => T_spec_l2cmp (U_spec_l2cmp n) n a0 a1
theorem rec_spec_l2cmp (n : Nat) : (∀ (a0 : GValue) (a1 : GValue) (r : Int), U_spec_l2cmp n a0 a1 = some r → (mach cfg).call 92 [] [.val true [.int .i64 a0.Kind, .int .i64 a0.N, .seq (eL e_u8 a0.S), .seq (eL (e_sl e_u8) a0.K), .seq (eL e_GValue a0.L)], .val true [.int .i64 a1.Kind, .int .i64 a1.N, .seq (eL e_u8 a1.S), .seq (eL (e_sl e_u8) a1.K), .seq (eL e_GValue a1.L)]] = some (.val false [.int .i64 r], [])) := by
  induction n with
  | zero => exact fun _ _ _ h => (by rw [U_spec_l2cmp] at h; cases h)
  | succ n ih =>
    have ih_spec_l2cmp := ih
    exact fun a0 a1 r h => g_spec_l2cmp (U_spec_l2cmp n) ih_spec_l2cmp n a0 a1 r (by rw [U_spec_l2cmp] at h; exact h)
def S_spec_l2cmp (a0 : GValue) (a1 : GValue) : Option Int := U_spec_l2cmp (vsz a0 + 3) a0 a1
theorem spec_spec_l2cmp (a0 : GValue) (a1 : GValue) (r : Int) (h : S_spec_l2cmp a0 a1 = some r) : ∃ n, U_spec_l2cmp n a0 a1 = some r := ⟨_, h⟩
theorem ok_spec_l2cmp (a0 : GValue) (a1 : GValue) (r : Int) (h : S_spec_l2cmp a0 a1 = some r) : (mach cfg).call 92 [] [.val true [.int .i64 a0.Kind, .int .i64 a0.N, .seq (eL e_u8 a0.S), .seq (eL (e_sl e_u8) a0.K), .seq (eL e_GValue a0.L)], .val true [.int .i64 a1.Kind, .int .i64 a1.N, .seq (eL e_u8 a1.S), .seq (eL (e_sl e_u8) a1.K), .seq (eL e_GValue a1.L)]] = some (.val false [.int .i64 r], []) := by
  obtain ⟨n, hn⟩ := spec_spec_l2cmp a0 a1 r h
  exact (rec_spec_l2cmp n) a0 a1 r hn
def S_spec_l4zero (a0 : GValue) : Option Bool :=
  (S_spec_l2cmp a0 (GValue.mk 0 0 [] [] [])).bind fun r1 =>
  if r1 = 0 then
    some (decide (a0.N = 0))
  else
    some false
set_option maxRecDepth 100000 in
theorem fd_124 : cfg.funcs 124 = some (bodyOf Tryz.f124, Tryz.f124.ntmps, Tryz.f124.results.toList) := fn_of Tryz.func124 (by kernel_rfl) (by kernel_rfl)
theorem ok_spec_l4zero (a0 : GValue) (r : Bool) (h : S_spec_l4zero a0 = some r) : (mach cfg).call 124 [] [.val true [.int .i64 a0.Kind, .int .i64 a0.N, .seq (eL e_u8 a0.S), .seq (eL (e_sl e_u8) a0.K), .seq (eL e_GValue a0.L)]] = some (.val false [.bool r], []) := by
  unfold S_spec_l4zero at h
  obtain ⟨r1, hr1, h⟩ := bs h
  rcases ite_some h with ⟨c2, h⟩ | ⟨c2, h⟩
  ·obtain rfl := Option.some.inj h
   exact call_wQ [.cl (ok_spec_l2cmp a0 (GValue.mk 0 0 [] [] []) _ hr1), .eT c2, .eD a0.N 0] rfl fd_124 (by kernel_rfl)
  ·obtain rfl := Option.some.inj h
   exact call_wQ [.cl (ok_spec_l2cmp a0 (GValue.mk 0 0 [] [] []) _ hr1), .eF c2] rfl fd_124 (by kernel_rfl)
def L_spec_l2known_l0 (G_spec_l2known : GValue → Option Bool) (a0 : GValue) : Nat → Int → Option (Bool ⊕ Int)
  | 0, _ => none
  | m + 1, v0 =>
    if v0 < ((a0.L.length : Nat) : Int) then
      (natO v0).bind fun i2 =>
      (a0.L[i2]?).bind fun x3 =>
      (G_spec_l2known x3).bind fun r4 =>
      match r4 with
      | true =>
        L_spec_l2known_l0 G_spec_l2known a0 m (w64 (v0 + 1))
      | false =>
        some (.inl false)
    else
      some (.inr v0)
theorem gl_spec_l2known_l0 (G_spec_l2known : GValue → Option Bool) (H_spec_l2known : ∀ (a0 : GValue) (r : Bool), G_spec_l2known a0 = some r → (mach cfg).call 108 [] [.val true [.int .i64 a0.Kind, .int .i64 a0.N, .seq (eL e_u8 a0.S), .seq (eL (e_sl e_u8) a0.K), .seq (eL e_GValue a0.L)]] = some (.val false [.bool r], [])) (a0 : GValue) (m : Nat) : ∀ (v0 : Int) (o : (Bool ⊕ Int)), L_spec_l2known_l0 G_spec_l2known a0 m v0 = some o → (mach cfg).loop 108 (loopB Tryz.f108 0) ⟨[(1, .val false [.ptr 0 0]), (3, .val false [.int .i64 v0])], [.var [.int .i64 a0.Kind, .int .i64 a0.N, .seq (eL e_u8 a0.S), .seq (eL (e_sl e_u8) a0.K), .seq (eL e_GValue a0.L)]], 0⟩ = some (match o with | .inl o_0 => (.ret, (⟨[(2, .val false [.bool o_0])], [], 0⟩ : S)) | .inr (o_1) => (.exit 0, (⟨[(1, .val false [.ptr 0 0]), (3, .val false [.int .i64 o_1]), (11, .val false [.bool false])], [.var [.int .i64 a0.Kind, .int .i64 a0.N, .seq (eL e_u8 a0.S), .seq (eL (e_sl e_u8) a0.K), .seq (eL e_GValue a0.L)]], 0⟩ : S))) := by
  induction m with
  | zero => intro v0 o h; cases h
  | succ m ih =>
    intro v0 o h
    rw [L_spec_l2known_l0] at h
    rcases ite_some h with ⟨c1, h⟩ | ⟨c1, h⟩
    ·obtain ⟨i2, hi2, h⟩ := bs h
     obtain ⟨x3, hx3, h⟩ := bs h
     obtain ⟨r4, hr4, h⟩ := bs h
     let p33 : List (Q cfg) := [.le e_GValue a0.L, .lT c1, .na hi2, .ix hx3 (eq_GValue x3), .cl (H_spec_l2known x3 _ hr4)]
     cases r4 with
     | true =>
      try dsimp only at h
      exact loop_nQ (p33 ++ [.nt true, .ad v0 1]) (by kernel_rfl) (ih (w64 (v0 + 1)) o h)
     | false =>
      try dsimp only at h
      obtain rfl := Option.some.inj h
      exact loop_eQ (p33 ++ [.nt false]) (by kernel_rfl) (by intro h; cases h)
    ·obtain rfl := Option.some.inj h
     exact loop_eQ [.le e_GValue a0.L, .lF c1] (by kernel_rfl) (by intro h; cases h)
def T_spec_l2known (G_spec_l2known : GValue → Option Bool) (n : Nat) (a0 : GValue) : Option Bool :=
  if a0.Kind = 6 then
    some false
  else
    (L_spec_l2known_l0 G_spec_l2known a0 n 0).bind fun o2 =>
    match o2 with
    | .inl o2_0 =>
      some o2_0
    | .inr (o2_1) =>
      some true
set_option maxRecDepth 100000 in
theorem fd_108 : cfg.funcs 108 = some (bodyOf Tryz.f108, Tryz.f108.ntmps, Tryz.f108.results.toList) := fn_of Tryz.func108 (by kernel_rfl) (by kernel_rfl)
theorem g_spec_l2known (G_spec_l2known : GValue → Option Bool) (H_spec_l2known : ∀ (a0 : GValue) (r : Bool), G_spec_l2known a0 = some r → (mach cfg).call 108 [] [.val true [.int .i64 a0.Kind, .int .i64 a0.N, .seq (eL e_u8 a0.S), .seq (eL (e_sl e_u8) a0.K), .seq (eL e_GValue a0.L)]] = some (.val false [.bool r], [])) (n : Nat) (a0 : GValue) (r : Bool) (h : T_spec_l2known G_spec_l2known n a0 = some r) : (mach cfg).call 108 [] [.val true [.int .i64 a0.Kind, .int .i64 a0.N, .seq (eL e_u8 a0.S), .seq (eL (e_sl e_u8) a0.K), .seq (eL e_GValue a0.L)]] = some (.val false [.bool r], []) := by
  unfold T_spec_l2known at h
  rcases ite_some h with ⟨c1, h⟩ | ⟨c1, h⟩
  ·obtain rfl := Option.some.inj h
   exact call_wQ [.eT c1] rfl fd_108 (by kernel_rfl)
  ·obtain ⟨o2, ho2, h⟩ := bs h
   rcases o2 with o2_0 | o2_1
   · try dsimp only at h
     obtain rfl := Option.some.inj h
     exact call_wQ [.eF c1, .lp (gl_spec_l2known_l0 G_spec_l2known H_spec_l2known a0 _ 0 _ ho2)] rfl fd_108 (by kernel_rfl)
   · try dsimp only at h
     obtain rfl := Option.some.inj h
     exact call_wQ [.eF c1, .lp (gl_spec_l2known_l0 G_spec_l2known H_spec_l2known a0 _ 0 _ ho2)] rfl fd_108 (by kernel_rfl)
def U_spec_l2known : Nat → GValue → Option Bool
  | 0, _ => none
  | n + 1, a0 => T_spec_l2known (U_spec_l2known n) n a0
theorem rec_spec_l2known (n : Nat) : (∀ (a0 : GValue) (r : Bool), U_spec_l2known n a0 = some r → (mach cfg).call 108 [] [.val true [.int .i64 a0.Kind, .int .i64 a0.N, .seq (eL e_u8 a0.S), .seq (eL (e_sl e_u8) a0.K), .seq (eL e_GValue a0.L)]] = some (.val false [.bool r], [])) := by
  induction n with
  | zero => exact fun _ _ h => (by rw [U_spec_l2known] at h; cases h)
  | succ n ih =>
    have ih_spec_l2known := ih
    exact fun a0 r h => g_spec_l2known (U_spec_l2known n) ih_spec_l2known n a0 r (by rw [U_spec_l2known] at h; exact h)
theorem l2known_loop {G : GValue → Option Bool} {v : GValue} (ha : v.L.length <= 2 ^ 40) (hG : ∀ x ∈ v.L, G x = some (knV x)) : ∀ (l p : List GValue) (m : Nat), v.L = p ++ l → l.length < m → ∃ z, L_spec_l2known_l0 G v m ((p.length : Nat) : Int) = some (if knVs l = true then .inr z else .inl false) := by
  intro l
  induction l with
  | nil =>
    intro p m he hm
    obtain ⟨m, rfl, _⟩ := fuel hm
    exact ⟨_, by rw [L_spec_l2known_l0, if_neg (by rw [he]; exact nlt_end p)]; rfl⟩
  | cons x l ih =>
    intro p m he hm
    obtain ⟨m, rfl, hm'⟩ := fuel hm
    have hlen : v.L.length = p.length + (l.length + 1) := by rw [he]; simp
    rw [L_spec_l2known_l0, if_pos (by omega), natO_nat, Option.bind_some, show v.L[p.length]? = some x by rw [he]; exact get_mid p x l, Option.bind_some, hG x (by rw [he]; simp), Option.bind_some, knVs]
    cases hx : knV x with
    | true =>
      dsimp only
      rw [w64_len p x (by omega), Bool.true_and]
      exact ih (p ++ [x]) m (by rw [he]; simp) (by simp only [List.length_cons] at hm'; omega)
    | false => exact ⟨0, rfl⟩
theorem l2known_U : ∀ (N : Nat) (v : GValue), vsz v < N → vsz v <= 2 ^ 39 → ∀ f, vsz v + 2 <= f → U_spec_l2known f v = some (knV v) := by
  intro N
  induction N with
  | zero => intro v hv; omega
  | succ N ih =>
    intro v hv hs f hf
    have he := vsz_eq v
    have hl := vszs_len v.L
    obtain ⟨f, rfl, _⟩ := fuel (show 0 < f by omega)
    rw [U_spec_l2known]
    unfold T_spec_l2known
    rw [knV_eq]
    by_cases h6 : v.Kind = 6
    · rw [if_pos h6, h6]; rfl
    · rw [if_neg h6]
      obtain ⟨z, hz⟩ := l2known_loop (G := U_spec_l2known f) (v := v) (by omega) (fun x hx => by
        have := vszs_mem hx
        exact ih x (by omega) (by omega) f (by omega)) v.L [] f rfl (by omega)
      simp only [List.length_nil, Int.natCast_zero] at hz
      rw [hz, Option.bind_some, decide_eq_true h6, Bool.true_and]
      cases knVs v.L <;> rfl
def S_spec_l2known (a0 : GValue) : Option Bool := if vsz a0 <= 2 ^ 39 then some (knV a0) else none
theorem spec_spec_l2known (a0 : GValue) (r : Bool) (h : S_spec_l2known a0 = some r) : ∃ n, U_spec_l2known n a0 = some r := by
  unfold S_spec_l2known at h
  obtain ⟨ha, h⟩ := need_c h
  exact ⟨vsz a0 + 2, by rw [<- h]; exact l2known_U _ a0 (Nat.lt_succ_self _) ha _ (Nat.le_refl _)⟩
theorem ok_spec_l2known (a0 : GValue) (r : Bool) (h : S_spec_l2known a0 = some r) : (mach cfg).call 108 [] [.val true [.int .i64 a0.Kind, .int .i64 a0.N, .seq (eL e_u8 a0.S), .seq (eL (e_sl e_u8) a0.K), .seq (eL e_GValue a0.L)]] = some (.val false [.bool r], []) := by
  obtain ⟨n, hn⟩ := spec_spec_l2known a0 r h
  exact (rec_spec_l2known n) a0 r hn
def S_spec_l4map (a0 : GValue) : Option Bool :=
  if a0.Kind = 5 then
    (S_spec_ValOk a0).bind fun r2 =>
    match r2 with
    | true =>
      (S_spec_l2known a0).bind fun r4 =>
      some r4
    | false =>
      some false
  else
    some false
set_option maxRecDepth 100000 in
theorem fd_63 : cfg.funcs 63 = some (bodyOf Tryz.f63, Tryz.f63.ntmps, Tryz.f63.results.toList) := fn_of Tryz.func63 (by kernel_rfl) (by kernel_rfl)
theorem ok_spec_l4map (a0 : GValue) (r : Bool) (h : S_spec_l4map a0 = some r) : (mach cfg).call 63 [] [.val true [.int .i64 a0.Kind, .int .i64 a0.N, .seq (eL e_u8 a0.S), .seq (eL (e_sl e_u8) a0.K), .seq (eL e_GValue a0.L)]] = some (.val false [.bool r], []) := by
  unfold S_spec_l4map at h
  rcases ite_some h with ⟨c1, h⟩ | ⟨c1, h⟩
  ·obtain ⟨r2, hr2, h⟩ := bs h
   cases r2 with
   | true =>
    try dsimp only at h
    obtain ⟨r4, hr4, h⟩ := bs h
    obtain rfl := Option.some.inj h
    exact call_wQ [.eT c1, .cl (ok_spec_ValOk a0 _ hr2), .cl (ok_spec_l2known a0 _ hr4)] rfl fd_63 (by kernel_rfl)
   | false =>
    try dsimp only at h
    obtain rfl := Option.some.inj h
    exact call_wQ [.eT c1, .cl (ok_spec_ValOk a0 _ hr2)] rfl fd_63 (by kernel_rfl)
  ·obtain rfl := Option.some.inj h
   exact call_wQ [.eF c1] rfl fd_63 (by kernel_rfl)
def L_spec_l4addrs_l0 (a0 : (List (List UInt8))) : Nat → Int → Option (Bool ⊕ Int)
  | 0, _ => none
  | m + 1, v1 =>
    if v1 < ((a0.length : Nat) : Int) then
      (natO v1).bind fun i2 =>
      (a0[i2]?).bind fun x3 =>
      (S_spec_AddrOk x3).bind fun r4 =>
      match r4 with
      | true =>
        if 0 < v1 then
          (natO (w64 (v1 - 1))).bind fun i7 =>
          (a0[i7]?).bind fun x8 =>
          if Op.bytesLess x8 x3 = true then
            L_spec_l4addrs_l0 a0 m (w64 (v1 + 1))
          else
            some (.inl false)
        else
          L_spec_l4addrs_l0 a0 m (w64 (v1 + 1))
      | false =>
        some (.inl false)
    else
      some (.inr v1)
theorem gl_spec_l4addrs_l0 (a0 : (List (List UInt8))) (m : Nat) : ∀ (v1 : Int) (o : (Bool ⊕ Int)), L_spec_l4addrs_l0 a0 m v1 = some o → (mach cfg).loop 64 (loopB Tryz.f64 0) ⟨[(0, .val false [.seq (eL (e_sl e_u8) a0)]), (3, .val false [.int .i64 v1])], [], 0⟩ = some (match o with | .inl o_0 => (.ret, (⟨[(2, .val false [.bool o_0])], [], 0⟩ : S)) | .inr (o_1) => (.exit 0, (⟨[(0, .val false [.seq (eL (e_sl e_u8) a0)]), (3, .val false [.int .i64 o_1]), (10, .val false [.bool false])], [], 0⟩ : S))) := by
  induction m with
  | zero => intro v1 o h; cases h
  | succ m ih =>
    intro v1 o h
    rw [L_spec_l4addrs_l0] at h
    rcases ite_some h with ⟨c1, h⟩ | ⟨c1, h⟩
    ·obtain ⟨i2, hi2, h⟩ := bs h
     obtain ⟨x3, hx3, h⟩ := bs h
     obtain ⟨r4, hr4, h⟩ := bs h
     let p34 : List (Q cfg) := [.le (e_sl e_u8) a0, .lT c1, .na hi2, .ix0 (e_sl e_u8) hx3]
     cases r4 with
     | true =>
      try dsimp only at h
      rcases ite_some h with ⟨c6, h⟩ | ⟨c6, h⟩
      ·obtain ⟨i7, hi7, h⟩ := bs h
       obtain ⟨x8, hx8, h⟩ := bs h
       rcases ite_some h with ⟨c9, h⟩ | ⟨c9, h⟩
       ·exact loop_nQ (p34 ++ [.cl (ok_spec_AddrOk x3 _ hr4), .nt true, .lT c6, .su v1 1, .na hi7, .ix0 (e_sl e_u8) hx8, ⟨.bytes (eL e_u8 x8), .s x8, A.bytes⟩, .na hi2, .ix0 (e_sl e_u8) hx3, ⟨.bytes (eL e_u8 x3), .s x3, A.bytes⟩, ⟨.ltS x8 x3, .b true, (A.ltS_t c9)⟩, .nt true, .ad v1 1]) (by kernel_rfl) (ih (w64 (v1 + 1)) o h)
       ·obtain rfl := Option.some.inj h
        exact loop_eQ (p34 ++ [.cl (ok_spec_AddrOk x3 _ hr4), .nt true, .lT c6, .su v1 1, .na hi7, .ix0 (e_sl e_u8) hx8, ⟨.bytes (eL e_u8 x8), .s x8, A.bytes⟩, .na hi2, .ix0 (e_sl e_u8) hx3, ⟨.bytes (eL e_u8 x3), .s x3, A.bytes⟩, ⟨.ltS x8 x3, .b false, (A.ltS_f c9)⟩, .nt false]) (by kernel_rfl) (by intro h; cases h)
      ·exact loop_nQ (p34 ++ [.cl (ok_spec_AddrOk x3 _ hr4), .nt true, .lF c6, .ad v1 1]) (by kernel_rfl) (ih (w64 (v1 + 1)) o h)
     | false =>
      try dsimp only at h
      obtain rfl := Option.some.inj h
      exact loop_eQ (p34 ++ [.cl (ok_spec_AddrOk x3 _ hr4), .nt false]) (by kernel_rfl) (by intro h; cases h)
    ·obtain rfl := Option.some.inj h
     exact loop_eQ [.le (e_sl e_u8) a0, .lF c1] (by kernel_rfl) (by intro h; cases h)
def T_spec_l4addrs (n : Nat) (a0 : (List (List UInt8))) : Option Bool :=
  if 8 < ((a0.length : Nat) : Int) then
    some false
  else
    (L_spec_l4addrs_l0 a0 n 0).bind fun o2 =>
    match o2 with
    | .inl o2_0 =>
      some o2_0
    | .inr (o2_1) =>
      some true
set_option maxRecDepth 100000 in
theorem fd_64 : cfg.funcs 64 = some (bodyOf Tryz.f64, Tryz.f64.ntmps, Tryz.f64.results.toList) := fn_of Tryz.func64 (by kernel_rfl) (by kernel_rfl)
theorem g_spec_l4addrs (n : Nat) (a0 : (List (List UInt8))) (r : Bool) (h : T_spec_l4addrs n a0 = some r) : (mach cfg).call 64 [] [.val false [.seq (eL (e_sl e_u8) a0)]] = some (.val false [.bool r], []) := by
  unfold T_spec_l4addrs at h
  rcases ite_some h with ⟨c1, h⟩ | ⟨c1, h⟩
  ·obtain rfl := Option.some.inj h
   exact call_wQ [.le (e_sl e_u8) a0, .lT c1] rfl fd_64 (by kernel_rfl)
  ·obtain ⟨o2, ho2, h⟩ := bs h
   let p35 : List (Q cfg) := [.le (e_sl e_u8) a0, .lF c1, .lp (gl_spec_l4addrs_l0 a0 _ 0 _ ho2)]
   rcases o2 with o2_0 | o2_1
   · try dsimp only at h
     obtain rfl := Option.some.inj h
     exact call_wQ p35 rfl fd_64 (by kernel_rfl)
   · try dsimp only at h
     obtain rfl := Option.some.inj h
     exact call_wQ p35 rfl fd_64 (by kernel_rfl)
theorem specAd_eq {a : List UInt8} (h : a.length <= 2 ^ 20) : S_spec_AddrOk a = some (addrB a) := specA_eq h
theorem l4addrs_loop {a : List (List UInt8)} (hs : ∀ x ∈ a, x.length <= 2 ^ 20) (ha : a.length <= 2 ^ 40) : ∀ (d i m : Nat), i + d = a.length → d < m → ∃ z, L_spec_l4addrs_l0 a m (i : Int) = some (if gAll addrB id a i d = true then .inr z else .inl false) := by
  intro d
  induction d with
  | zero =>
    intro i m hi hm
    obtain ⟨m, rfl, _⟩ := fuel hm
    exact ⟨_, by rw [L_spec_l4addrs_l0, if_neg (by omega)]; rfl⟩
  | succ d ih =>
    intro i m hi hm
    obtain ⟨m, rfl, hm'⟩ := fuel hm
    have hil : i < a.length := by omega
    rw [L_spec_l4addrs_l0, if_pos (by omega), natO_nat, Option.bind_some, get_some hil, Option.bind_some, specAd_eq (hs _ (List.getElem_mem hil)), Option.bind_some, gAll_succ]
    obtain ⟨z, hz⟩ := ih (i + 1) m (by omega) (by omega)
    cases hx : addrB a[i] with
    | false =>
      refine ⟨0, ?_⟩
      have : gOk addrB id a i = false := by
        unfold gOk; rw [get_some hil]; simp [hx]
      rw [this]; rfl
    | true =>
      dsimp only
      by_cases h0 : 0 < i
      · rw [if_pos (by omega), w64_pred (by omega) h0, natO_nat, Option.bind_some, get_some (show i - 1 < a.length by omega), Option.bind_some, gOk_eq hil h0, hx, Bool.true_and, w64_succ (by omega), hz]
        by_cases hl : Op.bytesLess a[i - 1] a[i] = true
        · rw [if_pos hl, show Op.bytesLess (id a[i - 1]) (id a[i]) = true from hl, Bool.true_and]; exact ⟨z, rfl⟩
        · rw [if_neg hl, show Op.bytesLess (id a[i - 1]) (id a[i]) = false from Bool.eq_false_iff.2 hl]; exact ⟨z, rfl⟩
      · obtain rfl : i = 0 := by omega
        rw [if_neg (by omega), gOk_zero hil, hx, Bool.true_and, w64_succ (by omega), hz]
        exact ⟨z, rfl⟩
def S_spec_l4addrs (a0 : (List (List UInt8))) : Option Bool := if bsz a0 <= 2 ^ 20 then some (addrsB a0) else none
theorem spec_spec_l4addrs (a0 : (List (List UInt8))) (r : Bool) (h : S_spec_l4addrs a0 = some r) : ∃ n, T_spec_l4addrs n a0 = some r := by
  unfold S_spec_l4addrs at h
  obtain ⟨ha, h⟩ := need_c h
  have hl := bsz_len a0
  obtain ⟨z, hz⟩ := l4addrs_loop (a := a0) (fun x hx => by have := bsz_mem hx; omega) (by omega) a0.length 0 (a0.length + 1) (by omega) (by omega)
  refine ⟨a0.length + 1, ?_⟩
  unfold T_spec_l4addrs
  rw [show ((0 : Nat) : Int) = 0 from rfl] at hz
  rw [<- h]
  unfold addrsB
  by_cases h8 : (8 : Int) < ((a0.length : Nat) : Int)
  · rw [if_pos h8, decide_eq_false (by omega)]; rfl
  · rw [if_neg h8, hz, Option.bind_some, decide_eq_true (by omega), Bool.true_and]
    cases gAll addrB id a0 0 a0.length <;> rfl
theorem ok_spec_l4addrs (a0 : (List (List UInt8))) (r : Bool) (h : S_spec_l4addrs a0 = some r) : (mach cfg).call 64 [] [.val false [.seq (eL (e_sl e_u8) a0)]] = some (.val false [.bool r], []) := by
  obtain ⟨n, hn⟩ := spec_spec_l4addrs a0 r h
  exact g_spec_l4addrs n a0 r hn
def S_spec_EventOk (a0 : GEvent) : Option Bool :=
  if a0.Kind < 0 then
    some false
  else
    if 6 < a0.Kind then
      some false
    else
      if a0.Kind = 1 then
        if 0 < ((a0.Addr.length : Nat) : Int) then
          (S_spec_AddrOk a0.Addr).bind fun r5 =>
          match r5 with
          | true =>
            if a0.Act < 1 then
              some false
            else
              if 4 < a0.Act then
                some false
              else
                (S_spec_ValOk a0.Val).bind fun r9 =>
                match r9 with
                | true =>
                  (S_spec_l4zero a0.Val).bind fun r11 =>
                  match r11 with
                  | true =>
                    some (decide (((a0.Deps.length : Nat) : Int) = 0))
                  | false =>
                    some false
                | false =>
                  some false
          | false =>
            some false
        else
          some false
      else
        if a0.Kind = 2 then
          if 0 < ((a0.Addr.length : Nat) : Int) then
            (S_spec_AddrOk a0.Addr).bind fun r6 =>
            match r6 with
            | true =>
              if a0.Act = 0 then
                (S_spec_l4map a0.Val).bind fun r9 =>
                match r9 with
                | true =>
                  (S_spec_l4addrs a0.Deps).bind fun r11 =>
                  some r11
                | false =>
                  some false
              else
                some false
            | false =>
              some false
          else
            some false
        else
          if a0.Kind = 3 then
            if 0 < ((a0.Addr.length : Nat) : Int) then
              (S_spec_AddrOk a0.Addr).bind fun r7 =>
              match r7 with
              | true =>
                if a0.Act = 0 then
                  (S_spec_ValOk a0.Val).bind fun r10 =>
                  match r10 with
                  | true =>
                    (S_spec_l4zero a0.Val).bind fun r12 =>
                    match r12 with
                    | true =>
                      some (decide (((a0.Deps.length : Nat) : Int) = 0))
                    | false =>
                      some false
                  | false =>
                    some false
                else
                  some false
              | false =>
                some false
            else
              some false
          else
            if a0.Kind = 4 then
              if 0 < ((a0.Addr.length : Nat) : Int) then
                (S_spec_AddrOk a0.Addr).bind fun r8 =>
                match r8 with
                | true =>
                  if a0.Act = 0 then
                    (S_spec_ValOk a0.Val).bind fun r11 =>
                    match r11 with
                    | true =>
                      (S_spec_l4zero a0.Val).bind fun r13 =>
                      match r13 with
                      | true =>
                        some (decide (((a0.Deps.length : Nat) : Int) = 0))
                      | false =>
                        some false
                    | false =>
                      some false
                  else
                    some false
                | false =>
                  some false
              else
                some false
            else
              if 0 < ((a0.Addr.length : Nat) : Int) then
                some false
              else
                if a0.Act = 0 then
                  (S_spec_ValOk a0.Val).bind fun r9 =>
                  match r9 with
                  | true =>
                    (S_spec_l4zero a0.Val).bind fun r11 =>
                    match r11 with
                    | true =>
                      some (decide (((a0.Deps.length : Nat) : Int) = 0))
                    | false =>
                      some false
                  | false =>
                    some false
                else
                  some false
set_option maxRecDepth 100000 in
theorem fd_81 : cfg.funcs 81 = some (bodyOf Tryz.f81, Tryz.f81.ntmps, Tryz.f81.results.toList) := fn_of Tryz.func81 (by kernel_rfl) (by kernel_rfl)
theorem ok_spec_EventOk (a0 : GEvent) (r : Bool) (h : S_spec_EventOk a0 = some r) : (mach cfg).call 81 [] [.val true [.int .i64 a0.Kind, .seq (eL e_u8 a0.Addr), .int .i64 a0.Act, .int .i64 a0.Val.Kind, .int .i64 a0.Val.N, .seq (eL e_u8 a0.Val.S), .seq (eL (e_sl e_u8) a0.Val.K), .seq (eL e_GValue a0.Val.L), .seq (eL (e_sl e_u8) a0.Deps)]] = some (.val false [.bool r], []) := by
  unfold S_spec_EventOk at h
  rcases ite_some h with ⟨c1, h⟩ | ⟨c1, h⟩
  ·obtain rfl := Option.some.inj h
   exact call_wQ [.lT c1] rfl fd_81 (by kernel_rfl)
  ·let p36 : List (Q cfg) := [.lF c1]
   rcases ite_some h with ⟨c2, h⟩ | ⟨c2, h⟩
   ·obtain rfl := Option.some.inj h
    exact call_wQ (p36 ++ [.lT c2]) rfl fd_81 (by kernel_rfl)
   ·let p37 : List (Q cfg) := p36 ++ [.lF c2]
    rcases ite_some h with ⟨c3, h⟩ | ⟨c3, h⟩
    ·rcases ite_some h with ⟨c4, h⟩ | ⟨c4, h⟩
     ·obtain ⟨r5, hr5, h⟩ := bs h
      cases r5 with
      | true =>
       try dsimp only at h
       rcases ite_some h with ⟨c7, h⟩ | ⟨c7, h⟩
       ·obtain rfl := Option.some.inj h
        exact call_wQ (p37 ++ [.eT c3, .le e_u8 a0.Addr, .lT c4, ⟨.eqB true true, .b true, rfl⟩, .nt true, .cl (ok_spec_AddrOk a0.Addr _ hr5), .nt true, .eT c3, .lT c7]) rfl fd_81 (by kernel_rfl)
       ·rcases ite_some h with ⟨c8, h⟩ | ⟨c8, h⟩
        ·obtain rfl := Option.some.inj h
         exact call_wQ (p37 ++ [.eT c3, .le e_u8 a0.Addr, .lT c4, ⟨.eqB true true, .b true, rfl⟩, .nt true, .cl (ok_spec_AddrOk a0.Addr _ hr5), .nt true, .eT c3, .lF c7, .lT c8]) rfl fd_81 (by kernel_rfl)
        ·obtain ⟨r9, hr9, h⟩ := bs h
         let p38 : List (Q cfg) := p37 ++ [.eT c3, .le e_u8 a0.Addr, .lT c4, ⟨.eqB true true, .b true, rfl⟩, .nt true, .cl (ok_spec_AddrOk a0.Addr _ hr5), .nt true, .eT c3, .lF c7, .lF c8, .eFo a0.Kind 2 (by omega), .cl (ok_spec_ValOk a0.Val _ hr9)]
         cases r9 with
         | true =>
          try dsimp only at h
          obtain ⟨r11, hr11, h⟩ := bs h
          cases r11 with
          | true =>
           try dsimp only at h
           obtain rfl := Option.some.inj h
           exact call_wQ (p38 ++ [.cl (ok_spec_l4zero a0.Val _ hr11), .le (e_sl e_u8) a0.Deps, .eD ((a0.Deps.length : Nat) : Int) 0]) rfl fd_81 (by kernel_rfl)
          | false =>
           try dsimp only at h
           obtain rfl := Option.some.inj h
           exact call_wQ (p38 ++ [.cl (ok_spec_l4zero a0.Val _ hr11)]) rfl fd_81 (by kernel_rfl)
         | false =>
          try dsimp only at h
          obtain rfl := Option.some.inj h
          exact call_wQ p38 rfl fd_81 (by kernel_rfl)
      | false =>
       try dsimp only at h
       obtain rfl := Option.some.inj h
       exact call_wQ (p37 ++ [.eT c3, .le e_u8 a0.Addr, .lT c4, ⟨.eqB true true, .b true, rfl⟩, .nt true, .cl (ok_spec_AddrOk a0.Addr _ hr5), .nt false]) rfl fd_81 (by kernel_rfl)
     ·obtain rfl := Option.some.inj h
      exact call_wQ (p37 ++ [.eT c3, .le e_u8 a0.Addr, .lF c4, ⟨.eqB true false, .b false, rfl⟩, .nt false]) rfl fd_81 (by kernel_rfl)
    ·let p39 : List (Q cfg) := p37 ++ [.eF c3]
     rcases ite_some h with ⟨c4, h⟩ | ⟨c4, h⟩
     ·rcases ite_some h with ⟨c5, h⟩ | ⟨c5, h⟩
      ·obtain ⟨r6, hr6, h⟩ := bs h
       cases r6 with
       | true =>
        try dsimp only at h
        rcases ite_some h with ⟨c8, h⟩ | ⟨c8, h⟩
        ·obtain ⟨r9, hr9, h⟩ := bs h
         let p40 : List (Q cfg) := p39 ++ [.eT c4, .le e_u8 a0.Addr, .lT c5, ⟨.eqB true true, .b true, rfl⟩, .nt true, .cl (ok_spec_AddrOk a0.Addr _ hr6), .nt true, .eF c3, .eT c8, .nt true, .eT c4, .cl (ok_spec_l4map a0.Val _ hr9)]
         cases r9 with
         | true =>
          try dsimp only at h
          obtain ⟨r11, hr11, h⟩ := bs h
          obtain rfl := Option.some.inj h
          exact call_wQ (p40 ++ [.cl (ok_spec_l4addrs a0.Deps _ hr11)]) rfl fd_81 (by kernel_rfl)
         | false =>
          try dsimp only at h
          obtain rfl := Option.some.inj h
          exact call_wQ p40 rfl fd_81 (by kernel_rfl)
        ·obtain rfl := Option.some.inj h
         exact call_wQ (p39 ++ [.eT c4, .le e_u8 a0.Addr, .lT c5, ⟨.eqB true true, .b true, rfl⟩, .nt true, .cl (ok_spec_AddrOk a0.Addr _ hr6), .nt true, .eF c3, .eF c8, .nt false]) rfl fd_81 (by kernel_rfl)
       | false =>
        try dsimp only at h
        obtain rfl := Option.some.inj h
        exact call_wQ (p39 ++ [.eT c4, .le e_u8 a0.Addr, .lT c5, ⟨.eqB true true, .b true, rfl⟩, .nt true, .cl (ok_spec_AddrOk a0.Addr _ hr6), .nt false]) rfl fd_81 (by kernel_rfl)
      ·obtain rfl := Option.some.inj h
       exact call_wQ (p39 ++ [.eT c4, .le e_u8 a0.Addr, .lF c5, ⟨.eqB true false, .b false, rfl⟩, .nt false]) rfl fd_81 (by kernel_rfl)
     ·let p41 : List (Q cfg) := p39 ++ [.eF c4]
      rcases ite_some h with ⟨c5, h⟩ | ⟨c5, h⟩
      ·rcases ite_some h with ⟨c6, h⟩ | ⟨c6, h⟩
       ·obtain ⟨r7, hr7, h⟩ := bs h
        cases r7 with
        | true =>
         try dsimp only at h
         rcases ite_some h with ⟨c9, h⟩ | ⟨c9, h⟩
         ·obtain ⟨r10, hr10, h⟩ := bs h
          let p42 : List (Q cfg) := p41 ++ [.eT c5, .le e_u8 a0.Addr, .lT c6, ⟨.eqB true true, .b true, rfl⟩, .nt true, .cl (ok_spec_AddrOk a0.Addr _ hr7), .nt true, .eF c3, .eT c9, .nt true, .eF c4, .cl (ok_spec_ValOk a0.Val _ hr10)]
          cases r10 with
          | true =>
           try dsimp only at h
           obtain ⟨r12, hr12, h⟩ := bs h
           cases r12 with
           | true =>
            try dsimp only at h
            obtain rfl := Option.some.inj h
            exact call_wQ (p42 ++ [.cl (ok_spec_l4zero a0.Val _ hr12), .le (e_sl e_u8) a0.Deps, .eD ((a0.Deps.length : Nat) : Int) 0]) rfl fd_81 (by kernel_rfl)
           | false =>
            try dsimp only at h
            obtain rfl := Option.some.inj h
            exact call_wQ (p42 ++ [.cl (ok_spec_l4zero a0.Val _ hr12)]) rfl fd_81 (by kernel_rfl)
          | false =>
           try dsimp only at h
           obtain rfl := Option.some.inj h
           exact call_wQ p42 rfl fd_81 (by kernel_rfl)
         ·obtain rfl := Option.some.inj h
          exact call_wQ (p41 ++ [.eT c5, .le e_u8 a0.Addr, .lT c6, ⟨.eqB true true, .b true, rfl⟩, .nt true, .cl (ok_spec_AddrOk a0.Addr _ hr7), .nt true, .eF c3, .eF c9, .nt false]) rfl fd_81 (by kernel_rfl)
        | false =>
         try dsimp only at h
         obtain rfl := Option.some.inj h
         exact call_wQ (p41 ++ [.eT c5, .le e_u8 a0.Addr, .lT c6, ⟨.eqB true true, .b true, rfl⟩, .nt true, .cl (ok_spec_AddrOk a0.Addr _ hr7), .nt false]) rfl fd_81 (by kernel_rfl)
       ·obtain rfl := Option.some.inj h
        exact call_wQ (p41 ++ [.eT c5, .le e_u8 a0.Addr, .lF c6, ⟨.eqB true false, .b false, rfl⟩, .nt false]) rfl fd_81 (by kernel_rfl)
      ·let p43 : List (Q cfg) := p41 ++ [.eF c5]
       rcases ite_some h with ⟨c6, h⟩ | ⟨c6, h⟩
       ·rcases ite_some h with ⟨c7, h⟩ | ⟨c7, h⟩
        ·obtain ⟨r8, hr8, h⟩ := bs h
         cases r8 with
         | true =>
          try dsimp only at h
          rcases ite_some h with ⟨c10, h⟩ | ⟨c10, h⟩
          ·obtain ⟨r11, hr11, h⟩ := bs h
           let p44 : List (Q cfg) := p43 ++ [.eT c6, .le e_u8 a0.Addr, .lT c7, ⟨.eqB true true, .b true, rfl⟩, .nt true, .cl (ok_spec_AddrOk a0.Addr _ hr8), .nt true, .eF c3, .eT c10, .nt true, .eF c4, .cl (ok_spec_ValOk a0.Val _ hr11)]
           cases r11 with
           | true =>
            try dsimp only at h
            obtain ⟨r13, hr13, h⟩ := bs h
            cases r13 with
            | true =>
             try dsimp only at h
             obtain rfl := Option.some.inj h
             exact call_wQ (p44 ++ [.cl (ok_spec_l4zero a0.Val _ hr13), .le (e_sl e_u8) a0.Deps, .eD ((a0.Deps.length : Nat) : Int) 0]) rfl fd_81 (by kernel_rfl)
            | false =>
             try dsimp only at h
             obtain rfl := Option.some.inj h
             exact call_wQ (p44 ++ [.cl (ok_spec_l4zero a0.Val _ hr13)]) rfl fd_81 (by kernel_rfl)
           | false =>
            try dsimp only at h
            obtain rfl := Option.some.inj h
            exact call_wQ p44 rfl fd_81 (by kernel_rfl)
          ·obtain rfl := Option.some.inj h
           exact call_wQ (p43 ++ [.eT c6, .le e_u8 a0.Addr, .lT c7, ⟨.eqB true true, .b true, rfl⟩, .nt true, .cl (ok_spec_AddrOk a0.Addr _ hr8), .nt true, .eF c3, .eF c10, .nt false]) rfl fd_81 (by kernel_rfl)
         | false =>
          try dsimp only at h
          obtain rfl := Option.some.inj h
          exact call_wQ (p43 ++ [.eT c6, .le e_u8 a0.Addr, .lT c7, ⟨.eqB true true, .b true, rfl⟩, .nt true, .cl (ok_spec_AddrOk a0.Addr _ hr8), .nt false]) rfl fd_81 (by kernel_rfl)
        ·obtain rfl := Option.some.inj h
         exact call_wQ (p43 ++ [.eT c6, .le e_u8 a0.Addr, .lF c7, ⟨.eqB true false, .b false, rfl⟩, .nt false]) rfl fd_81 (by kernel_rfl)
       ·rcases ite_some h with ⟨c7, h⟩ | ⟨c7, h⟩
        ·obtain rfl := Option.some.inj h
         exact call_wQ (p43 ++ [.eF c6, .le e_u8 a0.Addr, .lT c7, ⟨.eqB false true, .b false, rfl⟩, .nt false]) rfl fd_81 (by kernel_rfl)
        ·rcases ite_some h with ⟨c8, h⟩ | ⟨c8, h⟩
         ·obtain ⟨r9, hr9, h⟩ := bs h
          let p45 : List (Q cfg) := p43 ++ [.eF c6, .le e_u8 a0.Addr, .lF c7, ⟨.eqB false false, .b true, rfl⟩, .nt true, .eF c3, .eT c8, .nt true, .eF c4, .cl (ok_spec_ValOk a0.Val _ hr9)]
          cases r9 with
          | true =>
           try dsimp only at h
           obtain ⟨r11, hr11, h⟩ := bs h
           cases r11 with
           | true =>
            try dsimp only at h
            obtain rfl := Option.some.inj h
            exact call_wQ (p45 ++ [.cl (ok_spec_l4zero a0.Val _ hr11), .le (e_sl e_u8) a0.Deps, .eD ((a0.Deps.length : Nat) : Int) 0]) rfl fd_81 (by kernel_rfl)
           | false =>
            try dsimp only at h
            obtain rfl := Option.some.inj h
            exact call_wQ (p45 ++ [.cl (ok_spec_l4zero a0.Val _ hr11)]) rfl fd_81 (by kernel_rfl)
          | false =>
           try dsimp only at h
           obtain rfl := Option.some.inj h
           exact call_wQ p45 rfl fd_81 (by kernel_rfl)
         ·obtain rfl := Option.some.inj h
          exact call_wQ (p43 ++ [.eF c6, .le e_u8 a0.Addr, .lF c7, ⟨.eqB false false, .b true, rfl⟩, .nt true, .eF c3, .eF c8, .nt false]) rfl fd_81 (by kernel_rfl)
def L_spec_PutNum_l0a : Nat → Int → (List UInt8) → Option (Int × (List UInt8))
  | 0, _, _ => none
  | m + 1, v0, v1 =>
    if 127 < v0 then
      if roomP 1 (v1.length + [(b8 (w64 ((v0.tmod 128) + 128)))].length) then
      L_spec_PutNum_l0a m (w64 (v0.tdiv 128)) (v1 ++ [(b8 (w64 ((v0.tmod 128) + 128)))])
      else none
    else
      some (v0, v1)
theorem gl_spec_PutNum_l0a (m : Nat) : ∀ (v0 : Int) (v1 : (List UInt8)) (o : (Int × (List UInt8))), L_spec_PutNum_l0a m v0 v1 = some o → (mach cfg).loop 125 (loopB Tryz.f125 0) ⟨[(1, .val false [.int .i64 v0]), (5, .val false [.ref 0])], [.obj 1 (eL e_u8 v1)], 0⟩ = some (match o with | ⟨o_0, o_1⟩ => (.exit 0, (⟨[(1, .val false [.int .i64 o_0]), (5, .val false [.ref 0])], [.obj 1 (eL e_u8 o_1)], 0⟩ : S))) := by
  induction m with
  | zero => intro v0 v1 o h; cases h
  | succ m ih =>
    intro v0 v1 o h
    rw [L_spec_PutNum_l0a] at h
    rcases ite_some h with ⟨c1, h⟩ | ⟨c1, h⟩
    ·obtain ⟨n2, h⟩ := need_some h
     exact loop_nQ [.lT c1, ⟨.nz 128, .b true, rfl⟩, ⟨.rem v0 128, .i (v0.tmod 128), rfl⟩, .ad (v0.tmod 128) 128, ⟨.conv .u8 (w64 ((v0.tmod 128) + 128)), .i (((b8 (w64 ((v0.tmod 128) + 128))).toNat : Nat) : Int), A.conv8⟩, ⟨.pl (eL e_u8 [(b8 (w64 ((v0.tmod 128) + 128)))]), .b true, (A.pl E_u8)⟩, ⟨.room 1 (eL e_u8 v1) (eL e_u8 [(b8 (w64 ((v0.tmod 128) + 128)))]), .b true, (A.room n2)⟩, ⟨.uni 1 (eL e_u8 [(b8 (w64 ((v0.tmod 128) + 128)))]), .b true, (A.uni E_u8)⟩, ⟨.app (eL e_u8 v1) (eL e_u8 [(b8 (w64 ((v0.tmod 128) + 128)))]), .l (eL e_u8 (v1 ++ [(b8 (w64 ((v0.tmod 128) + 128)))])), A.app⟩, ⟨.nz 128, .b true, rfl⟩, ⟨.quo .i64 v0 128, .i (w64 (v0.tdiv 128)), rfl⟩] (by kernel_rfl) (ih (w64 (v0.tdiv 128)) (v1 ++ [(b8 (w64 ((v0.tmod 128) + 128)))]) o h)
    ·obtain rfl := Option.some.inj h
     exact loop_eQ [.lF c1] (by kernel_rfl) (by intro h; cases h)
def L_spec_PutNum_l0 (n : Nat) (a1 : Int) (v1 : Bool) (a0 : (List UInt8)) : Nat → Option (Int × (List UInt8))
  | 0 => none
  | m + 1 =>
    if 127 < a1 then
      if roomP 1 (a0.length + [(b8 (w64 ((a1.tmod 128) + 128)))].length) then
      (L_spec_PutNum_l0a n (w64 (a1.tdiv 128)) (a0 ++ [(b8 (w64 ((a1.tmod 128) + 128)))])).bind fun ⟨o3_0, o3_1⟩ =>
      some (o3_0, o3_1)
      else none
    else
      some (a1, a0)
theorem gl_spec_PutNum_l0 (n : Nat) (a1 : Int) (v1 : Bool) (a0 : (List UInt8)) (m : Nat) : ∀ (o : (Int × (List UInt8))), L_spec_PutNum_l0 n a1 v1 a0 m = some o → (mach cfg).loop 125 (loopB Tryz.f125 0) ⟨[(1, .val false [.int .i64 a1]), (5, .val false [.ref 0]), (14, .val false [.bool v1])], [.obj 1 (eL e_u8 a0)], 0⟩ = some (match o with | ⟨o_0, o_1⟩ => (.exit 0, (⟨[(1, .val false [.int .i64 o_0]), (5, .val false [.ref 0])], [.obj 1 (eL e_u8 o_1)], 0⟩ : S))) := by
  induction m with
  | zero => intro  o h; cases h
  | succ m ih =>
    intro  o h
    rw [L_spec_PutNum_l0] at h
    rcases ite_some h with ⟨c1, h⟩ | ⟨c1, h⟩
    ·obtain ⟨n2, h⟩ := need_some h
     obtain ⟨⟨o3_0, o3_1⟩, ho3, h⟩ := bs h
     try dsimp only at h
     obtain rfl := Option.some.inj h
     exact loop_nQ [.lT c1, ⟨.nz 128, .b true, rfl⟩, ⟨.rem a1 128, .i (a1.tmod 128), rfl⟩, .ad (a1.tmod 128) 128, ⟨.conv .u8 (w64 ((a1.tmod 128) + 128)), .i (((b8 (w64 ((a1.tmod 128) + 128))).toNat : Nat) : Int), A.conv8⟩, ⟨.pl (eL e_u8 [(b8 (w64 ((a1.tmod 128) + 128)))]), .b true, (A.pl E_u8)⟩, ⟨.room 1 (eL e_u8 a0) (eL e_u8 [(b8 (w64 ((a1.tmod 128) + 128)))]), .b true, (A.room n2)⟩, ⟨.uni 1 (eL e_u8 [(b8 (w64 ((a1.tmod 128) + 128)))]), .b true, (A.uni E_u8)⟩, ⟨.app (eL e_u8 a0) (eL e_u8 [(b8 (w64 ((a1.tmod 128) + 128)))]), .l (eL e_u8 (a0 ++ [(b8 (w64 ((a1.tmod 128) + 128)))])), A.app⟩, ⟨.nz 128, .b true, rfl⟩, ⟨.quo .i64 a1 128, .i (w64 (a1.tdiv 128)), rfl⟩] (by kernel_rfl) (gl_spec_PutNum_l0a _ (w64 (a1.tdiv 128)) (a0 ++ [(b8 (w64 ((a1.tmod 128) + 128)))]) _ ho3)
    ·obtain rfl := Option.some.inj h
     exact loop_eQ [.lF c1] (by kernel_rfl) (by intro h; cases h)
def T_spec_PutNum (n : Nat) (a0 : (List UInt8)) (a1 : Int) : Option (List UInt8) :=
  if roomP 1 (0 + a0.length) then
  if a1 < 0 then
    some a0
  else
    if 2147483647 < a1 then
      some a0
    else
      (L_spec_PutNum_l0 n a1 false a0 n).bind fun ⟨o4_0, o4_1⟩ =>
      if roomP 1 (o4_1.length + [(b8 o4_0)].length) then
      some (o4_1 ++ [(b8 o4_0)])
      else none
  else none
set_option maxRecDepth 100000 in
theorem fd_125 : cfg.funcs 125 = some (bodyOf Tryz.f125, Tryz.f125.ntmps, Tryz.f125.results.toList) := fn_of Tryz.func125 (by kernel_rfl) (by kernel_rfl)
theorem g_spec_PutNum (n : Nat) (a0 : (List UInt8)) (a1 : Int) (r : (List UInt8)) (h : T_spec_PutNum n a0 a1 = some r) : (mach cfg).call 125 [] [.val false [.seq (eL e_u8 a0)], .val false [.int .i64 a1]] = some (.val false [.own 1 (eL e_u8 r)], []) := by
  unfold T_spec_PutNum at h
  obtain ⟨n1, h⟩ := need_some h
  let p46 : List (Q cfg) := [⟨.room 1 (eL e_u8 []) (eL e_u8 a0), .b true, (A.room n1)⟩, ⟨.uni 1 (eL e_u8 a0), .b true, (A.uni E_u8)⟩, ⟨.app (eL e_u8 []) (eL e_u8 a0), .l (eL e_u8 a0), A.app0⟩]
  rcases ite_some h with ⟨c2, h⟩ | ⟨c2, h⟩
  ·obtain rfl := Option.some.inj h
   exact call_wQ (p46 ++ [.lT c2]) rfl fd_125 (by kernel_rfl)
  ·rcases ite_some h with ⟨c3, h⟩ | ⟨c3, h⟩
   ·obtain rfl := Option.some.inj h
    exact call_wQ (p46 ++ [.lF c2, .lT c3]) rfl fd_125 (by kernel_rfl)
   ·obtain ⟨⟨o4_0, o4_1⟩, ho4, h⟩ := bs h
    try dsimp only at h
    obtain ⟨n5, h⟩ := need_some h
    obtain rfl := Option.some.inj h
    exact call_wQ (p46 ++ [.lF c2, .lF c3, .lp (gl_spec_PutNum_l0 n a1 false a0 _ _ ho4), ⟨.conv .u8 o4_0, .i (((b8 o4_0).toNat : Nat) : Int), A.conv8⟩, ⟨.pl (eL e_u8 [(b8 o4_0)]), .b true, (A.pl E_u8)⟩, ⟨.room 1 (eL e_u8 o4_1) (eL e_u8 [(b8 o4_0)]), .b true, (A.room n5)⟩, ⟨.uni 1 (eL e_u8 [(b8 o4_0)]), .b true, (A.uni E_u8)⟩, ⟨.app (eL e_u8 o4_1) (eL e_u8 [(b8 o4_0)]), .l (eL e_u8 (o4_1 ++ [(b8 o4_0)])), A.app⟩]) rfl fd_125 (by kernel_rfl)
def S_spec_PutNum (a0 : (List UInt8)) (a1 : Int) : Option (List UInt8) := T_spec_PutNum 10 a0 a1
theorem spec_spec_PutNum (a0 : (List UInt8)) (a1 : Int) (r : (List UInt8)) (h : S_spec_PutNum a0 a1 = some r) : ∃ n, T_spec_PutNum n a0 a1 = some r := ⟨_, h⟩
theorem ok_spec_PutNum (a0 : (List UInt8)) (a1 : Int) (r : (List UInt8)) (h : S_spec_PutNum a0 a1 = some r) : (mach cfg).call 125 [] [.val false [.seq (eL e_u8 a0)], .val false [.int .i64 a1]] = some (.val false [.own 1 (eL e_u8 r)], []) := by
  obtain ⟨n, hn⟩ := spec_spec_PutNum a0 a1 r h
  exact g_spec_PutNum n a0 a1 r hn
def S_spec_PutText (a0 : (List UInt8)) (a1 : (List UInt8)) : Option (List UInt8) :=
  if 20 < ((a1.length : Nat) : Int) then
    if roomP 1 (0 + a0.length) then
    some a0
    else none
  else
    (S_spec_PutNum a0 ((a1.length : Nat) : Int)).bind fun r2 =>
    if roomP 1 (r2.length + a1.length) then
    some (r2 ++ a1)
    else none
set_option maxRecDepth 100000 in
theorem fd_126 : cfg.funcs 126 = some (bodyOf Tryz.f126, Tryz.f126.ntmps, Tryz.f126.results.toList) := fn_of Tryz.func126 (by kernel_rfl) (by kernel_rfl)
theorem ok_spec_PutText (a0 : (List UInt8)) (a1 : (List UInt8)) (r : (List UInt8)) (h : S_spec_PutText a0 a1 = some r) : (mach cfg).call 126 [] [.val false [.seq (eL e_u8 a0)], .val false [.seq (eL e_u8 a1)]] = some (.val false [.own 1 (eL e_u8 r)], []) := by
  unfold S_spec_PutText at h
  rcases ite_some h with ⟨c1, h⟩ | ⟨c1, h⟩
  ·obtain ⟨n2, h⟩ := need_some h
   obtain rfl := Option.some.inj h
   exact call_wQ [.le e_u8 a1, .lT c1, ⟨.room 1 (eL e_u8 []) (eL e_u8 a0), .b true, (A.room n2)⟩, ⟨.uni 1 (eL e_u8 a0), .b true, (A.uni E_u8)⟩, ⟨.app (eL e_u8 []) (eL e_u8 a0), .l (eL e_u8 a0), A.app0⟩] rfl fd_126 (by kernel_rfl)
  ·obtain ⟨r2, hr2, h⟩ := bs h
   obtain ⟨n3, h⟩ := need_some h
   obtain rfl := Option.some.inj h
   exact call_wQ [.le e_u8 a1, .lF c1, .le e_u8 a1, .cl (ok_spec_PutNum a0 ((a1.length : Nat) : Int) _ hr2), ⟨.room 1 (eL e_u8 r2) (eL e_u8 a1), .b true, (A.room n3)⟩, ⟨.uni 1 (eL e_u8 a1), .b true, (A.uni E_u8)⟩, ⟨.app (eL e_u8 r2) (eL e_u8 a1), .l (eL e_u8 (r2 ++ a1)), A.app⟩] rfl fd_126 (by kernel_rfl)
def L_spec_l2put_l0 (G_spec_l2put : (List UInt8) → GValue → Option (List UInt8)) (a1 : GValue) : Nat → Int → (List UInt8) → Option (Int × (List UInt8))
  | 0, _, _ => none
  | m + 1, v0, v1 =>
    if v0 < ((a1.L.length : Nat) : Int) then
      if a1.Kind = 5 then
        (natO v0).bind fun i3 =>
        (a1.K[i3]?).bind fun x4 =>
        (S_spec_PutText v1 x4).bind fun r5 =>
        (a1.L[i3]?).bind fun x6 =>
        (G_spec_l2put r5 x6).bind fun r7 =>
        L_spec_l2put_l0 G_spec_l2put a1 m (w64 (v0 + 1)) r7
      else
        (natO v0).bind fun i3 =>
        (a1.L[i3]?).bind fun x4 =>
        (G_spec_l2put v1 x4).bind fun r5 =>
        L_spec_l2put_l0 G_spec_l2put a1 m (w64 (v0 + 1)) r5
    else
      some (v0, v1)
theorem gl_spec_l2put_l0 (G_spec_l2put : (List UInt8) → GValue → Option (List UInt8)) (H_spec_l2put : ∀ (a0 : (List UInt8)) (a1 : GValue) (r : (List UInt8)), G_spec_l2put a0 a1 = some r → (mach cfg).call 127 [] [.val false [.seq (eL e_u8 a0)], .val true [.int .i64 a1.Kind, .int .i64 a1.N, .seq (eL e_u8 a1.S), .seq (eL (e_sl e_u8) a1.K), .seq (eL e_GValue a1.L)]] = some (.val false [.own 1 (eL e_u8 r)], [])) (a1 : GValue) (m : Nat) : ∀ (v0 : Int) (v1 : (List UInt8)) (o : (Int × (List UInt8))), L_spec_l2put_l0 G_spec_l2put a1 m v0 v1 = some o → (mach cfg).loop 127 (loopB Tryz.f127 0) ⟨[(0, .val false [.ref 0]), (3, .val false [.ptr 1 0]), (7, .val false [.int .i64 v0])], [.obj 1 (eL e_u8 v1), .var [.int .i64 a1.Kind, .int .i64 a1.N, .seq (eL e_u8 a1.S), .seq (eL (e_sl e_u8) a1.K), .seq (eL e_GValue a1.L)]], 0⟩ = some (match o with | ⟨o_0, o_1⟩ => (.exit 1, (⟨[(0, .val false [.ref 0]), (3, .val false [.ptr 1 0]), (7, .val false [.int .i64 o_0]), (55, .val false [.bool false])], [.obj 1 (eL e_u8 o_1), .var [.int .i64 a1.Kind, .int .i64 a1.N, .seq (eL e_u8 a1.S), .seq (eL (e_sl e_u8) a1.K), .seq (eL e_GValue a1.L)]], 0⟩ : S))) := by
  induction m with
  | zero => intro v0 v1 o h; cases h
  | succ m ih =>
    intro v0 v1 o h
    rw [L_spec_l2put_l0] at h
    rcases ite_some h with ⟨c1, h⟩ | ⟨c1, h⟩
    ·rcases ite_some h with ⟨c2, h⟩ | ⟨c2, h⟩
     ·obtain ⟨i3, hi3, h⟩ := bs h
      obtain ⟨x4, hx4, h⟩ := bs h
      obtain ⟨r5, hr5, h⟩ := bs h
      obtain ⟨x6, hx6, h⟩ := bs h
      obtain ⟨r7, hr7, h⟩ := bs h
      exact loop_nQ [.le e_GValue a1.L, .lT c1, .eT c2, .na hi3, .ix0 (e_sl e_u8) hx4, ⟨.view (eL e_u8 v1), .l (eL e_u8 v1), (A.view E_u8)⟩, .cl (ok_spec_PutText v1 x4 _ hr5), ⟨.cln (eL e_u8 r5), .b true, (A.cln O_u8)⟩, .na hi3, .ix hx6 (eq_GValue x6), ⟨.view (eL e_u8 r5), .l (eL e_u8 r5), (A.view E_u8)⟩, .cl (H_spec_l2put r5 x6 _ hr7), ⟨.cln (eL e_u8 r7), .b true, (A.cln O_u8)⟩, .ad v0 1] (by kernel_rfl) (ih (w64 (v0 + 1)) r7 o h)
     ·obtain ⟨i3, hi3, h⟩ := bs h
      obtain ⟨x4, hx4, h⟩ := bs h
      obtain ⟨r5, hr5, h⟩ := bs h
      exact loop_nQ [.le e_GValue a1.L, .lT c1, .eF c2, .na hi3, .ix hx4 (eq_GValue x4), ⟨.view (eL e_u8 v1), .l (eL e_u8 v1), (A.view E_u8)⟩, .cl (H_spec_l2put v1 x4 _ hr5), ⟨.cln (eL e_u8 r5), .b true, (A.cln O_u8)⟩, .ad v0 1] (by kernel_rfl) (ih (w64 (v0 + 1)) r5 o h)
    ·obtain rfl := Option.some.inj h
     exact loop_eQ [.le e_GValue a1.L, .lF c1] (by kernel_rfl) (by intro h; cases h)
def T_spec_l2put (G_spec_l2put : (List UInt8) → GValue → Option (List UInt8)) (n : Nat) (a0 : (List UInt8)) (a1 : GValue) : Option (List UInt8) :=
  (S_spec_PutNum a0 a1.Kind).bind fun r1 =>
  if a1.Kind = 1 then
    (S_spec_PutNum r1 a1.N).bind fun r3 =>
    some r3
  else
    if a1.Kind = 2 then
      if a1.N < 0 then
        (S_spec_PutNum r1 1).bind fun r5 =>
        (S_spec_PutNum r5 (w64 ((w64 (0 - a1.N)).tdiv 1000000))).bind fun r6 =>
        (S_spec_PutNum r6 ((w64 (0 - a1.N)).tmod 1000000)).bind fun r7 =>
        some r7
      else
        (S_spec_PutNum r1 0).bind fun r5 =>
        (S_spec_PutNum r5 (w64 (a1.N.tdiv 1000000))).bind fun r6 =>
        (S_spec_PutNum r6 (a1.N.tmod 1000000)).bind fun r7 =>
        some r7
    else
      if a1.Kind = 3 then
        (S_spec_PutText r1 a1.S).bind fun r5 =>
        some r5
      else
        if a1.Kind = 4 then
          (S_spec_PutNum r1 ((a1.L.length : Nat) : Int)).bind fun r6 =>
          (L_spec_l2put_l0 G_spec_l2put a1 n 0 r6).bind fun ⟨o7_0, o7_1⟩ =>
          some o7_1
        else
          if a1.Kind = 5 then
            (S_spec_PutNum r1 ((a1.L.length : Nat) : Int)).bind fun r7 =>
            (L_spec_l2put_l0 G_spec_l2put a1 n 0 r7).bind fun ⟨o8_0, o8_1⟩ =>
            some o8_1
          else
            some r1
set_option maxRecDepth 100000 in
theorem fd_127 : cfg.funcs 127 = some (bodyOf Tryz.f127, Tryz.f127.ntmps, Tryz.f127.results.toList) := fn_of Tryz.func127 (by kernel_rfl) (by kernel_rfl)
theorem g_spec_l2put (G_spec_l2put : (List UInt8) → GValue → Option (List UInt8)) (H_spec_l2put : ∀ (a0 : (List UInt8)) (a1 : GValue) (r : (List UInt8)), G_spec_l2put a0 a1 = some r → (mach cfg).call 127 [] [.val false [.seq (eL e_u8 a0)], .val true [.int .i64 a1.Kind, .int .i64 a1.N, .seq (eL e_u8 a1.S), .seq (eL (e_sl e_u8) a1.K), .seq (eL e_GValue a1.L)]] = some (.val false [.own 1 (eL e_u8 r)], [])) (n : Nat) (a0 : (List UInt8)) (a1 : GValue) (r : (List UInt8)) (h : T_spec_l2put G_spec_l2put n a0 a1 = some r) : (mach cfg).call 127 [] [.val false [.seq (eL e_u8 a0)], .val true [.int .i64 a1.Kind, .int .i64 a1.N, .seq (eL e_u8 a1.S), .seq (eL (e_sl e_u8) a1.K), .seq (eL e_GValue a1.L)]] = some (.val false [.own 1 (eL e_u8 r)], []) := by
  unfold T_spec_l2put at h
  obtain ⟨r1, hr1, h⟩ := bs h
  rcases ite_some h with ⟨c2, h⟩ | ⟨c2, h⟩
  ·obtain ⟨r3, hr3, h⟩ := bs h
   obtain rfl := Option.some.inj h
   exact call_wQ [.cl (ok_spec_PutNum a0 a1.Kind _ hr1), .eT c2, ⟨.view (eL e_u8 r1), .l (eL e_u8 r1), (A.view E_u8)⟩, .cl (ok_spec_PutNum r1 a1.N _ hr3), ⟨.cln (eL e_u8 r3), .b true, (A.cln O_u8)⟩] rfl fd_127 (by kernel_rfl)
  ·rcases ite_some h with ⟨c3, h⟩ | ⟨c3, h⟩
   ·rcases ite_some h with ⟨c4, h⟩ | ⟨c4, h⟩
    ·obtain ⟨r5, hr5, h⟩ := bs h
     obtain ⟨r6, hr6, h⟩ := bs h
     obtain ⟨r7, hr7, h⟩ := bs h
     obtain rfl := Option.some.inj h
     exact call_wQ [.cl (ok_spec_PutNum a0 a1.Kind _ hr1), .eF c2, .eT c3, .lT c4, ⟨.neg .i64 a1.N, .i (w64 (0 - a1.N)), rfl⟩, ⟨.view (eL e_u8 r1), .l (eL e_u8 r1), (A.view E_u8)⟩, .cl (ok_spec_PutNum r1 1 _ hr5), ⟨.cln (eL e_u8 r5), .b true, (A.cln O_u8)⟩, ⟨.nz 1000000, .b true, rfl⟩, ⟨.quo .i64 (w64 (0 - a1.N)) 1000000, .i (w64 ((w64 (0 - a1.N)).tdiv 1000000)), rfl⟩, ⟨.view (eL e_u8 r5), .l (eL e_u8 r5), (A.view E_u8)⟩, .cl (ok_spec_PutNum r5 (w64 ((w64 (0 - a1.N)).tdiv 1000000)) _ hr6), ⟨.cln (eL e_u8 r6), .b true, (A.cln O_u8)⟩, ⟨.nz 1000000, .b true, rfl⟩, ⟨.rem (w64 (0 - a1.N)) 1000000, .i ((w64 (0 - a1.N)).tmod 1000000), rfl⟩, ⟨.view (eL e_u8 r6), .l (eL e_u8 r6), (A.view E_u8)⟩, .cl (ok_spec_PutNum r6 ((w64 (0 - a1.N)).tmod 1000000) _ hr7), ⟨.cln (eL e_u8 r7), .b true, (A.cln O_u8)⟩] rfl fd_127 (by kernel_rfl)
    ·obtain ⟨r5, hr5, h⟩ := bs h
     obtain ⟨r6, hr6, h⟩ := bs h
     obtain ⟨r7, hr7, h⟩ := bs h
     obtain rfl := Option.some.inj h
     exact call_wQ [.cl (ok_spec_PutNum a0 a1.Kind _ hr1), .eF c2, .eT c3, .lF c4, ⟨.view (eL e_u8 r1), .l (eL e_u8 r1), (A.view E_u8)⟩, .cl (ok_spec_PutNum r1 0 _ hr5), ⟨.cln (eL e_u8 r5), .b true, (A.cln O_u8)⟩, ⟨.nz 1000000, .b true, rfl⟩, ⟨.quo .i64 a1.N 1000000, .i (w64 (a1.N.tdiv 1000000)), rfl⟩, ⟨.view (eL e_u8 r5), .l (eL e_u8 r5), (A.view E_u8)⟩, .cl (ok_spec_PutNum r5 (w64 (a1.N.tdiv 1000000)) _ hr6), ⟨.cln (eL e_u8 r6), .b true, (A.cln O_u8)⟩, ⟨.nz 1000000, .b true, rfl⟩, ⟨.rem a1.N 1000000, .i (a1.N.tmod 1000000), rfl⟩, ⟨.view (eL e_u8 r6), .l (eL e_u8 r6), (A.view E_u8)⟩, .cl (ok_spec_PutNum r6 (a1.N.tmod 1000000) _ hr7), ⟨.cln (eL e_u8 r7), .b true, (A.cln O_u8)⟩] rfl fd_127 (by kernel_rfl)
   ·rcases ite_some h with ⟨c4, h⟩ | ⟨c4, h⟩
    ·obtain ⟨r5, hr5, h⟩ := bs h
     obtain rfl := Option.some.inj h
     exact call_wQ [.cl (ok_spec_PutNum a0 a1.Kind _ hr1), .eF c2, .eF c3, .eT c4, ⟨.view (eL e_u8 r1), .l (eL e_u8 r1), (A.view E_u8)⟩, .cl (ok_spec_PutText r1 a1.S _ hr5), ⟨.cln (eL e_u8 r5), .b true, (A.cln O_u8)⟩] rfl fd_127 (by kernel_rfl)
    ·rcases ite_some h with ⟨c5, h⟩ | ⟨c5, h⟩
     ·obtain ⟨r6, hr6, h⟩ := bs h
      obtain ⟨⟨o7_0, o7_1⟩, ho7, h⟩ := bs h
      try dsimp only at h
      obtain rfl := Option.some.inj h
      exact call_wQ [.cl (ok_spec_PutNum a0 a1.Kind _ hr1), .eF c2, .eF c3, .eF c4, .eT c5, .le e_GValue a1.L, ⟨.view (eL e_u8 r1), .l (eL e_u8 r1), (A.view E_u8)⟩, .cl (ok_spec_PutNum r1 ((a1.L.length : Nat) : Int) _ hr6), ⟨.cln (eL e_u8 r6), .b true, (A.cln O_u8)⟩, .lp (gl_spec_l2put_l0 G_spec_l2put H_spec_l2put a1 _ 0 r6 _ ho7)] rfl fd_127 (by kernel_rfl)
     ·rcases ite_some h with ⟨c6, h⟩ | ⟨c6, h⟩
      ·obtain ⟨r7, hr7, h⟩ := bs h
       obtain ⟨⟨o8_0, o8_1⟩, ho8, h⟩ := bs h
       try dsimp only at h
       obtain rfl := Option.some.inj h
       exact call_wQ [.cl (ok_spec_PutNum a0 a1.Kind _ hr1), .eF c2, .eF c3, .eF c4, .eF c5, .eT c6, .le e_GValue a1.L, ⟨.view (eL e_u8 r1), .l (eL e_u8 r1), (A.view E_u8)⟩, .cl (ok_spec_PutNum r1 ((a1.L.length : Nat) : Int) _ hr7), ⟨.cln (eL e_u8 r7), .b true, (A.cln O_u8)⟩, .lp (gl_spec_l2put_l0 G_spec_l2put H_spec_l2put a1 _ 0 r7 _ ho8)] rfl fd_127 (by kernel_rfl)
      ·obtain rfl := Option.some.inj h
       exact call_wQ [.cl (ok_spec_PutNum a0 a1.Kind _ hr1), .eF c2, .eF c3, .eF c4, .eF c5, .eF c6] rfl fd_127 (by kernel_rfl)
def U_spec_l2put : Nat → (List UInt8) → GValue → Option (List UInt8)
  | 0, _, _ => none
  | n + 1, a0, a1 => T_spec_l2put (U_spec_l2put n) n a0 a1
theorem rec_spec_l2put (n : Nat) : (∀ (a0 : (List UInt8)) (a1 : GValue) (r : (List UInt8)), U_spec_l2put n a0 a1 = some r → (mach cfg).call 127 [] [.val false [.seq (eL e_u8 a0)], .val true [.int .i64 a1.Kind, .int .i64 a1.N, .seq (eL e_u8 a1.S), .seq (eL (e_sl e_u8) a1.K), .seq (eL e_GValue a1.L)]] = some (.val false [.own 1 (eL e_u8 r)], [])) := by
  induction n with
  | zero => exact fun _ _ _ h => (by rw [U_spec_l2put] at h; cases h)
  | succ n ih =>
    have ih_spec_l2put := ih
    exact fun a0 a1 r h => g_spec_l2put (U_spec_l2put n) ih_spec_l2put n a0 a1 r (by rw [U_spec_l2put] at h; exact h)
def S_spec_l2put (a0 : (List UInt8)) (a1 : GValue) : Option (List UInt8) := U_spec_l2put 100 a0 a1
theorem spec_spec_l2put (a0 : (List UInt8)) (a1 : GValue) (r : (List UInt8)) (h : S_spec_l2put a0 a1 = some r) : ∃ n, U_spec_l2put n a0 a1 = some r := ⟨_, h⟩
theorem ok_spec_l2put (a0 : (List UInt8)) (a1 : GValue) (r : (List UInt8)) (h : S_spec_l2put a0 a1 = some r) : (mach cfg).call 127 [] [.val false [.seq (eL e_u8 a0)], .val true [.int .i64 a1.Kind, .int .i64 a1.N, .seq (eL e_u8 a1.S), .seq (eL (e_sl e_u8) a1.K), .seq (eL e_GValue a1.L)]] = some (.val false [.own 1 (eL e_u8 r)], []) := by
  obtain ⟨n, hn⟩ := spec_spec_l2put a0 a1 r h
  exact (rec_spec_l2put n) a0 a1 r hn
def L_spec_l4bytes_l0 (a0 : GEvent) : Nat → Int → (List UInt8) → Option (Int × (List UInt8))
  | 0, _, _ => none
  | m + 1, v0, v2 =>
    if v0 < ((a0.Deps.length : Nat) : Int) then
      (natO v0).bind fun i2 =>
      (a0.Deps[i2]?).bind fun x3 =>
      (S_spec_PutText v2 x3).bind fun r4 =>
      L_spec_l4bytes_l0 a0 m (w64 (v0 + 1)) r4
    else
      some (v0, v2)
theorem gl_spec_l4bytes_l0 (a0 : GEvent) (m : Nat) : ∀ (v0 : Int) (v2 : (List UInt8)) (o : (Int × (List UInt8))), L_spec_l4bytes_l0 a0 m v0 v2 = some o → (mach cfg).loop 82 (loopB Tryz.f82 0) ⟨[(1, .val false [.ptr 0 0]), (3, .val false [.ref 1]), (4, .val false [.int .i64 v0])], [.var [.int .i64 a0.Kind, .seq (eL e_u8 a0.Addr), .int .i64 a0.Act, .int .i64 a0.Val.Kind, .int .i64 a0.Val.N, .seq (eL e_u8 a0.Val.S), .seq (eL (e_sl e_u8) a0.Val.K), .seq (eL e_GValue a0.Val.L), .seq (eL (e_sl e_u8) a0.Deps)], .obj 1 (eL e_u8 v2)], 0⟩ = some (match o with | ⟨o_0, o_1⟩ => (.exit 2, (⟨[(1, .val false [.ptr 0 0]), (3, .val false [.ref 1]), (4, .val false [.int .i64 o_0]), (38, .val false [.bool false])], [.var [.int .i64 a0.Kind, .seq (eL e_u8 a0.Addr), .int .i64 a0.Act, .int .i64 a0.Val.Kind, .int .i64 a0.Val.N, .seq (eL e_u8 a0.Val.S), .seq (eL (e_sl e_u8) a0.Val.K), .seq (eL e_GValue a0.Val.L), .seq (eL (e_sl e_u8) a0.Deps)], .obj 1 (eL e_u8 o_1)], 0⟩ : S))) := by
  induction m with
  | zero => intro v0 v2 o h; cases h
  | succ m ih =>
    intro v0 v2 o h
    rw [L_spec_l4bytes_l0] at h
    rcases ite_some h with ⟨c1, h⟩ | ⟨c1, h⟩
    ·obtain ⟨i2, hi2, h⟩ := bs h
     obtain ⟨x3, hx3, h⟩ := bs h
     obtain ⟨r4, hr4, h⟩ := bs h
     exact loop_nQ [.le (e_sl e_u8) a0.Deps, .lT c1, .na hi2, .ix0 (e_sl e_u8) hx3, ⟨.view (eL e_u8 v2), .l (eL e_u8 v2), (A.view E_u8)⟩, .cl (ok_spec_PutText v2 x3 _ hr4), ⟨.cln (eL e_u8 r4), .b true, (A.cln O_u8)⟩, .ad v0 1] (by kernel_rfl) (ih (w64 (v0 + 1)) r4 o h)
    ·obtain rfl := Option.some.inj h
     exact loop_eQ [.le (e_sl e_u8) a0.Deps, .lF c1] (by kernel_rfl) (by intro h; cases h)
def T_spec_l4bytes (n : Nat) (a0 : GEvent) : Option (List UInt8) :=
  (S_spec_PutNum [] a0.Kind).bind fun r1 =>
  if a0.Kind = 0 then
    some r1
  else
    if a0.Kind = 5 then
      some r1
    else
      if a0.Kind = 6 then
        some r1
      else
        (S_spec_PutText r1 a0.Addr).bind fun r5 =>
        if a0.Kind = 1 then
          (S_spec_PutNum r5 a0.Act).bind fun r7 =>
          some r7
        else
          if a0.Kind = 2 then
            (S_spec_PutNum r5 ((a0.Deps.length : Nat) : Int)).bind fun r8 =>
            (L_spec_l4bytes_l0 a0 n 0 r8).bind fun ⟨o9_0, o9_1⟩ =>
            (S_spec_l2put o9_1 a0.Val).bind fun r10 =>
            some r10
          else
            some r5
set_option maxRecDepth 100000 in
theorem fd_82 : cfg.funcs 82 = some (bodyOf Tryz.f82, Tryz.f82.ntmps, Tryz.f82.results.toList) := fn_of Tryz.func82 (by kernel_rfl) (by kernel_rfl)
theorem g_spec_l4bytes (n : Nat) (a0 : GEvent) (r : (List UInt8)) (h : T_spec_l4bytes n a0 = some r) : (mach cfg).call 82 [] [.val true [.int .i64 a0.Kind, .seq (eL e_u8 a0.Addr), .int .i64 a0.Act, .int .i64 a0.Val.Kind, .int .i64 a0.Val.N, .seq (eL e_u8 a0.Val.S), .seq (eL (e_sl e_u8) a0.Val.K), .seq (eL e_GValue a0.Val.L), .seq (eL (e_sl e_u8) a0.Deps)]] = some (.val false [.own 1 (eL e_u8 r)], []) := by
  unfold T_spec_l4bytes at h
  obtain ⟨r1, hr1, h⟩ := bs h
  rcases ite_some h with ⟨c2, h⟩ | ⟨c2, h⟩
  ·obtain rfl := Option.some.inj h
   exact call_wQ [.cl (ok_spec_PutNum [] a0.Kind _ hr1), .eT c2] rfl fd_82 (by kernel_rfl)
  ·rcases ite_some h with ⟨c3, h⟩ | ⟨c3, h⟩
   ·obtain rfl := Option.some.inj h
    exact call_wQ [.cl (ok_spec_PutNum [] a0.Kind _ hr1), .eF c2, .eT c3] rfl fd_82 (by kernel_rfl)
   ·rcases ite_some h with ⟨c4, h⟩ | ⟨c4, h⟩
    ·obtain rfl := Option.some.inj h
     exact call_wQ [.cl (ok_spec_PutNum [] a0.Kind _ hr1), .eF c2, .eF c3, .eT c4] rfl fd_82 (by kernel_rfl)
    ·obtain ⟨r5, hr5, h⟩ := bs h
     rcases ite_some h with ⟨c6, h⟩ | ⟨c6, h⟩
     ·obtain ⟨r7, hr7, h⟩ := bs h
      obtain rfl := Option.some.inj h
      exact call_wQ [.cl (ok_spec_PutNum [] a0.Kind _ hr1), .eF c2, .eF c3, .eF c4, ⟨.view (eL e_u8 r1), .l (eL e_u8 r1), (A.view E_u8)⟩, .cl (ok_spec_PutText r1 a0.Addr _ hr5), ⟨.cln (eL e_u8 r5), .b true, (A.cln O_u8)⟩, .eT c6, ⟨.view (eL e_u8 r5), .l (eL e_u8 r5), (A.view E_u8)⟩, .cl (ok_spec_PutNum r5 a0.Act _ hr7), ⟨.cln (eL e_u8 r7), .b true, (A.cln O_u8)⟩] rfl fd_82 (by kernel_rfl)
     ·rcases ite_some h with ⟨c7, h⟩ | ⟨c7, h⟩
      ·obtain ⟨r8, hr8, h⟩ := bs h
       obtain ⟨⟨o9_0, o9_1⟩, ho9, h⟩ := bs h
       try dsimp only at h
       obtain ⟨r10, hr10, h⟩ := bs h
       obtain rfl := Option.some.inj h
       exact call_wQ [.cl (ok_spec_PutNum [] a0.Kind _ hr1), .eF c2, .eF c3, .eF c4, ⟨.view (eL e_u8 r1), .l (eL e_u8 r1), (A.view E_u8)⟩, .cl (ok_spec_PutText r1 a0.Addr _ hr5), ⟨.cln (eL e_u8 r5), .b true, (A.cln O_u8)⟩, .eF c6, .eT c7, .le (e_sl e_u8) a0.Deps, ⟨.view (eL e_u8 r5), .l (eL e_u8 r5), (A.view E_u8)⟩, .cl (ok_spec_PutNum r5 ((a0.Deps.length : Nat) : Int) _ hr8), ⟨.cln (eL e_u8 r8), .b true, (A.cln O_u8)⟩, .lp (gl_spec_l4bytes_l0 a0 _ 0 r8 _ ho9), ⟨.view (eL e_u8 o9_1), .l (eL e_u8 o9_1), (A.view E_u8)⟩, .cl (ok_spec_l2put o9_1 a0.Val _ hr10), ⟨.cln (eL e_u8 r10), .b true, (A.cln O_u8)⟩] rfl fd_82 (by kernel_rfl)
      ·obtain rfl := Option.some.inj h
       exact call_wQ [.cl (ok_spec_PutNum [] a0.Kind _ hr1), .eF c2, .eF c3, .eF c4, ⟨.view (eL e_u8 r1), .l (eL e_u8 r1), (A.view E_u8)⟩, .cl (ok_spec_PutText r1 a0.Addr _ hr5), ⟨.cln (eL e_u8 r5), .b true, (A.cln O_u8)⟩, .eF c6, .eF c7] rfl fd_82 (by kernel_rfl)
def S_spec_l4bytes (a0 : GEvent) : Option (List UInt8) := T_spec_l4bytes 100 a0
theorem spec_spec_l4bytes (a0 : GEvent) (r : (List UInt8)) (h : S_spec_l4bytes a0 = some r) : ∃ n, T_spec_l4bytes n a0 = some r := ⟨_, h⟩
theorem ok_spec_l4bytes (a0 : GEvent) (r : (List UInt8)) (h : S_spec_l4bytes a0 = some r) : (mach cfg).call 82 [] [.val true [.int .i64 a0.Kind, .seq (eL e_u8 a0.Addr), .int .i64 a0.Act, .int .i64 a0.Val.Kind, .int .i64 a0.Val.N, .seq (eL e_u8 a0.Val.S), .seq (eL (e_sl e_u8) a0.Val.K), .seq (eL e_GValue a0.Val.L), .seq (eL (e_sl e_u8) a0.Deps)]] = some (.val false [.own 1 (eL e_u8 r)], []) := by
  obtain ⟨n, hn⟩ := spec_spec_l4bytes a0 r h
  exact g_spec_l4bytes n a0 r hn
def S_spec_EventBytes (a0 : GEvent) : Option ((List UInt8) × Bool) :=
  (S_spec_EventOk a0).bind fun r1 =>
  match r1 with
  | true =>
    (S_spec_l4bytes a0).bind fun r3 =>
    some (r3, true)
  | false =>
    some ([], false)
set_option maxRecDepth 100000 in
theorem fd_35 : cfg.funcs 35 = some (bodyOf Tryz.f35, Tryz.f35.ntmps, Tryz.f35.results.toList) := fn_of Tryz.func35 (by kernel_rfl) (by kernel_rfl)
theorem ok_spec_EventBytes (a0 : GEvent) (r : ((List UInt8) × Bool)) (h : S_spec_EventBytes a0 = some r) : (mach cfg).call 35 [] [.val true [.int .i64 a0.Kind, .seq (eL e_u8 a0.Addr), .int .i64 a0.Act, .int .i64 a0.Val.Kind, .int .i64 a0.Val.N, .seq (eL e_u8 a0.Val.S), .seq (eL (e_sl e_u8) a0.Val.K), .seq (eL e_GValue a0.Val.L), .seq (eL (e_sl e_u8) a0.Deps)]] = some (.tup [(false, [.own 1 (eL e_u8 r.1)]), (false, [.bool r.2])], []) := by
  unfold S_spec_EventBytes at h
  obtain ⟨r1, hr1, h⟩ := bs h
  cases r1 with
  | true =>
   try dsimp only at h
   obtain ⟨r3, hr3, h⟩ := bs h
   obtain rfl := Option.some.inj h
   exact call_wQ [.cl (ok_spec_EventOk a0 _ hr1), .nt true, .cl (ok_spec_l4bytes a0 _ hr3)] rfl fd_35 (by kernel_rfl)
  | false =>
   try dsimp only at h
   obtain rfl := Option.some.inj h
   exact call_wQ [.cl (ok_spec_EventOk a0 _ hr1), .nt false] rfl fd_35 (by kernel_rfl)
def S_bytes_IndexByte (a0 : (List UInt8)) (a1 : UInt8) : Option Int :=
  (S_internal_bytealg_IndexByte a0 a1).bind fun r1 =>
  some r1
set_option maxRecDepth 100000 in
theorem fd_186 : cfg.funcs 186 = some (bodyOf Tryz.f186, Tryz.f186.ntmps, Tryz.f186.results.toList) := fn_of Tryz.func186 (by kernel_rfl) (by kernel_rfl)
theorem ok_bytes_IndexByte (a0 : (List UInt8)) (a1 : UInt8) (r : Int) (h : S_bytes_IndexByte a0 a1 = some r) : (mach cfg).call 186 [] [.val false [.seq (eL e_u8 a0)], .val false [.int .u8 ((a1.toNat : Nat) : Int)]] = some (.val false [.int .i64 r], []) := by
  unfold S_bytes_IndexByte at h
  obtain ⟨r1, hr1, h⟩ := bs h
  obtain rfl := Option.some.inj h
  exact call_wQ [.cl (ok_internal_bytealg_IndexByte a0 a1 _ hr1)] rfl fd_186 (by kernel_rfl)
def S_bytes_Equal (a0 : (List UInt8)) (a1 : (List UInt8)) : Option Bool :=
  some (decide (a0 = a1))
set_option maxRecDepth 100000 in
theorem fd_72 : cfg.funcs 72 = some (bodyOf Tryz.f72, Tryz.f72.ntmps, Tryz.f72.results.toList) := fn_of Tryz.func72 (by kernel_rfl) (by kernel_rfl)
theorem ok_bytes_Equal (a0 : (List UInt8)) (a1 : (List UInt8)) (r : Bool) (h : S_bytes_Equal a0 a1 = some r) : (mach cfg).call 72 [] [.val false [.seq (eL e_u8 a0)], .val false [.seq (eL e_u8 a1)]] = some (.val false [.bool r], []) := by
  unfold S_bytes_Equal at h
  obtain rfl := Option.some.inj h
  exact call_wQ [⟨.bytes (eL e_u8 a0), .s a0, A.bytes⟩, ⟨.bytes (eL e_u8 a1), .s a1, A.bytes⟩, ⟨.eqS a0 a1, .b (decide (a0 = a1)), A.eqS_d⟩] rfl fd_72 (by kernel_rfl)
def S_bytes_Index (a0 : (List UInt8)) (a1 : (List UInt8)) : Option Int :=
  if ((a1.length : Nat) : Int) = 0 then
    some 0
  else
    if ((a1.length : Nat) : Int) = 1 then
      (a1[0]?).bind fun x3 =>
      (S_bytes_IndexByte a0 x3).bind fun r4 =>
      some r4
    else
      if ((a1.length : Nat) : Int) = ((a0.length : Nat) : Int) then
        (S_bytes_Equal a1 a0).bind fun r4 =>
        match r4 with
        | true =>
          some 0
        | false =>
          some (-1)
      else
        if ((a0.length : Nat) : Int) < ((a1.length : Nat) : Int) then
          some (-1)
        else
          none
set_option maxRecDepth 100000 in
theorem fd_171 : cfg.funcs 171 = some (bodyOf Tryz.f171, Tryz.f171.ntmps, Tryz.f171.results.toList) := fn_of Tryz.func171 (by kernel_rfl) (by kernel_rfl)
theorem ok_bytes_Index (a0 : (List UInt8)) (a1 : (List UInt8)) (r : Int) (h : S_bytes_Index a0 a1 = some r) : (mach cfg).call 171 [] [.val false [.seq (eL e_u8 a0)], .val false [.seq (eL e_u8 a1)]] = some (.val false [.int .i64 r], []) := by
  unfold S_bytes_Index at h
  rcases ite_some h with ⟨c1, h⟩ | ⟨c1, h⟩
  ·obtain rfl := Option.some.inj h
   exact call_wQ [.le e_u8 a1, .eT c1] rfl fd_171 (by kernel_rfl)
  ·rcases ite_some h with ⟨c2, h⟩ | ⟨c2, h⟩
   ·obtain ⟨x3, hx3, h⟩ := bs h
    obtain ⟨r4, hr4, h⟩ := bs h
    obtain rfl := Option.some.inj h
    exact call_wQ [.le e_u8 a1, .eF c1, .eT c2, ⟨.nat 0, .n 0, rfl⟩, .ix0 e_u8 hx3, .cl (ok_bytes_IndexByte a0 x3 _ hr4)] rfl fd_171 (by kernel_rfl)
   ·rcases ite_some h with ⟨c3, h⟩ | ⟨c3, h⟩
    ·obtain ⟨r4, hr4, h⟩ := bs h
     let p47 : List (Q cfg) := [.le e_u8 a1, .eF c1, .eF c2, .le e_u8 a0, .eT c3, .cl (ok_bytes_Equal a1 a0 _ hr4)]
     cases r4 with
     | true =>
      try dsimp only at h
      obtain rfl := Option.some.inj h
      exact call_wQ p47 rfl fd_171 (by kernel_rfl)
     | false =>
      try dsimp only at h
      obtain rfl := Option.some.inj h
      exact call_wQ p47 rfl fd_171 (by kernel_rfl)
    ·rcases ite_some h with ⟨c4, h⟩ | ⟨c4, h⟩
     ·obtain rfl := Option.some.inj h
      exact call_wQ [.le e_u8 a1, .eF c1, .eF c2, .le e_u8 a0, .eF c3, .le e_u8 a0, .lT c4] rfl fd_171 (by kernel_rfl)
     ·cases h
def S_bytes_Cut (a0 : (List UInt8)) (a1 : (List UInt8)) : Option ((List UInt8) × (List UInt8) × Bool) :=
  (S_bytes_Index a0 a1).bind fun r1 =>
  if 0 <= r1 then
    (natO r1).bind fun i3 =>
    (cutO a0 none (some i3)).bind fun s4 =>
    (natO (w64 (r1 + ((a1.length : Nat) : Int)))).bind fun i5 =>
    (cutO a0 (some i5) none).bind fun s6 =>
    some (s4, s6, true)
  else
    some (a0, [], false)
set_option maxRecDepth 100000 in
theorem fd_148 : cfg.funcs 148 = some (bodyOf Tryz.f148, Tryz.f148.ntmps, Tryz.f148.results.toList) := fn_of Tryz.func148 (by kernel_rfl) (by kernel_rfl)
theorem ok_bytes_Cut (a0 : (List UInt8)) (a1 : (List UInt8)) (r : ((List UInt8) × (List UInt8) × Bool)) (h : S_bytes_Cut a0 a1 = some r) : (mach cfg).call 148 [] [.val false [.seq (eL e_u8 a0)], .val false [.seq (eL e_u8 a1)]] = some (.tup [(false, [.seq (eL e_u8 r.1)]), (false, [.seq (eL e_u8 r.2.1)]), (false, [.bool r.2.2])], []) := by
  unfold S_bytes_Cut at h
  obtain ⟨r1, hr1, h⟩ := bs h
  rcases ite_some h with ⟨c2, h⟩ | ⟨c2, h⟩
  ·obtain ⟨i3, hi3, h⟩ := bs h
   obtain ⟨s4, hs4, h⟩ := bs h
   obtain ⟨i5, hi5, h⟩ := bs h
   obtain ⟨s6, hs6, h⟩ := bs h
   obtain rfl := Option.some.inj h
   exact call_wQ [.cl (ok_bytes_Index a0 a1 _ hr1), .gT c2, .na hi3, ⟨.cut (eL e_u8 a0) none (some i3), .l (eL e_u8 s4), (A.cut hs4)⟩, ⟨.uni 1 (eL e_u8 a0), .b true, (A.uni E_u8)⟩, .le e_u8 a1, .ad r1 ((a1.length : Nat) : Int), .na hi5, ⟨.cut (eL e_u8 a0) (some i5) none, .l (eL e_u8 s6), (A.cut hs6)⟩, ⟨.uni 1 (eL e_u8 a0), .b true, (A.uni E_u8)⟩] rfl fd_148 (by kernel_rfl)
  ·obtain rfl := Option.some.inj h
   exact (call_wQ (r := (.tup [(false, [.seq (eL e_u8 a0)]), (false, [.seq (viewL (eL e_u8 []))]), (false, [.bool false])], [])) [.cl (ok_bytes_Index a0 a1 _ hr1), .gF c2] rfl fd_148 (by kernel_rfl)).trans (by simp only [viewL_eL E_u8] <;> rfl)
def S_impl_in (a0 : Int) (a1 : Int) (a2 : Int) : Option Bool :=
  if a1 <= a0 then
    some (decide (a0 <= a2))
  else
    some false
set_option maxRecDepth 100000 in
theorem fd_110 : cfg.funcs 110 = some (bodyOf Tryz.f110, Tryz.f110.ntmps, Tryz.f110.results.toList) := fn_of Tryz.func110 (by kernel_rfl) (by kernel_rfl)
theorem ok_impl_in (a0 : Int) (a1 : Int) (a2 : Int) (r : Bool) (h : S_impl_in a0 a1 a2 = some r) : (mach cfg).call 110 [] [.val false [.int .i64 a0], .val false [.int .i64 a1], .val false [.int .i64 a2]] = some (.val false [.bool r], []) := by
  unfold S_impl_in at h
  rcases ite_some h with ⟨c1, h⟩ | ⟨c1, h⟩
  ·obtain rfl := Option.some.inj h
   exact call_wQ [.gT c1, .gD a0 a2] rfl fd_110 (by kernel_rfl)
  ·obtain rfl := Option.some.inj h
   exact call_wQ [.gF c1] rfl fd_110 (by kernel_rfl)
def L_impl_isName_l0 (a0 : (List UInt8)) (v1 : Int) : Nat → Int → Option (Bool ⊕ Int)
  | 0, _ => none
  | m + 1, v2 =>
    if v2 < v1 then
      (natO v2).bind fun i2 =>
      (a0[i2]?).bind fun x3 =>
      if ((x3.toNat : Nat) : Int) < 97 then
        some (.inl false)
      else
        if 122 < ((x3.toNat : Nat) : Int) then
          some (.inl false)
        else
          L_impl_isName_l0 a0 v1 m (w64 (v2 + 1))
    else
      some (.inr v2)
theorem gl_impl_isName_l0 (a0 : (List UInt8)) (v1 : Int) (m : Nat) : ∀ (v2 : Int) (o : (Bool ⊕ Int)), L_impl_isName_l0 a0 v1 m v2 = some o → (mach cfg).loop 149 (loopB Tryz.f149 0) ⟨[(0, .val false [.seq (eL e_u8 a0)]), (5, .val false [.seq (eL e_u8 a0)]), (6, .val false [.int .i64 v1]), (7, .val false [.int .i64 v2])], [], 0⟩ = some (match o with | .inl o_0 => (.ret, (⟨[(2, .val false [.bool o_0])], [], 0⟩ : S)) | .inr (o_1) => (.exit 0, (⟨[(0, .val false [.seq (eL e_u8 a0)]), (5, .val false [.seq (eL e_u8 a0)]), (6, .val false [.int .i64 v1]), (7, .val false [.int .i64 o_1]), (8, .val false [.bool false])], [], 0⟩ : S))) := by
  induction m with
  | zero => intro v2 o h; cases h
  | succ m ih =>
    intro v2 o h
    rw [L_impl_isName_l0] at h
    rcases ite_some h with ⟨c1, h⟩ | ⟨c1, h⟩
    ·obtain ⟨i2, hi2, h⟩ := bs h
     obtain ⟨x3, hx3, h⟩ := bs h
     rcases ite_some h with ⟨c4, h⟩ | ⟨c4, h⟩
     ·obtain rfl := Option.some.inj h
      exact loop_eQ [.lT c1, .na hi2, .ix0 e_u8 hx3, .lT c4] (by kernel_rfl) (by intro h; cases h)
     ·rcases ite_some h with ⟨c5, h⟩ | ⟨c5, h⟩
      ·obtain rfl := Option.some.inj h
       exact loop_eQ [.lT c1, .na hi2, .ix0 e_u8 hx3, .lF c4, .lT c5] (by kernel_rfl) (by intro h; cases h)
      ·exact loop_nQ [.lT c1, .na hi2, .ix0 e_u8 hx3, .lF c4, .lF c5, .ad v2 1] (by kernel_rfl) (ih (w64 (v2 + 1)) o h)
    ·obtain rfl := Option.some.inj h
     exact loop_eQ [.lF c1] (by kernel_rfl) (by intro h; cases h)
def T_impl_isName (n : Nat) (a0 : (List UInt8)) : Option Bool :=
  (L_impl_isName_l0 a0 ((a0.length : Nat) : Int) n 0).bind fun o1 =>
  match o1 with
  | .inl o1_0 =>
    some o1_0
  | .inr (o1_1) =>
    (S_impl_in ((a0.length : Nat) : Int) 1 8).bind fun r2 =>
    some r2
set_option maxRecDepth 100000 in
theorem fd_149 : cfg.funcs 149 = some (bodyOf Tryz.f149, Tryz.f149.ntmps, Tryz.f149.results.toList) := fn_of Tryz.func149 (by kernel_rfl) (by kernel_rfl)
theorem g_impl_isName (n : Nat) (a0 : (List UInt8)) (r : Bool) (h : T_impl_isName n a0 = some r) : (mach cfg).call 149 [] [.val false [.seq (eL e_u8 a0)]] = some (.val false [.bool r], []) := by
  unfold T_impl_isName at h
  obtain ⟨o1, ho1, h⟩ := bs h
  let p48 : List (Q cfg) := [.le e_u8 a0, .lp (gl_impl_isName_l0 a0 ((a0.length : Nat) : Int) _ 0 _ ho1)]
  rcases o1 with o1_0 | o1_1
  · try dsimp only at h
    obtain rfl := Option.some.inj h
    exact call_wQ p48 rfl fd_149 (by kernel_rfl)
  · try dsimp only at h
    obtain ⟨r2, hr2, h⟩ := bs h
    obtain rfl := Option.some.inj h
    exact call_wQ (p48 ++ [.le e_u8 a0, .cl (ok_impl_in ((a0.length : Nat) : Int) 1 8 _ hr2)]) rfl fd_149 (by kernel_rfl)
theorem impl_isName_loop {a : List UInt8} (ha : a.length <= 2 ^ 20) : ∀ (d i m : Nat), i + d = a.length → d < m → ∃ z, L_impl_isName_l0 a (a.length : Int) m (i : Int) = some (if (a.drop i).all (inB 97 122) = true then .inr z else .inl false) := by
  intro d
  induction d with
  | zero =>
    intro i m hi hm
    obtain ⟨m, rfl, _⟩ := fuel hm
    exact ⟨_, by rw [L_impl_isName_l0, if_neg (by omega), List.drop_eq_nil_of_le (by omega)]; rfl⟩
  | succ d ih =>
    intro i m hi hm
    obtain ⟨m, rfl, hm'⟩ := fuel hm
    have hil : i < a.length := by omega
    rw [L_impl_isName_l0, if_pos (by omega), natO_nat, Option.bind_some, get_some hil, Option.bind_some, w64_succ (by omega), drop_cons hil, List.all_cons]
    by_cases h1 : ((a[i].toNat : Nat) : Int) < 97
    · exact ⟨0, by rw [if_pos h1, if_neg]; simp [inB]; omega⟩
    · rw [if_neg h1]
      by_cases h2 : (122 : Int) < ((a[i].toNat : Nat) : Int)
      · exact ⟨0, by rw [if_pos h2, if_neg]; simp [inB]; omega⟩
      · rw [if_neg h2, show inB 97 122 a[i] = true by simp [inB]; omega, Bool.true_and]
        exact ih (i + 1) m (by omega) (by omega)
theorem in_eq (a b c : Int) : S_impl_in a b c = some (decide (b <= a ∧ a <= c)) := by
  unfold S_impl_in
  by_cases h : b <= a
  · rw [if_pos h]; simp [h]
  · rw [if_neg h]; simp [h]
def S_impl_isName (a0 : (List UInt8)) : Option Bool := if a0.length <= 2 ^ 20 then some (nameB a0) else none
theorem spec_impl_isName (a0 : (List UInt8)) (r : Bool) (h : S_impl_isName a0 = some r) : ∃ n, T_impl_isName n a0 = some r := by
  unfold S_impl_isName at h
  obtain ⟨ha, h⟩ := need_c h
  refine ⟨a0.length + 1, ?_⟩
  obtain ⟨z, hz⟩ := impl_isName_loop ha a0.length 0 (a0.length + 1) (by omega) (by omega)
  rw [show ((0 : Nat) : Int) = 0 from rfl, List.drop_zero] at hz
  unfold T_impl_isName
  rw [<- h, hz]
  unfold nameB
  have hd : decide (1 <= a0.length ∧ a0.length <= 8) = decide ((1 : Int) <= (a0.length : Int) ∧ (a0.length : Int) <= 8) := decide_eq_decide.2 (by omega)
  rw [hd]
  cases a0.all (inB 97 122)
  · rw [Bool.and_false]; rfl
  · rw [Bool.and_true]
    simp only [if_true, Option.bind_some, in_eq]
theorem ok_impl_isName (a0 : (List UInt8)) (r : Bool) (h : S_impl_isName a0 = some r) : (mach cfg).call 149 [] [.val false [.seq (eL e_u8 a0)]] = some (.val false [.bool r], []) := by
  obtain ⟨n, hn⟩ := spec_impl_isName a0 r h
  exact g_impl_isName n a0 r hn
def S_bytes_HasSuffix (a0 : (List UInt8)) (a1 : (List UInt8)) : Option Bool :=
  if ((a1.length : Nat) : Int) <= ((a0.length : Nat) : Int) then
    (natO (w64 (((a0.length : Nat) : Int) - ((a1.length : Nat) : Int)))).bind fun i2 =>
    (cutO a0 (some i2) none).bind fun s3 =>
    (S_bytes_Equal s3 a1).bind fun r4 =>
    some r4
  else
    some false
set_option maxRecDepth 100000 in
theorem fd_172 : cfg.funcs 172 = some (bodyOf Tryz.f172, Tryz.f172.ntmps, Tryz.f172.results.toList) := fn_of Tryz.func172 (by kernel_rfl) (by kernel_rfl)
theorem ok_bytes_HasSuffix (a0 : (List UInt8)) (a1 : (List UInt8)) (r : Bool) (h : S_bytes_HasSuffix a0 a1 = some r) : (mach cfg).call 172 [] [.val false [.seq (eL e_u8 a0)], .val false [.seq (eL e_u8 a1)]] = some (.val false [.bool r], []) := by
  unfold S_bytes_HasSuffix at h
  rcases ite_some h with ⟨c1, h⟩ | ⟨c1, h⟩
  ·obtain ⟨i2, hi2, h⟩ := bs h
   obtain ⟨s3, hs3, h⟩ := bs h
   obtain ⟨r4, hr4, h⟩ := bs h
   obtain rfl := Option.some.inj h
   exact call_wQ [.le e_u8 a0, .le e_u8 a1, .gT c1, .le e_u8 a0, .le e_u8 a1, .su ((a0.length : Nat) : Int) ((a1.length : Nat) : Int), .na hi2, ⟨.cut (eL e_u8 a0) (some i2) none, .l (eL e_u8 s3), (A.cut hs3)⟩, ⟨.uni 1 (eL e_u8 a0), .b true, (A.uni E_u8)⟩, .cl (ok_bytes_Equal s3 a1 _ hr4)] rfl fd_172 (by kernel_rfl)
  ·obtain rfl := Option.some.inj h
   exact call_wQ [.le e_u8 a0, .le e_u8 a1, .gF c1] rfl fd_172 (by kernel_rfl)
end
end Go.Am.Try
