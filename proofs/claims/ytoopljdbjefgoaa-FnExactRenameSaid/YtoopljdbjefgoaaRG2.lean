/- The functions of the program in plain Lean, and that the machine answers as they do; conditions at each theorem. -/
import Derived.Test.YtoopljdbjefgoaaRG1
set_option linter.unusedVariables false
set_option linter.unusedSimpArgs false
namespace Go.Am.Try
open Go.Am Go.Proofs
set_option linter.unusedVariables false
set_option maxRecDepth 20000
set_option maxHeartbeats 2000000
noncomputable section
def L_spec_l6expr_l0 (G_spec_l6expr : GExpr → Int → Int → Option Int) (a1 : Int) (a0 : GExpr) : Nat → Int → Int → Option (Int ⊕ (Int × Int))
  | 0, _, _ => none
  | m + 1, v1, v2 =>
    if v2 < ((a0.Kids.length : Nat) : Int) then
      if a0.Kind = 5 then
        (natO v2).bind fun i3 =>
        (a0.K[i3]?).bind fun x4 =>
        (S_spec_NameOk x4).bind fun r5 =>
        match r5 with
        | true =>
          if 0 < v2 then
            (natO (w64 (v2 - 1))).bind fun i8 =>
            (a0.K[i8]?).bind fun x9 =>
            if Op.bytesLess x9 x4 = true then
              (a0.Kids[i3]?).bind fun x11 =>
              (G_spec_l6expr x11 (w64 (a1 + 1)) v1).bind fun r12 =>
              if r12 < 0 then
                some (.inl (-1))
              else
                L_spec_l6expr_l0 G_spec_l6expr a1 a0 m r12 (w64 (v2 + 1))
            else
              some (.inl (-1))
          else
            (a0.Kids[i3]?).bind fun x8 =>
            (G_spec_l6expr x8 (w64 (a1 + 1)) v1).bind fun r9 =>
            if r9 < 0 then
              some (.inl (-1))
            else
              L_spec_l6expr_l0 G_spec_l6expr a1 a0 m r9 (w64 (v2 + 1))
        | false =>
          some (.inl (-1))
      else
        (natO v2).bind fun i3 =>
        (a0.Kids[i3]?).bind fun x4 =>
        (G_spec_l6expr x4 (w64 (a1 + 1)) v1).bind fun r5 =>
        if r5 < 0 then
          some (.inl (-1))
        else
          L_spec_l6expr_l0 G_spec_l6expr a1 a0 m r5 (w64 (v2 + 1))
    else
      some (.inr (v1, v2))

theorem gl_spec_l6expr_l0 (G_spec_l6expr : GExpr → Int → Int → Option Int) (H_spec_l6expr : ∀ (a0 : GExpr) (a1 : Int) (a2 : Int) (r : Int), G_spec_l6expr a0 a1 a2 = some r → (mach cfg).call 79 [] [.val true [.int .i64 a0.Kind, .int .i64 a0.N, .seq (eL e_u8 a0.S), .seq (eL (e_sl e_u8) a0.K), .seq (eL e_GExpr a0.Kids)], .val false [.int .i64 a1], .val false [.int .i64 a2]] = some (.val false [.int .i64 r], [])) (a1 : Int) (a0 : GExpr) (m : Nat) : ∀ (v1 : Int) (v2 : Int) (o : (Int ⊕ (Int × Int))), L_spec_l6expr_l0 G_spec_l6expr a1 a0 m v1 v2 = some o → (mach cfg).loop 79 (loopB Try.f79 0) ⟨[(1, .val false [.int .i64 a1]), (2, .val false [.int .i64 v1]), (3, .val false [.ptr 0 0]), (8, .val false [.int .i64 v2])], [.var [.int .i64 a0.Kind, .int .i64 a0.N, .seq (eL e_u8 a0.S), .seq (eL (e_sl e_u8) a0.K), .seq (eL e_GExpr a0.Kids)]], 0⟩ = some (match o with | .inl o_0 => (.ret, (⟨[(6, .val false [.int .i64 o_0])], [], 0⟩ : S)) | .inr (⟨o_1_0, o_1_1⟩) => (.exit 2, (⟨[(1, .val false [.int .i64 a1]), (2, .val false [.int .i64 o_1_0]), (3, .val false [.ptr 0 0]), (8, .val false [.int .i64 o_1_1]), (129, .val false [.bool false])], [.var [.int .i64 a0.Kind, .int .i64 a0.N, .seq (eL e_u8 a0.S), .seq (eL (e_sl e_u8) a0.K), .seq (eL e_GExpr a0.Kids)]], 0⟩ : S))) := by
  induction m with
  | zero => intro v1 v2 o h; cases h
  | succ m ih =>
    intro v1 v2 o h
    rw [L_spec_l6expr_l0] at h
    rcases ite_some h with ⟨c1, h⟩ | ⟨c1, h⟩
    ·rcases ite_some h with ⟨c2, h⟩ | ⟨c2, h⟩
     ·obtain ⟨i3, hi3, h⟩ := bs h
      obtain ⟨x4, hx4, h⟩ := bs h
      obtain ⟨r5, hr5, h⟩ := bs h
      cases r5 with
      | true =>
       try dsimp only at h
       rcases ite_some h with ⟨c7, h⟩ | ⟨c7, h⟩
       ·obtain ⟨i8, hi8, h⟩ := bs h
        obtain ⟨x9, hx9, h⟩ := bs h
        rcases ite_some h with ⟨c10, h⟩ | ⟨c10, h⟩
        ·obtain ⟨x11, hx11, h⟩ := bs h
         obtain ⟨r12, hr12, h⟩ := bs h
         rcases ite_some h with ⟨c13, h⟩ | ⟨c13, h⟩
         ·obtain rfl := Option.some.inj h
          exact loop_eQ [.le e_GExpr a0.Kids, .lT c1, .eT c2, .na hi3, .ix0 (e_sl e_u8) hx4, .cl (ok_spec_NameOk x4 _ hr5), .nt true, .lT c7, .su v2 1, .na hi8, .ix0 (e_sl e_u8) hx9, ⟨.bytes (eL e_u8 x9), .s x9, A.bytes⟩, .na hi3, .ix0 (e_sl e_u8) hx4, ⟨.bytes (eL e_u8 x4), .s x4, A.bytes⟩, ⟨.ltS x9 x4, .b true, (A.ltS_t c10)⟩, .nt true, .na hi3, .ix hx11 (eq_GExpr x11), .ad a1 1, .cl (H_spec_l6expr x11 (w64 (a1 + 1)) v1 _ hr12), .lT c13] (by kernel_rfl) (by intro h; cases h)
         ·exact loop_nQ [.le e_GExpr a0.Kids, .lT c1, .eT c2, .na hi3, .ix0 (e_sl e_u8) hx4, .cl (ok_spec_NameOk x4 _ hr5), .nt true, .lT c7, .su v2 1, .na hi8, .ix0 (e_sl e_u8) hx9, ⟨.bytes (eL e_u8 x9), .s x9, A.bytes⟩, .na hi3, .ix0 (e_sl e_u8) hx4, ⟨.bytes (eL e_u8 x4), .s x4, A.bytes⟩, ⟨.ltS x9 x4, .b true, (A.ltS_t c10)⟩, .nt true, .na hi3, .ix hx11 (eq_GExpr x11), .ad a1 1, .cl (H_spec_l6expr x11 (w64 (a1 + 1)) v1 _ hr12), .lF c13, .ad v2 1] (by kernel_rfl) (ih r12 (w64 (v2 + 1)) o h)
        ·obtain rfl := Option.some.inj h
         exact loop_eQ [.le e_GExpr a0.Kids, .lT c1, .eT c2, .na hi3, .ix0 (e_sl e_u8) hx4, .cl (ok_spec_NameOk x4 _ hr5), .nt true, .lT c7, .su v2 1, .na hi8, .ix0 (e_sl e_u8) hx9, ⟨.bytes (eL e_u8 x9), .s x9, A.bytes⟩, .na hi3, .ix0 (e_sl e_u8) hx4, ⟨.bytes (eL e_u8 x4), .s x4, A.bytes⟩, ⟨.ltS x9 x4, .b false, (A.ltS_f c10)⟩, .nt false] (by kernel_rfl) (by intro h; cases h)
       ·obtain ⟨x8, hx8, h⟩ := bs h
        obtain ⟨r9, hr9, h⟩ := bs h
        rcases ite_some h with ⟨c10, h⟩ | ⟨c10, h⟩
        ·obtain rfl := Option.some.inj h
         exact loop_eQ [.le e_GExpr a0.Kids, .lT c1, .eT c2, .na hi3, .ix0 (e_sl e_u8) hx4, .cl (ok_spec_NameOk x4 _ hr5), .nt true, .lF c7, .na hi3, .ix hx8 (eq_GExpr x8), .ad a1 1, .cl (H_spec_l6expr x8 (w64 (a1 + 1)) v1 _ hr9), .lT c10] (by kernel_rfl) (by intro h; cases h)
        ·exact loop_nQ [.le e_GExpr a0.Kids, .lT c1, .eT c2, .na hi3, .ix0 (e_sl e_u8) hx4, .cl (ok_spec_NameOk x4 _ hr5), .nt true, .lF c7, .na hi3, .ix hx8 (eq_GExpr x8), .ad a1 1, .cl (H_spec_l6expr x8 (w64 (a1 + 1)) v1 _ hr9), .lF c10, .ad v2 1] (by kernel_rfl) (ih r9 (w64 (v2 + 1)) o h)
      | false =>
       try dsimp only at h
       obtain rfl := Option.some.inj h
       exact loop_eQ [.le e_GExpr a0.Kids, .lT c1, .eT c2, .na hi3, .ix0 (e_sl e_u8) hx4, .cl (ok_spec_NameOk x4 _ hr5), .nt false] (by kernel_rfl) (by intro h; cases h)
     ·obtain ⟨i3, hi3, h⟩ := bs h
      obtain ⟨x4, hx4, h⟩ := bs h
      obtain ⟨r5, hr5, h⟩ := bs h
      rcases ite_some h with ⟨c6, h⟩ | ⟨c6, h⟩
      ·obtain rfl := Option.some.inj h
       exact loop_eQ [.le e_GExpr a0.Kids, .lT c1, .eF c2, .na hi3, .ix hx4 (eq_GExpr x4), .ad a1 1, .cl (H_spec_l6expr x4 (w64 (a1 + 1)) v1 _ hr5), .lT c6] (by kernel_rfl) (by intro h; cases h)
      ·exact loop_nQ [.le e_GExpr a0.Kids, .lT c1, .eF c2, .na hi3, .ix hx4 (eq_GExpr x4), .ad a1 1, .cl (H_spec_l6expr x4 (w64 (a1 + 1)) v1 _ hr5), .lF c6, .ad v2 1] (by kernel_rfl) (ih r5 (w64 (v2 + 1)) o h)
    ·obtain rfl := Option.some.inj h
     exact loop_eQ [.le e_GExpr a0.Kids, .lF c1] (by kernel_rfl) (by intro h; cases h)

def T_spec_l6expr (G_spec_l6expr : GExpr → Int → Int → Option Int) (n : Nat) (a0 : GExpr) (a1 : Int) (a2 : Int) : Option Int :=
  if (w64 (a2 - 1)) < 0 then
    some (-1)
  else
    if 10 < a1 then
      some (-1)
    else
      if a0.Kind < 0 then
        some (-1)
      else
        if 23 < a0.Kind then
          some (-1)
        else
          (S_spec_l6arity a0.Kind).bind fun r5 =>
          if 0 ≤ r5 then
            if ((a0.Kids.length : Nat) : Int) = r5 then
              if a0.Kind = 5 then
                if ((a0.K.length : Nat) : Int) = ((a0.Kids.length : Nat) : Int) then
                  if a0.N = 0 then
                    if 0 < ((a0.S.length : Nat) : Int) then
                      some (-1)
                    else
                      (L_spec_l6expr_l0 G_spec_l6expr a1 a0 n (w64 (a2 - 1)) 0).bind fun o12 =>
                      match o12 with
                      | .inl o12_0 =>
                        some o12_0
                      | .inr (⟨o12_1_0, o12_1_1⟩) =>
                        some o12_1_0
                  else
                    some (-1)
                else
                  some (-1)
              else
                if 0 < ((a0.K.length : Nat) : Int) then
                  some (-1)
                else
                  if a0.Kind = 1 then
                    if a0.N < 0 then
                      some (-1)
                    else
                      if 1 < a0.N then
                        some (-1)
                      else
                        if 0 < ((a0.S.length : Nat) : Int) then
                          some (-1)
                        else
                          (L_spec_l6expr_l0 G_spec_l6expr a1 a0 n (w64 (a2 - 1)) 0).bind fun o14 =>
                          match o14 with
                          | .inl o14_0 =>
                            some o14_0
                          | .inr (⟨o14_1_0, o14_1_1⟩) =>
                            some o14_1_0
                  else
                    if a0.Kind = 2 then
                      if a0.N < 0 then
                        some (-1)
                      else
                        if 1000000000000 < a0.N then
                          some (-1)
                        else
                          if 0 < ((a0.S.length : Nat) : Int) then
                            some (-1)
                          else
                            (L_spec_l6expr_l0 G_spec_l6expr a1 a0 n (w64 (a2 - 1)) 0).bind fun o15 =>
                            match o15 with
                            | .inl o15_0 =>
                              some o15_0
                            | .inr (⟨o15_1_0, o15_1_1⟩) =>
                              some o15_1_0
                    else
                      if a0.N = 0 then
                        if a0.Kind = 3 then
                          (S_spec_l2text a0.S).bind fun r14 =>
                          match r14 with
                          | true =>
                            (L_spec_l6expr_l0 G_spec_l6expr a1 a0 n (w64 (a2 - 1)) 0).bind fun o16 =>
                            match o16 with
                            | .inl o16_0 =>
                              some o16_0
                            | .inr (⟨o16_1_0, o16_1_1⟩) =>
                              some o16_1_0
                          | false =>
                            some (-1)
                        else
                          if a0.Kind = 6 then
                            (S_spec_NameOk a0.S).bind fun r15 =>
                            match r15 with
                            | true =>
                              (L_spec_l6expr_l0 G_spec_l6expr a1 a0 n (w64 (a2 - 1)) 0).bind fun o17 =>
                              match o17 with
                              | .inl o17_0 =>
                                some o17_0
                              | .inr (⟨o17_1_0, o17_1_1⟩) =>
                                some o17_1_0
                            | false =>
                              some (-1)
                          else
                            if a0.Kind = 8 then
                              (S_spec_NameOk a0.S).bind fun r16 =>
                              match r16 with
                              | true =>
                                (L_spec_l6expr_l0 G_spec_l6expr a1 a0 n (w64 (a2 - 1)) 0).bind fun o18 =>
                                match o18 with
                                | .inl o18_0 =>
                                  some o18_0
                                | .inr (⟨o18_1_0, o18_1_1⟩) =>
                                  some o18_1_0
                              | false =>
                                some (-1)
                            else
                              if a0.Kind = 23 then
                                (S_spec_NameOk a0.S).bind fun r17 =>
                                match r17 with
                                | true =>
                                  (S_spec_l6kept a0.S).bind fun r19 =>
                                  match r19 with
                                  | true =>
                                    some (-1)
                                  | false =>
                                    (L_spec_l6expr_l0 G_spec_l6expr a1 a0 n (w64 (a2 - 1)) 0).bind fun o21 =>
                                    match o21 with
                                    | .inl o21_0 =>
                                      some o21_0
                                    | .inr (⟨o21_1_0, o21_1_1⟩) =>
                                      some o21_1_0
                                | false =>
                                  some (-1)
                              else
                                if a0.Kind = 7 then
                                  (S_spec_l6free a0.S).bind fun r18 =>
                                  match r18 with
                                  | true =>
                                    (L_spec_l6expr_l0 G_spec_l6expr a1 a0 n (w64 (a2 - 1)) 0).bind fun o20 =>
                                    match o20 with
                                    | .inl o20_0 =>
                                      some o20_0
                                    | .inr (⟨o20_1_0, o20_1_1⟩) =>
                                      some o20_1_0
                                  | false =>
                                    some (-1)
                                else
                                  if 0 < ((a0.S.length : Nat) : Int) then
                                    some (-1)
                                  else
                                    (L_spec_l6expr_l0 G_spec_l6expr a1 a0 n (w64 (a2 - 1)) 0).bind fun o19 =>
                                    match o19 with
                                    | .inl o19_0 =>
                                      some o19_0
                                    | .inr (⟨o19_1_0, o19_1_1⟩) =>
                                      some o19_1_0
                      else
                        some (-1)
            else
              some (-1)
          else
            if a0.Kind = 5 then
              if ((a0.K.length : Nat) : Int) = ((a0.Kids.length : Nat) : Int) then
                if a0.N = 0 then
                  if 0 < ((a0.S.length : Nat) : Int) then
                    some (-1)
                  else
                    (L_spec_l6expr_l0 G_spec_l6expr a1 a0 n (w64 (a2 - 1)) 0).bind fun o11 =>
                    match o11 with
                    | .inl o11_0 =>
                      some o11_0
                    | .inr (⟨o11_1_0, o11_1_1⟩) =>
                      some o11_1_0
                else
                  some (-1)
              else
                some (-1)
            else
              if 0 < ((a0.K.length : Nat) : Int) then
                some (-1)
              else
                if a0.Kind = 1 then
                  if a0.N < 0 then
                    some (-1)
                  else
                    if 1 < a0.N then
                      some (-1)
                    else
                      if 0 < ((a0.S.length : Nat) : Int) then
                        some (-1)
                      else
                        (L_spec_l6expr_l0 G_spec_l6expr a1 a0 n (w64 (a2 - 1)) 0).bind fun o13 =>
                        match o13 with
                        | .inl o13_0 =>
                          some o13_0
                        | .inr (⟨o13_1_0, o13_1_1⟩) =>
                          some o13_1_0
                else
                  if a0.Kind = 2 then
                    if a0.N < 0 then
                      some (-1)
                    else
                      if 1000000000000 < a0.N then
                        some (-1)
                      else
                        if 0 < ((a0.S.length : Nat) : Int) then
                          some (-1)
                        else
                          (L_spec_l6expr_l0 G_spec_l6expr a1 a0 n (w64 (a2 - 1)) 0).bind fun o14 =>
                          match o14 with
                          | .inl o14_0 =>
                            some o14_0
                          | .inr (⟨o14_1_0, o14_1_1⟩) =>
                            some o14_1_0
                  else
                    if a0.N = 0 then
                      if a0.Kind = 3 then
                        (S_spec_l2text a0.S).bind fun r13 =>
                        match r13 with
                        | true =>
                          (L_spec_l6expr_l0 G_spec_l6expr a1 a0 n (w64 (a2 - 1)) 0).bind fun o15 =>
                          match o15 with
                          | .inl o15_0 =>
                            some o15_0
                          | .inr (⟨o15_1_0, o15_1_1⟩) =>
                            some o15_1_0
                        | false =>
                          some (-1)
                      else
                        if a0.Kind = 6 then
                          (S_spec_NameOk a0.S).bind fun r14 =>
                          match r14 with
                          | true =>
                            (L_spec_l6expr_l0 G_spec_l6expr a1 a0 n (w64 (a2 - 1)) 0).bind fun o16 =>
                            match o16 with
                            | .inl o16_0 =>
                              some o16_0
                            | .inr (⟨o16_1_0, o16_1_1⟩) =>
                              some o16_1_0
                          | false =>
                            some (-1)
                        else
                          if a0.Kind = 8 then
                            (S_spec_NameOk a0.S).bind fun r15 =>
                            match r15 with
                            | true =>
                              (L_spec_l6expr_l0 G_spec_l6expr a1 a0 n (w64 (a2 - 1)) 0).bind fun o17 =>
                              match o17 with
                              | .inl o17_0 =>
                                some o17_0
                              | .inr (⟨o17_1_0, o17_1_1⟩) =>
                                some o17_1_0
                            | false =>
                              some (-1)
                          else
                            if a0.Kind = 23 then
                              (S_spec_NameOk a0.S).bind fun r16 =>
                              match r16 with
                              | true =>
                                (S_spec_l6kept a0.S).bind fun r18 =>
                                match r18 with
                                | true =>
                                  some (-1)
                                | false =>
                                  (L_spec_l6expr_l0 G_spec_l6expr a1 a0 n (w64 (a2 - 1)) 0).bind fun o20 =>
                                  match o20 with
                                  | .inl o20_0 =>
                                    some o20_0
                                  | .inr (⟨o20_1_0, o20_1_1⟩) =>
                                    some o20_1_0
                              | false =>
                                some (-1)
                            else
                              if a0.Kind = 7 then
                                (S_spec_l6free a0.S).bind fun r17 =>
                                match r17 with
                                | true =>
                                  (L_spec_l6expr_l0 G_spec_l6expr a1 a0 n (w64 (a2 - 1)) 0).bind fun o19 =>
                                  match o19 with
                                  | .inl o19_0 =>
                                    some o19_0
                                  | .inr (⟨o19_1_0, o19_1_1⟩) =>
                                    some o19_1_0
                                | false =>
                                  some (-1)
                              else
                                if 0 < ((a0.S.length : Nat) : Int) then
                                  some (-1)
                                else
                                  (L_spec_l6expr_l0 G_spec_l6expr a1 a0 n (w64 (a2 - 1)) 0).bind fun o18 =>
                                  match o18 with
                                  | .inl o18_0 =>
                                    some o18_0
                                  | .inr (⟨o18_1_0, o18_1_1⟩) =>
                                    some o18_1_0
                    else
                      some (-1)

set_option maxRecDepth 100000 in
theorem fd_79 : cfg.funcs 79 = some (bodyOf Try.f79, Try.f79.ntmps, Try.f79.results.toList) := fn_of Try.func79 (by kernel_rfl) (by kernel_rfl)
theorem g_spec_l6expr (G_spec_l6expr : GExpr → Int → Int → Option Int) (H_spec_l6expr : ∀ (a0 : GExpr) (a1 : Int) (a2 : Int) (r : Int), G_spec_l6expr a0 a1 a2 = some r → (mach cfg).call 79 [] [.val true [.int .i64 a0.Kind, .int .i64 a0.N, .seq (eL e_u8 a0.S), .seq (eL (e_sl e_u8) a0.K), .seq (eL e_GExpr a0.Kids)], .val false [.int .i64 a1], .val false [.int .i64 a2]] = some (.val false [.int .i64 r], [])) (n : Nat) (a0 : GExpr) (a1 : Int) (a2 : Int) (r : Int) (h : T_spec_l6expr G_spec_l6expr n a0 a1 a2 = some r) : (mach cfg).call 79 [] [.val true [.int .i64 a0.Kind, .int .i64 a0.N, .seq (eL e_u8 a0.S), .seq (eL (e_sl e_u8) a0.K), .seq (eL e_GExpr a0.Kids)], .val false [.int .i64 a1], .val false [.int .i64 a2]] = some (.val false [.int .i64 r], []) := by
  unfold T_spec_l6expr at h
  rcases ite_some h with ⟨c1, h⟩ | ⟨c1, h⟩
  ·obtain rfl := Option.some.inj h
   exact call_wQ [.su a2 1, .lT c1] rfl fd_79 (by kernel_rfl)
  ·rcases ite_some h with ⟨c2, h⟩ | ⟨c2, h⟩
   ·obtain rfl := Option.some.inj h
    exact call_wQ [.su a2 1, .lF c1, .lT c2] rfl fd_79 (by kernel_rfl)
   ·rcases ite_some h with ⟨c3, h⟩ | ⟨c3, h⟩
    ·obtain rfl := Option.some.inj h
     exact call_wQ [.su a2 1, .lF c1, .lF c2, .lT c3] rfl fd_79 (by kernel_rfl)
    ·rcases ite_some h with ⟨c4, h⟩ | ⟨c4, h⟩
     ·obtain rfl := Option.some.inj h
      exact call_wQ [.su a2 1, .lF c1, .lF c2, .lF c3, .lT c4] rfl fd_79 (by kernel_rfl)
     ·obtain ⟨r5, hr5, h⟩ := bs h
      rcases ite_some h with ⟨c6, h⟩ | ⟨c6, h⟩
      ·rcases ite_some h with ⟨c7, h⟩ | ⟨c7, h⟩
       ·rcases ite_some h with ⟨c8, h⟩ | ⟨c8, h⟩
        ·rcases ite_some h with ⟨c9, h⟩ | ⟨c9, h⟩
         ·rcases ite_some h with ⟨c10, h⟩ | ⟨c10, h⟩
          ·rcases ite_some h with ⟨c11, h⟩ | ⟨c11, h⟩
           ·obtain rfl := Option.some.inj h
            exact call_wQ [.su a2 1, .lF c1, .lF c2, .lF c3, .lF c4, .cl (ok_spec_l6arity a0.Kind _ hr5), .gT c6, .le e_GExpr a0.Kids, .eT c7, .nt true, .eT c8, .le (e_sl e_u8) a0.K, .le e_GExpr a0.Kids, .eT c9, .nt true, .eT c8, .nt true, .eFo a0.Kind 1 (by omega), .eFo a0.Kind 2 (by omega), .eT c10, .nt true, .eFo a0.Kind 3 (by omega), .eFo a0.Kind 6 (by omega), .eFo a0.Kind 8 (by omega), .eFo a0.Kind 23 (by omega), .eFo a0.Kind 7 (by omega), .le e_u8 a0.S, .lT c11] rfl fd_79 (by kernel_rfl)
           ·obtain ⟨o12, ho12, h⟩ := bs h
            rcases o12 with o12_0 | ⟨o12_1_0, o12_1_1⟩
            · try dsimp only at h
              obtain rfl := Option.some.inj h
              exact call_wQ [.su a2 1, .lF c1, .lF c2, .lF c3, .lF c4, .cl (ok_spec_l6arity a0.Kind _ hr5), .gT c6, .le e_GExpr a0.Kids, .eT c7, .nt true, .eT c8, .le (e_sl e_u8) a0.K, .le e_GExpr a0.Kids, .eT c9, .nt true, .eT c8, .nt true, .eFo a0.Kind 1 (by omega), .eFo a0.Kind 2 (by omega), .eT c10, .nt true, .eFo a0.Kind 3 (by omega), .eFo a0.Kind 6 (by omega), .eFo a0.Kind 8 (by omega), .eFo a0.Kind 23 (by omega), .eFo a0.Kind 7 (by omega), .le e_u8 a0.S, .lF c11, .lp (gl_spec_l6expr_l0 G_spec_l6expr H_spec_l6expr a1 a0 _ (w64 (a2 - 1)) 0 _ ho12)] rfl fd_79 (by kernel_rfl)
            · try dsimp only at h
              obtain rfl := Option.some.inj h
              exact call_wQ [.su a2 1, .lF c1, .lF c2, .lF c3, .lF c4, .cl (ok_spec_l6arity a0.Kind _ hr5), .gT c6, .le e_GExpr a0.Kids, .eT c7, .nt true, .eT c8, .le (e_sl e_u8) a0.K, .le e_GExpr a0.Kids, .eT c9, .nt true, .eT c8, .nt true, .eFo a0.Kind 1 (by omega), .eFo a0.Kind 2 (by omega), .eT c10, .nt true, .eFo a0.Kind 3 (by omega), .eFo a0.Kind 6 (by omega), .eFo a0.Kind 8 (by omega), .eFo a0.Kind 23 (by omega), .eFo a0.Kind 7 (by omega), .le e_u8 a0.S, .lF c11, .lp (gl_spec_l6expr_l0 G_spec_l6expr H_spec_l6expr a1 a0 _ (w64 (a2 - 1)) 0 _ ho12)] rfl fd_79 (by kernel_rfl)
          ·obtain rfl := Option.some.inj h
           exact call_wQ [.su a2 1, .lF c1, .lF c2, .lF c3, .lF c4, .cl (ok_spec_l6arity a0.Kind _ hr5), .gT c6, .le e_GExpr a0.Kids, .eT c7, .nt true, .eT c8, .le (e_sl e_u8) a0.K, .le e_GExpr a0.Kids, .eT c9, .nt true, .eT c8, .nt true, .eFo a0.Kind 1 (by omega), .eFo a0.Kind 2 (by omega), .eF c10, .nt false] rfl fd_79 (by kernel_rfl)
         ·obtain rfl := Option.some.inj h
          exact call_wQ [.su a2 1, .lF c1, .lF c2, .lF c3, .lF c4, .cl (ok_spec_l6arity a0.Kind _ hr5), .gT c6, .le e_GExpr a0.Kids, .eT c7, .nt true, .eT c8, .le (e_sl e_u8) a0.K, .le e_GExpr a0.Kids, .eF c9, .nt false] rfl fd_79 (by kernel_rfl)
        ·rcases ite_some h with ⟨c9, h⟩ | ⟨c9, h⟩
         ·obtain rfl := Option.some.inj h
          exact call_wQ [.su a2 1, .lF c1, .lF c2, .lF c3, .lF c4, .cl (ok_spec_l6arity a0.Kind _ hr5), .gT c6, .le e_GExpr a0.Kids, .eT c7, .nt true, .eF c8, .eF c8, .nt false, .le (e_sl e_u8) a0.K, .lT c9] rfl fd_79 (by kernel_rfl)
         ·rcases ite_some h with ⟨c10, h⟩ | ⟨c10, h⟩
          ·rcases ite_some h with ⟨c11, h⟩ | ⟨c11, h⟩
           ·obtain rfl := Option.some.inj h
            exact call_wQ [.su a2 1, .lF c1, .lF c2, .lF c3, .lF c4, .cl (ok_spec_l6arity a0.Kind _ hr5), .gT c6, .le e_GExpr a0.Kids, .eT c7, .nt true, .eF c8, .eF c8, .nt false, .le (e_sl e_u8) a0.K, .lF c9, .eT c10, .lT c11] rfl fd_79 (by kernel_rfl)
           ·rcases ite_some h with ⟨c12, h⟩ | ⟨c12, h⟩
            ·obtain rfl := Option.some.inj h
             exact call_wQ [.su a2 1, .lF c1, .lF c2, .lF c3, .lF c4, .cl (ok_spec_l6arity a0.Kind _ hr5), .gT c6, .le e_GExpr a0.Kids, .eT c7, .nt true, .eF c8, .eF c8, .nt false, .le (e_sl e_u8) a0.K, .lF c9, .eT c10, .lF c11, .lT c12] rfl fd_79 (by kernel_rfl)
            ·rcases ite_some h with ⟨c13, h⟩ | ⟨c13, h⟩
             ·obtain rfl := Option.some.inj h
              exact call_wQ [.su a2 1, .lF c1, .lF c2, .lF c3, .lF c4, .cl (ok_spec_l6arity a0.Kind _ hr5), .gT c6, .le e_GExpr a0.Kids, .eT c7, .nt true, .eF c8, .eF c8, .nt false, .le (e_sl e_u8) a0.K, .lF c9, .eT c10, .lF c11, .lF c12, .eFo a0.Kind 3 (by omega), .eFo a0.Kind 6 (by omega), .eFo a0.Kind 8 (by omega), .eFo a0.Kind 23 (by omega), .eFo a0.Kind 7 (by omega), .le e_u8 a0.S, .lT c13] rfl fd_79 (by kernel_rfl)
             ·obtain ⟨o14, ho14, h⟩ := bs h
              rcases o14 with o14_0 | ⟨o14_1_0, o14_1_1⟩
              · try dsimp only at h
                obtain rfl := Option.some.inj h
                exact call_wQ [.su a2 1, .lF c1, .lF c2, .lF c3, .lF c4, .cl (ok_spec_l6arity a0.Kind _ hr5), .gT c6, .le e_GExpr a0.Kids, .eT c7, .nt true, .eF c8, .eF c8, .nt false, .le (e_sl e_u8) a0.K, .lF c9, .eT c10, .lF c11, .lF c12, .eFo a0.Kind 3 (by omega), .eFo a0.Kind 6 (by omega), .eFo a0.Kind 8 (by omega), .eFo a0.Kind 23 (by omega), .eFo a0.Kind 7 (by omega), .le e_u8 a0.S, .lF c13, .lp (gl_spec_l6expr_l0 G_spec_l6expr H_spec_l6expr a1 a0 _ (w64 (a2 - 1)) 0 _ ho14)] rfl fd_79 (by kernel_rfl)
              · try dsimp only at h
                obtain rfl := Option.some.inj h
                exact call_wQ [.su a2 1, .lF c1, .lF c2, .lF c3, .lF c4, .cl (ok_spec_l6arity a0.Kind _ hr5), .gT c6, .le e_GExpr a0.Kids, .eT c7, .nt true, .eF c8, .eF c8, .nt false, .le (e_sl e_u8) a0.K, .lF c9, .eT c10, .lF c11, .lF c12, .eFo a0.Kind 3 (by omega), .eFo a0.Kind 6 (by omega), .eFo a0.Kind 8 (by omega), .eFo a0.Kind 23 (by omega), .eFo a0.Kind 7 (by omega), .le e_u8 a0.S, .lF c13, .lp (gl_spec_l6expr_l0 G_spec_l6expr H_spec_l6expr a1 a0 _ (w64 (a2 - 1)) 0 _ ho14)] rfl fd_79 (by kernel_rfl)
          ·rcases ite_some h with ⟨c11, h⟩ | ⟨c11, h⟩
           ·rcases ite_some h with ⟨c12, h⟩ | ⟨c12, h⟩
            ·obtain rfl := Option.some.inj h
             exact call_wQ [.su a2 1, .lF c1, .lF c2, .lF c3, .lF c4, .cl (ok_spec_l6arity a0.Kind _ hr5), .gT c6, .le e_GExpr a0.Kids, .eT c7, .nt true, .eF c8, .eF c8, .nt false, .le (e_sl e_u8) a0.K, .lF c9, .eF c10, .eT c11, .lT c12] rfl fd_79 (by kernel_rfl)
            ·rcases ite_some h with ⟨c13, h⟩ | ⟨c13, h⟩
             ·obtain rfl := Option.some.inj h
              exact call_wQ [.su a2 1, .lF c1, .lF c2, .lF c3, .lF c4, .cl (ok_spec_l6arity a0.Kind _ hr5), .gT c6, .le e_GExpr a0.Kids, .eT c7, .nt true, .eF c8, .eF c8, .nt false, .le (e_sl e_u8) a0.K, .lF c9, .eF c10, .eT c11, .lF c12, .lT c13] rfl fd_79 (by kernel_rfl)
             ·rcases ite_some h with ⟨c14, h⟩ | ⟨c14, h⟩
              ·obtain rfl := Option.some.inj h
               exact call_wQ [.su a2 1, .lF c1, .lF c2, .lF c3, .lF c4, .cl (ok_spec_l6arity a0.Kind _ hr5), .gT c6, .le e_GExpr a0.Kids, .eT c7, .nt true, .eF c8, .eF c8, .nt false, .le (e_sl e_u8) a0.K, .lF c9, .eF c10, .eT c11, .lF c12, .lF c13, .eFo a0.Kind 3 (by omega), .eFo a0.Kind 6 (by omega), .eFo a0.Kind 8 (by omega), .eFo a0.Kind 23 (by omega), .eFo a0.Kind 7 (by omega), .le e_u8 a0.S, .lT c14] rfl fd_79 (by kernel_rfl)
              ·obtain ⟨o15, ho15, h⟩ := bs h
               rcases o15 with o15_0 | ⟨o15_1_0, o15_1_1⟩
               · try dsimp only at h
                 obtain rfl := Option.some.inj h
                 exact call_wQ [.su a2 1, .lF c1, .lF c2, .lF c3, .lF c4, .cl (ok_spec_l6arity a0.Kind _ hr5), .gT c6, .le e_GExpr a0.Kids, .eT c7, .nt true, .eF c8, .eF c8, .nt false, .le (e_sl e_u8) a0.K, .lF c9, .eF c10, .eT c11, .lF c12, .lF c13, .eFo a0.Kind 3 (by omega), .eFo a0.Kind 6 (by omega), .eFo a0.Kind 8 (by omega), .eFo a0.Kind 23 (by omega), .eFo a0.Kind 7 (by omega), .le e_u8 a0.S, .lF c14, .lp (gl_spec_l6expr_l0 G_spec_l6expr H_spec_l6expr a1 a0 _ (w64 (a2 - 1)) 0 _ ho15)] rfl fd_79 (by kernel_rfl)
               · try dsimp only at h
                 obtain rfl := Option.some.inj h
                 exact call_wQ [.su a2 1, .lF c1, .lF c2, .lF c3, .lF c4, .cl (ok_spec_l6arity a0.Kind _ hr5), .gT c6, .le e_GExpr a0.Kids, .eT c7, .nt true, .eF c8, .eF c8, .nt false, .le (e_sl e_u8) a0.K, .lF c9, .eF c10, .eT c11, .lF c12, .lF c13, .eFo a0.Kind 3 (by omega), .eFo a0.Kind 6 (by omega), .eFo a0.Kind 8 (by omega), .eFo a0.Kind 23 (by omega), .eFo a0.Kind 7 (by omega), .le e_u8 a0.S, .lF c14, .lp (gl_spec_l6expr_l0 G_spec_l6expr H_spec_l6expr a1 a0 _ (w64 (a2 - 1)) 0 _ ho15)] rfl fd_79 (by kernel_rfl)
           ·rcases ite_some h with ⟨c12, h⟩ | ⟨c12, h⟩
            ·rcases ite_some h with ⟨c13, h⟩ | ⟨c13, h⟩
             ·obtain ⟨r14, hr14, h⟩ := bs h
              cases r14 with
              | true =>
               try dsimp only at h
               obtain ⟨o16, ho16, h⟩ := bs h
               rcases o16 with o16_0 | ⟨o16_1_0, o16_1_1⟩
               · try dsimp only at h
                 obtain rfl := Option.some.inj h
                 exact call_wQ [.su a2 1, .lF c1, .lF c2, .lF c3, .lF c4, .cl (ok_spec_l6arity a0.Kind _ hr5), .gT c6, .le e_GExpr a0.Kids, .eT c7, .nt true, .eF c8, .eF c8, .nt false, .le (e_sl e_u8) a0.K, .lF c9, .eF c10, .eF c11, .eT c12, .nt true, .eT c13, .cl (ok_spec_l2text a0.S _ hr14), .nt true, .lp (gl_spec_l6expr_l0 G_spec_l6expr H_spec_l6expr a1 a0 _ (w64 (a2 - 1)) 0 _ ho16)] rfl fd_79 (by kernel_rfl)
               · try dsimp only at h
                 obtain rfl := Option.some.inj h
                 exact call_wQ [.su a2 1, .lF c1, .lF c2, .lF c3, .lF c4, .cl (ok_spec_l6arity a0.Kind _ hr5), .gT c6, .le e_GExpr a0.Kids, .eT c7, .nt true, .eF c8, .eF c8, .nt false, .le (e_sl e_u8) a0.K, .lF c9, .eF c10, .eF c11, .eT c12, .nt true, .eT c13, .cl (ok_spec_l2text a0.S _ hr14), .nt true, .lp (gl_spec_l6expr_l0 G_spec_l6expr H_spec_l6expr a1 a0 _ (w64 (a2 - 1)) 0 _ ho16)] rfl fd_79 (by kernel_rfl)
              | false =>
               try dsimp only at h
               obtain rfl := Option.some.inj h
               exact call_wQ [.su a2 1, .lF c1, .lF c2, .lF c3, .lF c4, .cl (ok_spec_l6arity a0.Kind _ hr5), .gT c6, .le e_GExpr a0.Kids, .eT c7, .nt true, .eF c8, .eF c8, .nt false, .le (e_sl e_u8) a0.K, .lF c9, .eF c10, .eF c11, .eT c12, .nt true, .eT c13, .cl (ok_spec_l2text a0.S _ hr14), .nt false] rfl fd_79 (by kernel_rfl)
             ·rcases ite_some h with ⟨c14, h⟩ | ⟨c14, h⟩
              ·obtain ⟨r15, hr15, h⟩ := bs h
               cases r15 with
               | true =>
                try dsimp only at h
                obtain ⟨o17, ho17, h⟩ := bs h
                rcases o17 with o17_0 | ⟨o17_1_0, o17_1_1⟩
                · try dsimp only at h
                  obtain rfl := Option.some.inj h
                  exact call_wQ [.su a2 1, .lF c1, .lF c2, .lF c3, .lF c4, .cl (ok_spec_l6arity a0.Kind _ hr5), .gT c6, .le e_GExpr a0.Kids, .eT c7, .nt true, .eF c8, .eF c8, .nt false, .le (e_sl e_u8) a0.K, .lF c9, .eF c10, .eF c11, .eT c12, .nt true, .eF c13, .eT c14, .cl (ok_spec_NameOk a0.S _ hr15), .nt true, .eFo a0.Kind 23 (by omega), .lp (gl_spec_l6expr_l0 G_spec_l6expr H_spec_l6expr a1 a0 _ (w64 (a2 - 1)) 0 _ ho17)] rfl fd_79 (by kernel_rfl)
                · try dsimp only at h
                  obtain rfl := Option.some.inj h
                  exact call_wQ [.su a2 1, .lF c1, .lF c2, .lF c3, .lF c4, .cl (ok_spec_l6arity a0.Kind _ hr5), .gT c6, .le e_GExpr a0.Kids, .eT c7, .nt true, .eF c8, .eF c8, .nt false, .le (e_sl e_u8) a0.K, .lF c9, .eF c10, .eF c11, .eT c12, .nt true, .eF c13, .eT c14, .cl (ok_spec_NameOk a0.S _ hr15), .nt true, .eFo a0.Kind 23 (by omega), .lp (gl_spec_l6expr_l0 G_spec_l6expr H_spec_l6expr a1 a0 _ (w64 (a2 - 1)) 0 _ ho17)] rfl fd_79 (by kernel_rfl)
               | false =>
                try dsimp only at h
                obtain rfl := Option.some.inj h
                exact call_wQ [.su a2 1, .lF c1, .lF c2, .lF c3, .lF c4, .cl (ok_spec_l6arity a0.Kind _ hr5), .gT c6, .le e_GExpr a0.Kids, .eT c7, .nt true, .eF c8, .eF c8, .nt false, .le (e_sl e_u8) a0.K, .lF c9, .eF c10, .eF c11, .eT c12, .nt true, .eF c13, .eT c14, .cl (ok_spec_NameOk a0.S _ hr15), .nt false] rfl fd_79 (by kernel_rfl)
              ·rcases ite_some h with ⟨c15, h⟩ | ⟨c15, h⟩
               ·obtain ⟨r16, hr16, h⟩ := bs h
                cases r16 with
                | true =>
                 try dsimp only at h
                 obtain ⟨o18, ho18, h⟩ := bs h
                 rcases o18 with o18_0 | ⟨o18_1_0, o18_1_1⟩
                 · try dsimp only at h
                   obtain rfl := Option.some.inj h
                   exact call_wQ [.su a2 1, .lF c1, .lF c2, .lF c3, .lF c4, .cl (ok_spec_l6arity a0.Kind _ hr5), .gT c6, .le e_GExpr a0.Kids, .eT c7, .nt true, .eF c8, .eF c8, .nt false, .le (e_sl e_u8) a0.K, .lF c9, .eF c10, .eF c11, .eT c12, .nt true, .eF c13, .eF c14, .eT c15, .cl (ok_spec_NameOk a0.S _ hr16), .nt true, .eFo a0.Kind 23 (by omega), .lp (gl_spec_l6expr_l0 G_spec_l6expr H_spec_l6expr a1 a0 _ (w64 (a2 - 1)) 0 _ ho18)] rfl fd_79 (by kernel_rfl)
                 · try dsimp only at h
                   obtain rfl := Option.some.inj h
                   exact call_wQ [.su a2 1, .lF c1, .lF c2, .lF c3, .lF c4, .cl (ok_spec_l6arity a0.Kind _ hr5), .gT c6, .le e_GExpr a0.Kids, .eT c7, .nt true, .eF c8, .eF c8, .nt false, .le (e_sl e_u8) a0.K, .lF c9, .eF c10, .eF c11, .eT c12, .nt true, .eF c13, .eF c14, .eT c15, .cl (ok_spec_NameOk a0.S _ hr16), .nt true, .eFo a0.Kind 23 (by omega), .lp (gl_spec_l6expr_l0 G_spec_l6expr H_spec_l6expr a1 a0 _ (w64 (a2 - 1)) 0 _ ho18)] rfl fd_79 (by kernel_rfl)
                | false =>
                 try dsimp only at h
                 obtain rfl := Option.some.inj h
                 exact call_wQ [.su a2 1, .lF c1, .lF c2, .lF c3, .lF c4, .cl (ok_spec_l6arity a0.Kind _ hr5), .gT c6, .le e_GExpr a0.Kids, .eT c7, .nt true, .eF c8, .eF c8, .nt false, .le (e_sl e_u8) a0.K, .lF c9, .eF c10, .eF c11, .eT c12, .nt true, .eF c13, .eF c14, .eT c15, .cl (ok_spec_NameOk a0.S _ hr16), .nt false] rfl fd_79 (by kernel_rfl)
               ·rcases ite_some h with ⟨c16, h⟩ | ⟨c16, h⟩
                ·obtain ⟨r17, hr17, h⟩ := bs h
                 cases r17 with
                 | true =>
                  try dsimp only at h
                  obtain ⟨r19, hr19, h⟩ := bs h
                  cases r19 with
                  | true =>
                   try dsimp only at h
                   obtain rfl := Option.some.inj h
                   exact call_wQ [.su a2 1, .lF c1, .lF c2, .lF c3, .lF c4, .cl (ok_spec_l6arity a0.Kind _ hr5), .gT c6, .le e_GExpr a0.Kids, .eT c7, .nt true, .eF c8, .eF c8, .nt false, .le (e_sl e_u8) a0.K, .lF c9, .eF c10, .eF c11, .eT c12, .nt true, .eF c13, .eF c14, .eF c15, .eT c16, .cl (ok_spec_NameOk a0.S _ hr17), .nt true, .eT c16, .cl (ok_spec_l6kept a0.S _ hr19)] rfl fd_79 (by kernel_rfl)
                  | false =>
                   try dsimp only at h
                   obtain ⟨o21, ho21, h⟩ := bs h
                   rcases o21 with o21_0 | ⟨o21_1_0, o21_1_1⟩
                   · try dsimp only at h
                     obtain rfl := Option.some.inj h
                     exact call_wQ [.su a2 1, .lF c1, .lF c2, .lF c3, .lF c4, .cl (ok_spec_l6arity a0.Kind _ hr5), .gT c6, .le e_GExpr a0.Kids, .eT c7, .nt true, .eF c8, .eF c8, .nt false, .le (e_sl e_u8) a0.K, .lF c9, .eF c10, .eF c11, .eT c12, .nt true, .eF c13, .eF c14, .eF c15, .eT c16, .cl (ok_spec_NameOk a0.S _ hr17), .nt true, .eT c16, .cl (ok_spec_l6kept a0.S _ hr19), .lp (gl_spec_l6expr_l0 G_spec_l6expr H_spec_l6expr a1 a0 _ (w64 (a2 - 1)) 0 _ ho21)] rfl fd_79 (by kernel_rfl)
                   · try dsimp only at h
                     obtain rfl := Option.some.inj h
                     exact call_wQ [.su a2 1, .lF c1, .lF c2, .lF c3, .lF c4, .cl (ok_spec_l6arity a0.Kind _ hr5), .gT c6, .le e_GExpr a0.Kids, .eT c7, .nt true, .eF c8, .eF c8, .nt false, .le (e_sl e_u8) a0.K, .lF c9, .eF c10, .eF c11, .eT c12, .nt true, .eF c13, .eF c14, .eF c15, .eT c16, .cl (ok_spec_NameOk a0.S _ hr17), .nt true, .eT c16, .cl (ok_spec_l6kept a0.S _ hr19), .lp (gl_spec_l6expr_l0 G_spec_l6expr H_spec_l6expr a1 a0 _ (w64 (a2 - 1)) 0 _ ho21)] rfl fd_79 (by kernel_rfl)
                 | false =>
                  try dsimp only at h
                  obtain rfl := Option.some.inj h
                  exact call_wQ [.su a2 1, .lF c1, .lF c2, .lF c3, .lF c4, .cl (ok_spec_l6arity a0.Kind _ hr5), .gT c6, .le e_GExpr a0.Kids, .eT c7, .nt true, .eF c8, .eF c8, .nt false, .le (e_sl e_u8) a0.K, .lF c9, .eF c10, .eF c11, .eT c12, .nt true, .eF c13, .eF c14, .eF c15, .eT c16, .cl (ok_spec_NameOk a0.S _ hr17), .nt false] rfl fd_79 (by kernel_rfl)
                ·rcases ite_some h with ⟨c17, h⟩ | ⟨c17, h⟩
                 ·obtain ⟨r18, hr18, h⟩ := bs h
                  cases r18 with
                  | true =>
                   try dsimp only at h
                   obtain ⟨o20, ho20, h⟩ := bs h
                   rcases o20 with o20_0 | ⟨o20_1_0, o20_1_1⟩
                   · try dsimp only at h
                     obtain rfl := Option.some.inj h
                     exact call_wQ [.su a2 1, .lF c1, .lF c2, .lF c3, .lF c4, .cl (ok_spec_l6arity a0.Kind _ hr5), .gT c6, .le e_GExpr a0.Kids, .eT c7, .nt true, .eF c8, .eF c8, .nt false, .le (e_sl e_u8) a0.K, .lF c9, .eF c10, .eF c11, .eT c12, .nt true, .eF c13, .eF c14, .eF c15, .eF c16, .eT c17, .cl (ok_spec_l6free a0.S _ hr18), .nt true, .lp (gl_spec_l6expr_l0 G_spec_l6expr H_spec_l6expr a1 a0 _ (w64 (a2 - 1)) 0 _ ho20)] rfl fd_79 (by kernel_rfl)
                   · try dsimp only at h
                     obtain rfl := Option.some.inj h
                     exact call_wQ [.su a2 1, .lF c1, .lF c2, .lF c3, .lF c4, .cl (ok_spec_l6arity a0.Kind _ hr5), .gT c6, .le e_GExpr a0.Kids, .eT c7, .nt true, .eF c8, .eF c8, .nt false, .le (e_sl e_u8) a0.K, .lF c9, .eF c10, .eF c11, .eT c12, .nt true, .eF c13, .eF c14, .eF c15, .eF c16, .eT c17, .cl (ok_spec_l6free a0.S _ hr18), .nt true, .lp (gl_spec_l6expr_l0 G_spec_l6expr H_spec_l6expr a1 a0 _ (w64 (a2 - 1)) 0 _ ho20)] rfl fd_79 (by kernel_rfl)
                  | false =>
                   try dsimp only at h
                   obtain rfl := Option.some.inj h
                   exact call_wQ [.su a2 1, .lF c1, .lF c2, .lF c3, .lF c4, .cl (ok_spec_l6arity a0.Kind _ hr5), .gT c6, .le e_GExpr a0.Kids, .eT c7, .nt true, .eF c8, .eF c8, .nt false, .le (e_sl e_u8) a0.K, .lF c9, .eF c10, .eF c11, .eT c12, .nt true, .eF c13, .eF c14, .eF c15, .eF c16, .eT c17, .cl (ok_spec_l6free a0.S _ hr18), .nt false] rfl fd_79 (by kernel_rfl)
                 ·rcases ite_some h with ⟨c18, h⟩ | ⟨c18, h⟩
                  ·obtain rfl := Option.some.inj h
                   exact call_wQ [.su a2 1, .lF c1, .lF c2, .lF c3, .lF c4, .cl (ok_spec_l6arity a0.Kind _ hr5), .gT c6, .le e_GExpr a0.Kids, .eT c7, .nt true, .eF c8, .eF c8, .nt false, .le (e_sl e_u8) a0.K, .lF c9, .eF c10, .eF c11, .eT c12, .nt true, .eF c13, .eF c14, .eF c15, .eF c16, .eF c17, .le e_u8 a0.S, .lT c18] rfl fd_79 (by kernel_rfl)
                  ·obtain ⟨o19, ho19, h⟩ := bs h
                   rcases o19 with o19_0 | ⟨o19_1_0, o19_1_1⟩
                   · try dsimp only at h
                     obtain rfl := Option.some.inj h
                     exact call_wQ [.su a2 1, .lF c1, .lF c2, .lF c3, .lF c4, .cl (ok_spec_l6arity a0.Kind _ hr5), .gT c6, .le e_GExpr a0.Kids, .eT c7, .nt true, .eF c8, .eF c8, .nt false, .le (e_sl e_u8) a0.K, .lF c9, .eF c10, .eF c11, .eT c12, .nt true, .eF c13, .eF c14, .eF c15, .eF c16, .eF c17, .le e_u8 a0.S, .lF c18, .lp (gl_spec_l6expr_l0 G_spec_l6expr H_spec_l6expr a1 a0 _ (w64 (a2 - 1)) 0 _ ho19)] rfl fd_79 (by kernel_rfl)
                   · try dsimp only at h
                     obtain rfl := Option.some.inj h
                     exact call_wQ [.su a2 1, .lF c1, .lF c2, .lF c3, .lF c4, .cl (ok_spec_l6arity a0.Kind _ hr5), .gT c6, .le e_GExpr a0.Kids, .eT c7, .nt true, .eF c8, .eF c8, .nt false, .le (e_sl e_u8) a0.K, .lF c9, .eF c10, .eF c11, .eT c12, .nt true, .eF c13, .eF c14, .eF c15, .eF c16, .eF c17, .le e_u8 a0.S, .lF c18, .lp (gl_spec_l6expr_l0 G_spec_l6expr H_spec_l6expr a1 a0 _ (w64 (a2 - 1)) 0 _ ho19)] rfl fd_79 (by kernel_rfl)
            ·obtain rfl := Option.some.inj h
             exact call_wQ [.su a2 1, .lF c1, .lF c2, .lF c3, .lF c4, .cl (ok_spec_l6arity a0.Kind _ hr5), .gT c6, .le e_GExpr a0.Kids, .eT c7, .nt true, .eF c8, .eF c8, .nt false, .le (e_sl e_u8) a0.K, .lF c9, .eF c10, .eF c11, .eF c12, .nt false] rfl fd_79 (by kernel_rfl)
       ·obtain rfl := Option.some.inj h
        exact call_wQ [.su a2 1, .lF c1, .lF c2, .lF c3, .lF c4, .cl (ok_spec_l6arity a0.Kind _ hr5), .gT c6, .le e_GExpr a0.Kids, .eF c7, .nt false] rfl fd_79 (by kernel_rfl)
      ·rcases ite_some h with ⟨c7, h⟩ | ⟨c7, h⟩
       ·rcases ite_some h with ⟨c8, h⟩ | ⟨c8, h⟩
        ·rcases ite_some h with ⟨c9, h⟩ | ⟨c9, h⟩
         ·rcases ite_some h with ⟨c10, h⟩ | ⟨c10, h⟩
          ·obtain rfl := Option.some.inj h
           exact call_wQ [.su a2 1, .lF c1, .lF c2, .lF c3, .lF c4, .cl (ok_spec_l6arity a0.Kind _ hr5), .gF c6, .eT c7, .le (e_sl e_u8) a0.K, .le e_GExpr a0.Kids, .eT c8, .nt true, .eT c7, .nt true, .eFo a0.Kind 1 (by omega), .eFo a0.Kind 2 (by omega), .eT c9, .nt true, .eFo a0.Kind 3 (by omega), .eFo a0.Kind 6 (by omega), .eFo a0.Kind 8 (by omega), .eFo a0.Kind 23 (by omega), .eFo a0.Kind 7 (by omega), .le e_u8 a0.S, .lT c10] rfl fd_79 (by kernel_rfl)
          ·obtain ⟨o11, ho11, h⟩ := bs h
           rcases o11 with o11_0 | ⟨o11_1_0, o11_1_1⟩
           · try dsimp only at h
             obtain rfl := Option.some.inj h
             exact call_wQ [.su a2 1, .lF c1, .lF c2, .lF c3, .lF c4, .cl (ok_spec_l6arity a0.Kind _ hr5), .gF c6, .eT c7, .le (e_sl e_u8) a0.K, .le e_GExpr a0.Kids, .eT c8, .nt true, .eT c7, .nt true, .eFo a0.Kind 1 (by omega), .eFo a0.Kind 2 (by omega), .eT c9, .nt true, .eFo a0.Kind 3 (by omega), .eFo a0.Kind 6 (by omega), .eFo a0.Kind 8 (by omega), .eFo a0.Kind 23 (by omega), .eFo a0.Kind 7 (by omega), .le e_u8 a0.S, .lF c10, .lp (gl_spec_l6expr_l0 G_spec_l6expr H_spec_l6expr a1 a0 _ (w64 (a2 - 1)) 0 _ ho11)] rfl fd_79 (by kernel_rfl)
           · try dsimp only at h
             obtain rfl := Option.some.inj h
             exact call_wQ [.su a2 1, .lF c1, .lF c2, .lF c3, .lF c4, .cl (ok_spec_l6arity a0.Kind _ hr5), .gF c6, .eT c7, .le (e_sl e_u8) a0.K, .le e_GExpr a0.Kids, .eT c8, .nt true, .eT c7, .nt true, .eFo a0.Kind 1 (by omega), .eFo a0.Kind 2 (by omega), .eT c9, .nt true, .eFo a0.Kind 3 (by omega), .eFo a0.Kind 6 (by omega), .eFo a0.Kind 8 (by omega), .eFo a0.Kind 23 (by omega), .eFo a0.Kind 7 (by omega), .le e_u8 a0.S, .lF c10, .lp (gl_spec_l6expr_l0 G_spec_l6expr H_spec_l6expr a1 a0 _ (w64 (a2 - 1)) 0 _ ho11)] rfl fd_79 (by kernel_rfl)
         ·obtain rfl := Option.some.inj h
          exact call_wQ [.su a2 1, .lF c1, .lF c2, .lF c3, .lF c4, .cl (ok_spec_l6arity a0.Kind _ hr5), .gF c6, .eT c7, .le (e_sl e_u8) a0.K, .le e_GExpr a0.Kids, .eT c8, .nt true, .eT c7, .nt true, .eFo a0.Kind 1 (by omega), .eFo a0.Kind 2 (by omega), .eF c9, .nt false] rfl fd_79 (by kernel_rfl)
        ·obtain rfl := Option.some.inj h
         exact call_wQ [.su a2 1, .lF c1, .lF c2, .lF c3, .lF c4, .cl (ok_spec_l6arity a0.Kind _ hr5), .gF c6, .eT c7, .le (e_sl e_u8) a0.K, .le e_GExpr a0.Kids, .eF c8, .nt false] rfl fd_79 (by kernel_rfl)
       ·rcases ite_some h with ⟨c8, h⟩ | ⟨c8, h⟩
        ·obtain rfl := Option.some.inj h
         exact call_wQ [.su a2 1, .lF c1, .lF c2, .lF c3, .lF c4, .cl (ok_spec_l6arity a0.Kind _ hr5), .gF c6, .eF c7, .eF c7, .nt false, .le (e_sl e_u8) a0.K, .lT c8] rfl fd_79 (by kernel_rfl)
        ·rcases ite_some h with ⟨c9, h⟩ | ⟨c9, h⟩
         ·rcases ite_some h with ⟨c10, h⟩ | ⟨c10, h⟩
          ·obtain rfl := Option.some.inj h
           exact call_wQ [.su a2 1, .lF c1, .lF c2, .lF c3, .lF c4, .cl (ok_spec_l6arity a0.Kind _ hr5), .gF c6, .eF c7, .eF c7, .nt false, .le (e_sl e_u8) a0.K, .lF c8, .eT c9, .lT c10] rfl fd_79 (by kernel_rfl)
          ·rcases ite_some h with ⟨c11, h⟩ | ⟨c11, h⟩
           ·obtain rfl := Option.some.inj h
            exact call_wQ [.su a2 1, .lF c1, .lF c2, .lF c3, .lF c4, .cl (ok_spec_l6arity a0.Kind _ hr5), .gF c6, .eF c7, .eF c7, .nt false, .le (e_sl e_u8) a0.K, .lF c8, .eT c9, .lF c10, .lT c11] rfl fd_79 (by kernel_rfl)
           ·rcases ite_some h with ⟨c12, h⟩ | ⟨c12, h⟩
            ·obtain rfl := Option.some.inj h
             exact call_wQ [.su a2 1, .lF c1, .lF c2, .lF c3, .lF c4, .cl (ok_spec_l6arity a0.Kind _ hr5), .gF c6, .eF c7, .eF c7, .nt false, .le (e_sl e_u8) a0.K, .lF c8, .eT c9, .lF c10, .lF c11, .eFo a0.Kind 3 (by omega), .eFo a0.Kind 6 (by omega), .eFo a0.Kind 8 (by omega), .eFo a0.Kind 23 (by omega), .eFo a0.Kind 7 (by omega), .le e_u8 a0.S, .lT c12] rfl fd_79 (by kernel_rfl)
            ·obtain ⟨o13, ho13, h⟩ := bs h
             rcases o13 with o13_0 | ⟨o13_1_0, o13_1_1⟩
             · try dsimp only at h
               obtain rfl := Option.some.inj h
               exact call_wQ [.su a2 1, .lF c1, .lF c2, .lF c3, .lF c4, .cl (ok_spec_l6arity a0.Kind _ hr5), .gF c6, .eF c7, .eF c7, .nt false, .le (e_sl e_u8) a0.K, .lF c8, .eT c9, .lF c10, .lF c11, .eFo a0.Kind 3 (by omega), .eFo a0.Kind 6 (by omega), .eFo a0.Kind 8 (by omega), .eFo a0.Kind 23 (by omega), .eFo a0.Kind 7 (by omega), .le e_u8 a0.S, .lF c12, .lp (gl_spec_l6expr_l0 G_spec_l6expr H_spec_l6expr a1 a0 _ (w64 (a2 - 1)) 0 _ ho13)] rfl fd_79 (by kernel_rfl)
             · try dsimp only at h
               obtain rfl := Option.some.inj h
               exact call_wQ [.su a2 1, .lF c1, .lF c2, .lF c3, .lF c4, .cl (ok_spec_l6arity a0.Kind _ hr5), .gF c6, .eF c7, .eF c7, .nt false, .le (e_sl e_u8) a0.K, .lF c8, .eT c9, .lF c10, .lF c11, .eFo a0.Kind 3 (by omega), .eFo a0.Kind 6 (by omega), .eFo a0.Kind 8 (by omega), .eFo a0.Kind 23 (by omega), .eFo a0.Kind 7 (by omega), .le e_u8 a0.S, .lF c12, .lp (gl_spec_l6expr_l0 G_spec_l6expr H_spec_l6expr a1 a0 _ (w64 (a2 - 1)) 0 _ ho13)] rfl fd_79 (by kernel_rfl)
         ·rcases ite_some h with ⟨c10, h⟩ | ⟨c10, h⟩
          ·rcases ite_some h with ⟨c11, h⟩ | ⟨c11, h⟩
           ·obtain rfl := Option.some.inj h
            exact call_wQ [.su a2 1, .lF c1, .lF c2, .lF c3, .lF c4, .cl (ok_spec_l6arity a0.Kind _ hr5), .gF c6, .eF c7, .eF c7, .nt false, .le (e_sl e_u8) a0.K, .lF c8, .eF c9, .eT c10, .lT c11] rfl fd_79 (by kernel_rfl)
           ·rcases ite_some h with ⟨c12, h⟩ | ⟨c12, h⟩
            ·obtain rfl := Option.some.inj h
             exact call_wQ [.su a2 1, .lF c1, .lF c2, .lF c3, .lF c4, .cl (ok_spec_l6arity a0.Kind _ hr5), .gF c6, .eF c7, .eF c7, .nt false, .le (e_sl e_u8) a0.K, .lF c8, .eF c9, .eT c10, .lF c11, .lT c12] rfl fd_79 (by kernel_rfl)
            ·rcases ite_some h with ⟨c13, h⟩ | ⟨c13, h⟩
             ·obtain rfl := Option.some.inj h
              exact call_wQ [.su a2 1, .lF c1, .lF c2, .lF c3, .lF c4, .cl (ok_spec_l6arity a0.Kind _ hr5), .gF c6, .eF c7, .eF c7, .nt false, .le (e_sl e_u8) a0.K, .lF c8, .eF c9, .eT c10, .lF c11, .lF c12, .eFo a0.Kind 3 (by omega), .eFo a0.Kind 6 (by omega), .eFo a0.Kind 8 (by omega), .eFo a0.Kind 23 (by omega), .eFo a0.Kind 7 (by omega), .le e_u8 a0.S, .lT c13] rfl fd_79 (by kernel_rfl)
             ·obtain ⟨o14, ho14, h⟩ := bs h
              rcases o14 with o14_0 | ⟨o14_1_0, o14_1_1⟩
              · try dsimp only at h
                obtain rfl := Option.some.inj h
                exact call_wQ [.su a2 1, .lF c1, .lF c2, .lF c3, .lF c4, .cl (ok_spec_l6arity a0.Kind _ hr5), .gF c6, .eF c7, .eF c7, .nt false, .le (e_sl e_u8) a0.K, .lF c8, .eF c9, .eT c10, .lF c11, .lF c12, .eFo a0.Kind 3 (by omega), .eFo a0.Kind 6 (by omega), .eFo a0.Kind 8 (by omega), .eFo a0.Kind 23 (by omega), .eFo a0.Kind 7 (by omega), .le e_u8 a0.S, .lF c13, .lp (gl_spec_l6expr_l0 G_spec_l6expr H_spec_l6expr a1 a0 _ (w64 (a2 - 1)) 0 _ ho14)] rfl fd_79 (by kernel_rfl)
              · try dsimp only at h
                obtain rfl := Option.some.inj h
                exact call_wQ [.su a2 1, .lF c1, .lF c2, .lF c3, .lF c4, .cl (ok_spec_l6arity a0.Kind _ hr5), .gF c6, .eF c7, .eF c7, .nt false, .le (e_sl e_u8) a0.K, .lF c8, .eF c9, .eT c10, .lF c11, .lF c12, .eFo a0.Kind 3 (by omega), .eFo a0.Kind 6 (by omega), .eFo a0.Kind 8 (by omega), .eFo a0.Kind 23 (by omega), .eFo a0.Kind 7 (by omega), .le e_u8 a0.S, .lF c13, .lp (gl_spec_l6expr_l0 G_spec_l6expr H_spec_l6expr a1 a0 _ (w64 (a2 - 1)) 0 _ ho14)] rfl fd_79 (by kernel_rfl)
          ·rcases ite_some h with ⟨c11, h⟩ | ⟨c11, h⟩
           ·rcases ite_some h with ⟨c12, h⟩ | ⟨c12, h⟩
            ·obtain ⟨r13, hr13, h⟩ := bs h
             cases r13 with
             | true =>
              try dsimp only at h
              obtain ⟨o15, ho15, h⟩ := bs h
              rcases o15 with o15_0 | ⟨o15_1_0, o15_1_1⟩
              · try dsimp only at h
                obtain rfl := Option.some.inj h
                exact call_wQ [.su a2 1, .lF c1, .lF c2, .lF c3, .lF c4, .cl (ok_spec_l6arity a0.Kind _ hr5), .gF c6, .eF c7, .eF c7, .nt false, .le (e_sl e_u8) a0.K, .lF c8, .eF c9, .eF c10, .eT c11, .nt true, .eT c12, .cl (ok_spec_l2text a0.S _ hr13), .nt true, .lp (gl_spec_l6expr_l0 G_spec_l6expr H_spec_l6expr a1 a0 _ (w64 (a2 - 1)) 0 _ ho15)] rfl fd_79 (by kernel_rfl)
              · try dsimp only at h
                obtain rfl := Option.some.inj h
                exact call_wQ [.su a2 1, .lF c1, .lF c2, .lF c3, .lF c4, .cl (ok_spec_l6arity a0.Kind _ hr5), .gF c6, .eF c7, .eF c7, .nt false, .le (e_sl e_u8) a0.K, .lF c8, .eF c9, .eF c10, .eT c11, .nt true, .eT c12, .cl (ok_spec_l2text a0.S _ hr13), .nt true, .lp (gl_spec_l6expr_l0 G_spec_l6expr H_spec_l6expr a1 a0 _ (w64 (a2 - 1)) 0 _ ho15)] rfl fd_79 (by kernel_rfl)
             | false =>
              try dsimp only at h
              obtain rfl := Option.some.inj h
              exact call_wQ [.su a2 1, .lF c1, .lF c2, .lF c3, .lF c4, .cl (ok_spec_l6arity a0.Kind _ hr5), .gF c6, .eF c7, .eF c7, .nt false, .le (e_sl e_u8) a0.K, .lF c8, .eF c9, .eF c10, .eT c11, .nt true, .eT c12, .cl (ok_spec_l2text a0.S _ hr13), .nt false] rfl fd_79 (by kernel_rfl)
            ·rcases ite_some h with ⟨c13, h⟩ | ⟨c13, h⟩
             ·obtain ⟨r14, hr14, h⟩ := bs h
              cases r14 with
              | true =>
               try dsimp only at h
               obtain ⟨o16, ho16, h⟩ := bs h
               rcases o16 with o16_0 | ⟨o16_1_0, o16_1_1⟩
               · try dsimp only at h
                 obtain rfl := Option.some.inj h
                 exact call_wQ [.su a2 1, .lF c1, .lF c2, .lF c3, .lF c4, .cl (ok_spec_l6arity a0.Kind _ hr5), .gF c6, .eF c7, .eF c7, .nt false, .le (e_sl e_u8) a0.K, .lF c8, .eF c9, .eF c10, .eT c11, .nt true, .eF c12, .eT c13, .cl (ok_spec_NameOk a0.S _ hr14), .nt true, .eFo a0.Kind 23 (by omega), .lp (gl_spec_l6expr_l0 G_spec_l6expr H_spec_l6expr a1 a0 _ (w64 (a2 - 1)) 0 _ ho16)] rfl fd_79 (by kernel_rfl)
               · try dsimp only at h
                 obtain rfl := Option.some.inj h
                 exact call_wQ [.su a2 1, .lF c1, .lF c2, .lF c3, .lF c4, .cl (ok_spec_l6arity a0.Kind _ hr5), .gF c6, .eF c7, .eF c7, .nt false, .le (e_sl e_u8) a0.K, .lF c8, .eF c9, .eF c10, .eT c11, .nt true, .eF c12, .eT c13, .cl (ok_spec_NameOk a0.S _ hr14), .nt true, .eFo a0.Kind 23 (by omega), .lp (gl_spec_l6expr_l0 G_spec_l6expr H_spec_l6expr a1 a0 _ (w64 (a2 - 1)) 0 _ ho16)] rfl fd_79 (by kernel_rfl)
              | false =>
               try dsimp only at h
               obtain rfl := Option.some.inj h
               exact call_wQ [.su a2 1, .lF c1, .lF c2, .lF c3, .lF c4, .cl (ok_spec_l6arity a0.Kind _ hr5), .gF c6, .eF c7, .eF c7, .nt false, .le (e_sl e_u8) a0.K, .lF c8, .eF c9, .eF c10, .eT c11, .nt true, .eF c12, .eT c13, .cl (ok_spec_NameOk a0.S _ hr14), .nt false] rfl fd_79 (by kernel_rfl)
             ·rcases ite_some h with ⟨c14, h⟩ | ⟨c14, h⟩
              ·obtain ⟨r15, hr15, h⟩ := bs h
               cases r15 with
               | true =>
                try dsimp only at h
                obtain ⟨o17, ho17, h⟩ := bs h
                rcases o17 with o17_0 | ⟨o17_1_0, o17_1_1⟩
                · try dsimp only at h
                  obtain rfl := Option.some.inj h
                  exact call_wQ [.su a2 1, .lF c1, .lF c2, .lF c3, .lF c4, .cl (ok_spec_l6arity a0.Kind _ hr5), .gF c6, .eF c7, .eF c7, .nt false, .le (e_sl e_u8) a0.K, .lF c8, .eF c9, .eF c10, .eT c11, .nt true, .eF c12, .eF c13, .eT c14, .cl (ok_spec_NameOk a0.S _ hr15), .nt true, .eFo a0.Kind 23 (by omega), .lp (gl_spec_l6expr_l0 G_spec_l6expr H_spec_l6expr a1 a0 _ (w64 (a2 - 1)) 0 _ ho17)] rfl fd_79 (by kernel_rfl)
                · try dsimp only at h
                  obtain rfl := Option.some.inj h
                  exact call_wQ [.su a2 1, .lF c1, .lF c2, .lF c3, .lF c4, .cl (ok_spec_l6arity a0.Kind _ hr5), .gF c6, .eF c7, .eF c7, .nt false, .le (e_sl e_u8) a0.K, .lF c8, .eF c9, .eF c10, .eT c11, .nt true, .eF c12, .eF c13, .eT c14, .cl (ok_spec_NameOk a0.S _ hr15), .nt true, .eFo a0.Kind 23 (by omega), .lp (gl_spec_l6expr_l0 G_spec_l6expr H_spec_l6expr a1 a0 _ (w64 (a2 - 1)) 0 _ ho17)] rfl fd_79 (by kernel_rfl)
               | false =>
                try dsimp only at h
                obtain rfl := Option.some.inj h
                exact call_wQ [.su a2 1, .lF c1, .lF c2, .lF c3, .lF c4, .cl (ok_spec_l6arity a0.Kind _ hr5), .gF c6, .eF c7, .eF c7, .nt false, .le (e_sl e_u8) a0.K, .lF c8, .eF c9, .eF c10, .eT c11, .nt true, .eF c12, .eF c13, .eT c14, .cl (ok_spec_NameOk a0.S _ hr15), .nt false] rfl fd_79 (by kernel_rfl)
              ·rcases ite_some h with ⟨c15, h⟩ | ⟨c15, h⟩
               ·obtain ⟨r16, hr16, h⟩ := bs h
                cases r16 with
                | true =>
                 try dsimp only at h
                 obtain ⟨r18, hr18, h⟩ := bs h
                 cases r18 with
                 | true =>
                  try dsimp only at h
                  obtain rfl := Option.some.inj h
                  exact call_wQ [.su a2 1, .lF c1, .lF c2, .lF c3, .lF c4, .cl (ok_spec_l6arity a0.Kind _ hr5), .gF c6, .eF c7, .eF c7, .nt false, .le (e_sl e_u8) a0.K, .lF c8, .eF c9, .eF c10, .eT c11, .nt true, .eF c12, .eF c13, .eF c14, .eT c15, .cl (ok_spec_NameOk a0.S _ hr16), .nt true, .eT c15, .cl (ok_spec_l6kept a0.S _ hr18)] rfl fd_79 (by kernel_rfl)
                 | false =>
                  try dsimp only at h
                  obtain ⟨o20, ho20, h⟩ := bs h
                  rcases o20 with o20_0 | ⟨o20_1_0, o20_1_1⟩
                  · try dsimp only at h
                    obtain rfl := Option.some.inj h
                    exact call_wQ [.su a2 1, .lF c1, .lF c2, .lF c3, .lF c4, .cl (ok_spec_l6arity a0.Kind _ hr5), .gF c6, .eF c7, .eF c7, .nt false, .le (e_sl e_u8) a0.K, .lF c8, .eF c9, .eF c10, .eT c11, .nt true, .eF c12, .eF c13, .eF c14, .eT c15, .cl (ok_spec_NameOk a0.S _ hr16), .nt true, .eT c15, .cl (ok_spec_l6kept a0.S _ hr18), .lp (gl_spec_l6expr_l0 G_spec_l6expr H_spec_l6expr a1 a0 _ (w64 (a2 - 1)) 0 _ ho20)] rfl fd_79 (by kernel_rfl)
                  · try dsimp only at h
                    obtain rfl := Option.some.inj h
                    exact call_wQ [.su a2 1, .lF c1, .lF c2, .lF c3, .lF c4, .cl (ok_spec_l6arity a0.Kind _ hr5), .gF c6, .eF c7, .eF c7, .nt false, .le (e_sl e_u8) a0.K, .lF c8, .eF c9, .eF c10, .eT c11, .nt true, .eF c12, .eF c13, .eF c14, .eT c15, .cl (ok_spec_NameOk a0.S _ hr16), .nt true, .eT c15, .cl (ok_spec_l6kept a0.S _ hr18), .lp (gl_spec_l6expr_l0 G_spec_l6expr H_spec_l6expr a1 a0 _ (w64 (a2 - 1)) 0 _ ho20)] rfl fd_79 (by kernel_rfl)
                | false =>
                 try dsimp only at h
                 obtain rfl := Option.some.inj h
                 exact call_wQ [.su a2 1, .lF c1, .lF c2, .lF c3, .lF c4, .cl (ok_spec_l6arity a0.Kind _ hr5), .gF c6, .eF c7, .eF c7, .nt false, .le (e_sl e_u8) a0.K, .lF c8, .eF c9, .eF c10, .eT c11, .nt true, .eF c12, .eF c13, .eF c14, .eT c15, .cl (ok_spec_NameOk a0.S _ hr16), .nt false] rfl fd_79 (by kernel_rfl)
               ·rcases ite_some h with ⟨c16, h⟩ | ⟨c16, h⟩
                ·obtain ⟨r17, hr17, h⟩ := bs h
                 cases r17 with
                 | true =>
                  try dsimp only at h
                  obtain ⟨o19, ho19, h⟩ := bs h
                  rcases o19 with o19_0 | ⟨o19_1_0, o19_1_1⟩
                  · try dsimp only at h
                    obtain rfl := Option.some.inj h
                    exact call_wQ [.su a2 1, .lF c1, .lF c2, .lF c3, .lF c4, .cl (ok_spec_l6arity a0.Kind _ hr5), .gF c6, .eF c7, .eF c7, .nt false, .le (e_sl e_u8) a0.K, .lF c8, .eF c9, .eF c10, .eT c11, .nt true, .eF c12, .eF c13, .eF c14, .eF c15, .eT c16, .cl (ok_spec_l6free a0.S _ hr17), .nt true, .lp (gl_spec_l6expr_l0 G_spec_l6expr H_spec_l6expr a1 a0 _ (w64 (a2 - 1)) 0 _ ho19)] rfl fd_79 (by kernel_rfl)
                  · try dsimp only at h
                    obtain rfl := Option.some.inj h
                    exact call_wQ [.su a2 1, .lF c1, .lF c2, .lF c3, .lF c4, .cl (ok_spec_l6arity a0.Kind _ hr5), .gF c6, .eF c7, .eF c7, .nt false, .le (e_sl e_u8) a0.K, .lF c8, .eF c9, .eF c10, .eT c11, .nt true, .eF c12, .eF c13, .eF c14, .eF c15, .eT c16, .cl (ok_spec_l6free a0.S _ hr17), .nt true, .lp (gl_spec_l6expr_l0 G_spec_l6expr H_spec_l6expr a1 a0 _ (w64 (a2 - 1)) 0 _ ho19)] rfl fd_79 (by kernel_rfl)
                 | false =>
                  try dsimp only at h
                  obtain rfl := Option.some.inj h
                  exact call_wQ [.su a2 1, .lF c1, .lF c2, .lF c3, .lF c4, .cl (ok_spec_l6arity a0.Kind _ hr5), .gF c6, .eF c7, .eF c7, .nt false, .le (e_sl e_u8) a0.K, .lF c8, .eF c9, .eF c10, .eT c11, .nt true, .eF c12, .eF c13, .eF c14, .eF c15, .eT c16, .cl (ok_spec_l6free a0.S _ hr17), .nt false] rfl fd_79 (by kernel_rfl)
                ·rcases ite_some h with ⟨c17, h⟩ | ⟨c17, h⟩
                 ·obtain rfl := Option.some.inj h
                  exact call_wQ [.su a2 1, .lF c1, .lF c2, .lF c3, .lF c4, .cl (ok_spec_l6arity a0.Kind _ hr5), .gF c6, .eF c7, .eF c7, .nt false, .le (e_sl e_u8) a0.K, .lF c8, .eF c9, .eF c10, .eT c11, .nt true, .eF c12, .eF c13, .eF c14, .eF c15, .eF c16, .le e_u8 a0.S, .lT c17] rfl fd_79 (by kernel_rfl)
                 ·obtain ⟨o18, ho18, h⟩ := bs h
                  rcases o18 with o18_0 | ⟨o18_1_0, o18_1_1⟩
                  · try dsimp only at h
                    obtain rfl := Option.some.inj h
                    exact call_wQ [.su a2 1, .lF c1, .lF c2, .lF c3, .lF c4, .cl (ok_spec_l6arity a0.Kind _ hr5), .gF c6, .eF c7, .eF c7, .nt false, .le (e_sl e_u8) a0.K, .lF c8, .eF c9, .eF c10, .eT c11, .nt true, .eF c12, .eF c13, .eF c14, .eF c15, .eF c16, .le e_u8 a0.S, .lF c17, .lp (gl_spec_l6expr_l0 G_spec_l6expr H_spec_l6expr a1 a0 _ (w64 (a2 - 1)) 0 _ ho18)] rfl fd_79 (by kernel_rfl)
                  · try dsimp only at h
                    obtain rfl := Option.some.inj h
                    exact call_wQ [.su a2 1, .lF c1, .lF c2, .lF c3, .lF c4, .cl (ok_spec_l6arity a0.Kind _ hr5), .gF c6, .eF c7, .eF c7, .nt false, .le (e_sl e_u8) a0.K, .lF c8, .eF c9, .eF c10, .eT c11, .nt true, .eF c12, .eF c13, .eF c14, .eF c15, .eF c16, .le e_u8 a0.S, .lF c17, .lp (gl_spec_l6expr_l0 G_spec_l6expr H_spec_l6expr a1 a0 _ (w64 (a2 - 1)) 0 _ ho18)] rfl fd_79 (by kernel_rfl)
           ·obtain rfl := Option.some.inj h
            exact call_wQ [.su a2 1, .lF c1, .lF c2, .lF c3, .lF c4, .cl (ok_spec_l6arity a0.Kind _ hr5), .gF c6, .eF c7, .eF c7, .nt false, .le (e_sl e_u8) a0.K, .lF c8, .eF c9, .eF c10, .eF c11, .nt false] rfl fd_79 (by kernel_rfl)

def U_spec_l6expr : Nat → GExpr → Int → Int → Option Int
  | 0, _, _, _ => none
  | n + 1, a0, a1, a2 => T_spec_l6expr (U_spec_l6expr n) n a0 a1 a2
theorem rec_spec_l6expr (n : Nat) : (∀ (a0 : GExpr) (a1 : Int) (a2 : Int) (r : Int), U_spec_l6expr n a0 a1 a2 = some r → (mach cfg).call 79 [] [.val true [.int .i64 a0.Kind, .int .i64 a0.N, .seq (eL e_u8 a0.S), .seq (eL (e_sl e_u8) a0.K), .seq (eL e_GExpr a0.Kids)], .val false [.int .i64 a1], .val false [.int .i64 a2]] = some (.val false [.int .i64 r], [])) := by
  induction n with
  | zero => exact fun _ _ _ _ h => (by rw [U_spec_l6expr] at h; cases h)
  | succ n ih =>
    have ih_spec_l6expr := ih
    exact fun a0 a1 a2 r h => g_spec_l6expr (U_spec_l6expr n) ih_spec_l6expr n a0 a1 a2 r (by rw [U_spec_l6expr] at h; exact h)
/-- What is left of so many parts behind an expression. -/
noncomputable def okX (d : Nat) (left : Int) (v : GExpr) : Int := if frX d v = true ∧ (ptX v : Int) ≤ left then left - ptX v else -1
theorem arity_eq (k : Int) : S_spec_l6arity k = some (arI k) := by
  have h := arI_all k
  have hd : Dec (some (arI k)) none True (S_spec_l6arity k) := by
    unfold S_spec_l6arity
    repeat' (refine Dec.ite (fun _ => ?_) (fun _ => ?_))
    all_goals (refine .inl ⟨?_, trivial⟩; congr 1; omega)
  rcases hd with h | h
  · exact h.1
  · exact (h.2 trivial).elim
theorem nameOk_eq {a : List UInt8} (h : a.length ≤ 2 ^ 20) : S_spec_NameOk a = some (nameB a) := if_pos h
theorem l2text_eq {a : List UInt8} (h : a.length ≤ 2 ^ 20) : S_spec_l2text a = some (textB a) := if_pos h
theorem l6kept_eq (a : List UInt8) : S_spec_l6kept a = some (keptB a) := rfl
theorem l6free_eq {a : List UInt8} (h : a.length ≤ 2 ^ 20) : S_spec_l6free a = some (nameB a && !keptB a) := by
  unfold S_spec_l6free
  rw [nameOk_eq h, Option.bind_some]
  cases nameB a <;> rfl
theorem l6expr_loop {G : GExpr → Int → Int → Option Int} {v : GExpr} {dd : Nat} {deep : Int} (hdd : deep + dd = 10) (h1d : 1 ≤ deep) (hs : xsz v ≤ 2 ^ 20) (hk : ¬ v.Kind = 5 ∨ (v.Kind = 5 ∧ v.K.length = v.Kids.length))
    (hG : ∀ x ∈ v.Kids, ∀ r : Int, 0 ≤ r → r ≤ 150 → G x (deep + 1) r = some (okX dd r x)) : ∀ (d i m : Nat) (r : Int), i + d = v.Kids.length → d < m → 0 ≤ r → r ≤ 150 →
    ∃ z, L_spec_l6expr_l0 G deep v m r (i : Int) = some (if ((v.Kind = 5 → kAll v.K i d = true) ∧ (v.Kids.drop i).all (frX dd) = true) ∧ (ptXs (v.Kids.drop i) : Int) ≤ r then .inr (r - ptXs (v.Kids.drop i), z) else .inl (-1)) := by
  have he := xsz_eq v
  have hl := xszs_len v.Kids
  intro d
  induction d with
  | zero =>
    intro i m r hi hm h0 h1
    obtain ⟨m, rfl, _⟩ := fuel hm
    refine ⟨(i : Int), ?_⟩
    rw [L_spec_l6expr_l0, if_neg (by omega), List.drop_eq_nil_of_le (by omega), if_pos ⟨⟨fun _ => rfl, rfl⟩, by simpa [ptXs] using h0⟩]
    simp [ptXs]
  | succ d ih =>
    intro i m r hi hm h0 h1
    obtain ⟨m, rfl, hm'⟩ := fuel hm
    have hil : i < v.Kids.length := by omega
    have hp : ptXs (v.Kids.drop i) = ptX v.Kids[i] + ptXs (v.Kids.drop (i + 1)) := by rw [drop_cons hil]; simp only [ptXs]
    have ha : (v.Kids.drop i).all (frX dd) = (frX dd v.Kids[i] && (v.Kids.drop (i + 1)).all (frX dd)) := by rw [drop_cons hil, List.all_cons]
    have hd1 : w64 (deep + 1) = deep + 1 := w64_id (by omega) (by omega)
    have tail : (v.Kind = 5 → kOk v.K i = true) → ∃ z, ((G v.Kids[i] (w64 (deep + 1)) r).bind fun r12 => if r12 < 0 then some (.inl (-1)) else L_spec_l6expr_l0 G deep v m r12 (w64 ((i : Int) + 1))) =
        some (if ((v.Kind = 5 → kAll v.K i (d + 1) = true) ∧ (v.Kids.drop i).all (frX dd) = true) ∧ (ptXs (v.Kids.drop i) : Int) ≤ r then .inr (r - ptXs (v.Kids.drop i), z) else .inl (-1)) := by
      intro hki
      rw [hd1, hG _ (List.getElem_mem hil) r h0 h1, Option.bind_some, w64_succ (by omega), hp, ha]
      unfold okX
      by_cases hc : frX dd v.Kids[i] = true ∧ (ptX v.Kids[i] : Int) ≤ r
      · rw [if_pos hc, if_neg (by omega)]
        obtain ⟨z, hz⟩ := ih (i + 1) m (r - ptX v.Kids[i]) (by omega) (by omega) (by omega) (by omega)
        refine ⟨z, ?_⟩
        rw [hz, hc.1, Bool.true_and]
        have hcond : (((v.Kind = 5 → kAll v.K (i + 1) d = true) ∧ (v.Kids.drop (i + 1)).all (frX dd) = true) ∧ (ptXs (v.Kids.drop (i + 1)) : Int) ≤ r - ptX v.Kids[i]) ↔
            (((v.Kind = 5 → kAll v.K i (d + 1) = true) ∧ (v.Kids.drop (i + 1)).all (frX dd) = true) ∧ ((ptX v.Kids[i] + ptXs (v.Kids.drop (i + 1)) : Nat) : Int) ≤ r) := by
          have hka : (v.Kind = 5 → kAll v.K (i + 1) d = true) ↔ (v.Kind = 5 → kAll v.K i (d + 1) = true) := by
            constructor
            · intro h hk; rw [kAll_succ, hki hk, h hk]; rfl
            · intro h hk; have := h hk; rw [kAll_succ, hki hk, Bool.true_and] at this; exact this
          rw [hka]
          constructor
          · rintro ⟨h1, h2⟩; exact ⟨h1, by omega⟩
          · rintro ⟨h1, h2⟩; exact ⟨h1, by omega⟩
        by_cases hd : ((v.Kind = 5 → kAll v.K (i + 1) d = true) ∧ (v.Kids.drop (i + 1)).all (frX dd) = true) ∧ (ptXs (v.Kids.drop (i + 1)) : Int) ≤ r - ptX v.Kids[i]
        · rw [if_pos hd, if_pos (hcond.1 hd)]; congr 3; omega
        · rw [if_neg hd, if_neg (fun h => hd (hcond.2 h))]
      · refine ⟨0, ?_⟩
        rw [if_neg hc, if_pos (by omega), if_neg]
        rintro ⟨⟨_, h2⟩, h3⟩
        rw [Bool.and_eq_true] at h2
        exact hc ⟨h2.1, by omega⟩
    have bad : v.Kind = 5 → kOk v.K i = false → ∃ z, (some (.inl (-1)) : Option (Int ⊕ (Int × Int))) = some (if ((v.Kind = 5 → kAll v.K i (d + 1) = true) ∧ (v.Kids.drop i).all (frX dd) = true) ∧ (ptXs (v.Kids.drop i) : Int) ≤ r then .inr (r - ptXs (v.Kids.drop i), z) else .inl (-1)) := by
      intro hk hki
      refine ⟨0, ?_⟩
      rw [if_neg]
      rintro ⟨⟨h1, _⟩, _⟩
      have := h1 hk
      rw [kAll_succ, hki] at this
      cases this
    rw [L_spec_l6expr_l0, if_pos (by omega)]
    rcases hk with hk | ⟨hk, hkl⟩
    · rw [if_neg hk, natO_nat, Option.bind_some, get_some hil, Option.bind_some]
      exact tail fun h => (hk h).elim
    · have hik : i < v.K.length := by omega
      have hx := bsz_mem (List.getElem_mem hik)
      rw [if_pos hk, natO_nat, Option.bind_some, get_some hik, Option.bind_some, nameOk_eq (by omega), Option.bind_some]
      cases hnm : nameB v.K[i] with
      | false =>
        dsimp only
        refine bad hk ?_
        by_cases h0 : i = 0
        · subst h0; rw [kOk_zero hik, hnm]
        · rw [kOk_eq hik (by omega), hnm]; rfl
      | true =>
        dsimp only
        by_cases h0 : 0 < i
        · rw [if_pos (by omega), w64_pred (by omega) h0, natO_nat, Option.bind_some, get_some (show i - 1 < v.K.length by omega), Option.bind_some]
          by_cases hb : Op.bytesLess (v.K[i - 1]'(by omega)) v.K[i] = true
          · rw [if_pos hb, get_some hil, Option.bind_some]
            exact tail fun _ => by rw [kOk_eq hik h0, hnm, hb]; rfl
          · rw [if_neg hb]
            refine bad hk ?_
            rw [kOk_eq hik h0, hnm]; simpa using hb
        · have : i = 0 := by omega
          subst this
          rw [if_neg (by omega), get_some hil, Option.bind_some]
          exact tail fun _ => by rw [kOk_zero hik, hnm]
theorem l6expr_dec {G : GExpr → Int → Int → Option Int} {v : GExpr} {n : Nat} {a1 a2 : Int} {X : Option Int} (hs : v.S.length ≤ 2 ^ 20) (h1 : ¬ w64 (a2 - 1) < 0) (h2 : ¬ 10 < a1)
    (hX : ((L_spec_l6expr_l0 G a1 v n (w64 (a2 - 1)) 0).bind fun o11 => match o11 with | .inl o11_0 => some o11_0 | .inr (⟨o11_1_0, o11_1_1⟩) => some o11_1_0) = X) : Dec X (some (-1)) (LocX v) (T_spec_l6expr G n v a1 a2) := by
  have har := arI_all v.Kind
  have hw := bi_and (nameB v.S) (keptB v.S)
  unfold T_spec_l6expr
  rw [if_neg h1, if_neg h2]
  repeat' first
    | refine Dec.ite (fun _ => ?_) (fun _ => ?_)
    | refine Dec.bnd (arity_eq _) ?_
    | refine Dec.bndB (l2text_eq hs) (fun _ => ?_) (fun _ => ?_)
    | refine Dec.bndB (nameOk_eq hs) (fun _ => ?_) (fun _ => ?_)
    | refine Dec.bndB (l6free_eq hs) (fun _ => ?_) (fun _ => ?_)
    | refine Dec.bndB (l6kept_eq _) (fun _ => ?_) (fun _ => ?_)
  all_goals first
    | exact .inl ⟨hX, by unfold LocX LocA; omega⟩
    | exact .inr ⟨rfl, by unfold LocX LocA; omega⟩
theorem frX_succ (d : Nat) (v : GExpr) : frX (d + 1) v = (locX v && v.Kids.all (frX d)) := rfl
open Classical in
theorem locX_false {v : GExpr} (h : ¬ LocX v) : locX v = false := by unfold locX; rw [decide_eq_false (fun h' => h h'.1)]; rfl
open Classical in
theorem locX_true {v : GExpr} (h : LocX v) (hk : v.Kids.length ≤ 150) (h5 : v.Kind = 5 → kAll v.K 0 v.K.length = true) : locX v = true := by
  unfold locX
  rw [decide_eq_true ⟨h, hk⟩, Bool.true_and]
  by_cases k : v.Kind = 5
  · rw [h5 k, Bool.or_true]
  · rw [decide_eq_true k, Bool.true_or]
open Classical in
theorem locX_inv {v : GExpr} (h : locX v = true) : LocX v ∧ v.Kids.length ≤ 150 ∧ (v.Kind = 5 → kAll v.K 0 v.K.length = true) := by
  unfold locX at h
  rw [Bool.and_eq_true] at h
  have h1 := of_decide_eq_true h.1
  refine ⟨h1.1, h1.2, fun k => ?_⟩
  have h2 := h.2
  rw [decide_eq_false (fun hh => hh k), Bool.false_or] at h2
  exact h2
theorem l6expr_T {G : GExpr → Int → Int → Option Int} {v : GExpr} {f dd : Nat} {deep left : Int} (hdd : deep + dd = 10 ∨ (deep = 11 ∧ dd = 0)) (h1d : 1 ≤ deep) (hs : xsz v ≤ 2 ^ 20) (hf : v.Kids.length < f) (h0 : 0 ≤ left) (h1 : left ≤ 150)
    (hG : deep ≤ 10 → ∀ x ∈ v.Kids, ∀ r : Int, 0 ≤ r → r ≤ 150 → G x (deep + 1) r = some (okX dd r x)) : T_spec_l6expr G f v deep left = some (okX (if deep ≤ 10 then dd + 1 else 0) left v) := by
  have he := xsz_eq v
  have hl := xszs_len v.Kids
  have hpt := ptX_eq v
  have hpl := ptXs_len v.Kids
  have hw : w64 (left - 1) = left - 1 := w64_id (by omega) (by omega)
  by_cases hleft : left - 1 < 0
  · unfold T_spec_l6expr
    rw [hw, if_pos hleft]
    unfold okX; rw [if_neg (by rintro ⟨_, h⟩; omega)]
  by_cases hdeep : 10 < deep
  · unfold T_spec_l6expr
    rw [hw, if_neg hleft, if_pos hdeep, if_neg (show ¬ deep ≤ 10 by omega)]
    unfold okX; rw [if_neg (by rintro ⟨h, _⟩; simp [frX] at h)]
  rw [if_pos (show deep ≤ 10 by omega)]
  have hdd : deep + dd = 10 := by omega
  have hG := hG (by omega)
  rcases l6expr_dec (G := G) (n := f) (v := v) (a1 := deep) (a2 := left) (by omega) (by rw [hw]; exact hleft) hdeep rfl with ⟨h, hL⟩ | ⟨h, hL⟩
  · rw [h, hw]
    have hk : ¬ v.Kind = 5 ∨ (v.Kind = 5 ∧ v.K.length = v.Kids.length) := by
      have := hL.2.2.1
      omega
    obtain ⟨z, hz⟩ := l6expr_loop (G := G) hdd h1d hs hk hG v.Kids.length 0 f (left - 1) (by omega) (by omega) (by omega) (by omega)
    rw [show ((0 : Nat) : Int) = 0 from rfl, List.drop_zero] at hz
    rw [hz, Option.bind_some]
    by_cases hc : ((v.Kind = 5 → kAll v.K 0 v.Kids.length = true) ∧ v.Kids.all (frX dd) = true) ∧ (ptXs v.Kids : Int) ≤ left - 1
    · have h2 : okX (dd + 1) left v = left - ptX v := if_pos ⟨by rw [frX_succ, locX_true hL (by omega) (fun k => by have := hc.1.1 k; rw [show v.K.length = v.Kids.length by omega]; exact this), hc.1.2]; rfl, by omega⟩
      rw [if_pos hc, h2, hpt]
      dsimp only
      congr 1; omega
    · have h2 : okX (dd + 1) left v = -1 := if_neg (by
        rintro ⟨h2, h3⟩
        rw [frX_succ, Bool.and_eq_true] at h2
        have hi := locX_inv h2.1
        exact hc ⟨⟨fun k => by have := hi.2.2 k; rw [show v.K.length = v.Kids.length by omega] at this; exact this, h2.2⟩, by omega⟩)
      rw [if_neg hc, h2]
  · rw [h]
    have h2 : okX (dd + 1) left v = -1 := if_neg (by
      rintro ⟨h2, _⟩
      rw [frX_succ, locX_false hL] at h2
      cases h2)
    rw [h2]
theorem l6expr_U : ∀ (N : Nat) (v : GExpr), xsz v < N → xsz v ≤ 2 ^ 20 → ∀ (f : Nat) (deep left : Int), xsz v + 2 ≤ f → 1 ≤ deep → deep ≤ 11 → 0 ≤ left → left ≤ 150 → U_spec_l6expr f v deep left = some (okX (11 - deep).toNat left v) := by
  intro N
  induction N with
  | zero => intro v hv; omega
  | succ N ih =>
    intro v hv hs f deep left hf h1 h2 h3 h4
    obtain ⟨f, rfl, _⟩ := fuel (show 0 < f by omega)
    have he := xsz_eq v
    have hl := xszs_len v.Kids
    rw [U_spec_l6expr]
    have := l6expr_T (G := U_spec_l6expr f) (f := f) (dd := (10 - deep).toNat) (deep := deep) (left := left) (v := v) (by omega) h1 hs (by omega) h3 h4 fun hd x hx r g0 g1 => by
      have hm := xszs_mem hx
      have := ih x (by omega) (by omega) f (deep + 1) r (by omega) (by omega) (by omega) g0 g1
      rw [show (11 - (deep + 1)).toNat = (10 - deep).toNat by omega] at this
      exact this
    rw [this]
    congr 2
    by_cases hd : deep ≤ 10
    · rw [if_pos hd]; omega
    · rw [if_neg hd]; omega
noncomputable def S_spec_l6expr (a0 : GExpr) (a1 : Int) (a2 : Int) : Option Int := if xsz a0 ≤ 2 ^ 20 ∧ (1 ≤ a1 ∧ a1 ≤ 11) ∧ 0 ≤ a2 ∧ a2 ≤ 150 then some (okX (11 - a1).toNat a2 a0) else none
theorem spec_spec_l6expr (a0 : GExpr) (a1 : Int) (a2 : Int) (r : Int) (h : S_spec_l6expr a0 a1 a2 = some r) : ∃ n, U_spec_l6expr n a0 a1 a2 = some r := by
  unfold S_spec_l6expr at h
  obtain ⟨⟨hs, ⟨h1, h2⟩, h3, h4⟩, h⟩ := need_c h
  exact ⟨xsz a0 + 2, by rw [← h]; exact l6expr_U _ a0 (Nat.lt_succ_self _) hs _ a1 a2 (Nat.le_refl _) h1 h2 h3 h4⟩
theorem ok_spec_l6expr (a0 : GExpr) (a1 : Int) (a2 : Int) (r : Int) (h : S_spec_l6expr a0 a1 a2 = some r) : (mach cfg).call 79 [] [.val true [.int .i64 a0.Kind, .int .i64 a0.N, .seq (eL e_u8 a0.S), .seq (eL (e_sl e_u8) a0.K), .seq (eL e_GExpr a0.Kids)], .val false [.int .i64 a1], .val false [.int .i64 a2]] = some (.val false [.int .i64 r], []) := by
  obtain ⟨n, hn⟩ := spec_spec_l6expr a0 a1 a2 r h
  exact (rec_spec_l6expr n) a0 a1 a2 r hn
def S_spec_ExprOk (a0 : GExpr) : Option Bool :=
  (S_spec_l6expr a0 1 150).bind fun r1 =>
  some (decide (0 ≤ r1))

set_option maxRecDepth 100000 in
theorem fd_53 : cfg.funcs 53 = some (bodyOf Try.f53, Try.f53.ntmps, Try.f53.results.toList) := fn_of Try.func53 (by kernel_rfl) (by kernel_rfl)
theorem ok_spec_ExprOk (a0 : GExpr) (r : Bool) (h : S_spec_ExprOk a0 = some r) : (mach cfg).call 53 [] [.val true [.int .i64 a0.Kind, .int .i64 a0.N, .seq (eL e_u8 a0.S), .seq (eL (e_sl e_u8) a0.K), .seq (eL e_GExpr a0.Kids)]] = some (.val false [.bool r], []) := by
  unfold S_spec_ExprOk at h
  obtain ⟨r1, hr1, h⟩ := bs h
  obtain rfl := Option.some.inj h
  exact call_wQ [.cl (ok_spec_l6expr a0 1 150 _ hr1), .gD 0 r1] rfl fd_53 (by kernel_rfl)

def L_spec_l7rename_l0 (G_spec_l7rename : GExpr → (List UInt8) → (List UInt8) → Option GExpr) (a1 : (List UInt8)) (a2 : (List UInt8)) (a0 : GExpr) (v4 : Int) (v5 : Int) (v6 : Int) (v7 : Int) (v8 : (List UInt8)) (v9 : (List (List UInt8))) (v10 : (List UInt8)) (v11 : (List (List UInt8))) (v12 : (List GExpr)) : Nat → Int → (List GExpr) → Option (Int × (List GExpr))
  | 0, _, _ => none
  | m + 1, v2, v13 =>
    if v2 < ((a0.Kids.length : Nat) : Int) then
      (natO v2).bind fun i2 =>
      (a0.Kids[i2]?).bind fun x3 =>
      (G_spec_l7rename x3 a1 a2).bind fun r4 =>
      if roomP 88 (v13.length + [r4].length) then
      L_spec_l7rename_l0 G_spec_l7rename a1 a2 a0 v4 v5 v6 v7 v8 v9 v10 v11 v12 m (w64 (v2 + 1)) (v13 ++ [r4])
      else none
    else
      some (v2, v13)

theorem gl_spec_l7rename_l0 (G_spec_l7rename : GExpr → (List UInt8) → (List UInt8) → Option GExpr) (H_spec_l7rename : ∀ (a0 : GExpr) (a1 : (List UInt8)) (a2 : (List UInt8)) (r : GExpr), G_spec_l7rename a0 a1 a2 = some r → (mach cfg).call 55 [] [.val true [.int .i64 a0.Kind, .int .i64 a0.N, .seq (eL e_u8 a0.S), .seq (eL (e_sl e_u8) a0.K), .seq (eL e_GExpr a0.Kids)], .val false [.seq (eL e_u8 a1)], .val false [.seq (eL e_u8 a2)]] = some (.val true [.int .i64 r.Kind, .int .i64 r.N, .seq (eL e_u8 r.S), .seq (eL (e_sl e_u8) r.K), .seq (eL e_GExpr r.Kids)], [])) (a1 : (List UInt8)) (a2 : (List UInt8)) (a0 : GExpr) (v4 : Int) (v5 : Int) (v6 : Int) (v7 : Int) (v8 : (List UInt8)) (v9 : (List (List UInt8))) (v10 : (List UInt8)) (v11 : (List (List UInt8))) (v12 : (List GExpr)) (m : Nat) : ∀ (v2 : Int) (v13 : (List GExpr)) (o : (Int × (List GExpr))), L_spec_l7rename_l0 G_spec_l7rename a1 a2 a0 v4 v5 v6 v7 v8 v9 v10 v11 v12 m v2 v13 = some o → (mach cfg).loop 55 (loopB Try.f55 0) ⟨[(1, .val false [.seq (eL e_u8 a1)]), (2, .val false [.seq (eL e_u8 a2)]), (3, .val false [.ptr 0 0]), (6, .val false [.ptr 1 0]), (7, .val false [.ptr 2 0]), (8, .val false [.int .i64 v2])], [.var [.int .i64 a0.Kind, .int .i64 a0.N, .seq (eL e_u8 a0.S), .seq (eL (e_sl e_u8) a0.K), .seq (eL e_GExpr a0.Kids)], .var [.int .i64 v4, .int .i64 v5, .ref 3, .ref 4, .ref 5], .var [.int .i64 v6, .int .i64 v7, .seq (eL e_u8 v8), .seq (eL (e_sl e_u8) v9), .ref 6], .obj 1 (eL e_u8 v10), .obj 1 (eL (e_sl e_u8) v11), .obj 5 (eL e_GExpr v12), .obj 5 (eL e_GExpr v13)], 0⟩ = some (match o with | ⟨o_0, o_1⟩ => (.exit 0, (⟨[(1, .val false [.seq (eL e_u8 a1)]), (2, .val false [.seq (eL e_u8 a2)]), (3, .val false [.ptr 0 0]), (6, .val false [.ptr 1 0]), (7, .val false [.ptr 2 0]), (8, .val false [.int .i64 o_0]), (35, .val false [.bool false])], [.var [.int .i64 a0.Kind, .int .i64 a0.N, .seq (eL e_u8 a0.S), .seq (eL (e_sl e_u8) a0.K), .seq (eL e_GExpr a0.Kids)], .var [.int .i64 v4, .int .i64 v5, .ref 3, .ref 4, .ref 5], .var [.int .i64 v6, .int .i64 v7, .seq (eL e_u8 v8), .seq (eL (e_sl e_u8) v9), .ref 6], .obj 1 (eL e_u8 v10), .obj 1 (eL (e_sl e_u8) v11), .obj 5 (eL e_GExpr v12), .obj 5 (eL e_GExpr o_1)], 0⟩ : S))) := by
  induction m with
  | zero => intro v2 v13 o h; cases h
  | succ m ih =>
    intro v2 v13 o h
    rw [L_spec_l7rename_l0] at h
    rcases ite_some h with ⟨c1, h⟩ | ⟨c1, h⟩
    ·obtain ⟨i2, hi2, h⟩ := bs h
     obtain ⟨x3, hx3, h⟩ := bs h
     obtain ⟨r4, hr4, h⟩ := bs h
     obtain ⟨n5, h⟩ := need_some h
     exact loop_nQ [.le e_GExpr a0.Kids, .lT c1, .na hi2, .ix hx3 (eq_GExpr x3), .cl (H_spec_l7rename x3 a1 a2 _ hr4), ⟨.pl ([[.int .i64 r4.Kind, .int .i64 r4.N, .seq (eL e_u8 r4.S), .seq (eL (e_sl e_u8) r4.K), .seq (eL e_GExpr r4.Kids)]] : List (List C)), .b true, by rw [(show ([[.int .i64 r4.Kind, .int .i64 r4.N, .seq (eL e_u8 r4.S), .seq (eL (e_sl e_u8) r4.K), .seq (eL e_GExpr r4.Kids)]] : List (List C)) = eL e_GExpr [r4] from (raw_cons (eq_GExpr r4) raw_nil))]; exact (A.pl E_GExpr)⟩, ⟨.room 88 (eL e_GExpr v13) ([[.int .i64 r4.Kind, .int .i64 r4.N, .seq (eL e_u8 r4.S), .seq (eL (e_sl e_u8) r4.K), .seq (eL e_GExpr r4.Kids)]] : List (List C)), .b true, by rw [(show ([[.int .i64 r4.Kind, .int .i64 r4.N, .seq (eL e_u8 r4.S), .seq (eL (e_sl e_u8) r4.K), .seq (eL e_GExpr r4.Kids)]] : List (List C)) = eL e_GExpr [r4] from (raw_cons (eq_GExpr r4) raw_nil))]; exact (A.room n5)⟩, ⟨.uni 5 ([[.int .i64 r4.Kind, .int .i64 r4.N, .seq (eL e_u8 r4.S), .seq (eL (e_sl e_u8) r4.K), .seq (eL e_GExpr r4.Kids)]] : List (List C)), .b true, by rw [(show ([[.int .i64 r4.Kind, .int .i64 r4.N, .seq (eL e_u8 r4.S), .seq (eL (e_sl e_u8) r4.K), .seq (eL e_GExpr r4.Kids)]] : List (List C)) = eL e_GExpr [r4] from (raw_cons (eq_GExpr r4) raw_nil))]; exact (A.uni E_GExpr)⟩, ⟨.app (eL e_GExpr v13) ([[.int .i64 r4.Kind, .int .i64 r4.N, .seq (eL e_u8 r4.S), .seq (eL (e_sl e_u8) r4.K), .seq (eL e_GExpr r4.Kids)]] : List (List C)), .l (eL e_GExpr (v13 ++ [r4])), by rw [(show ([[.int .i64 r4.Kind, .int .i64 r4.N, .seq (eL e_u8 r4.S), .seq (eL (e_sl e_u8) r4.K), .seq (eL e_GExpr r4.Kids)]] : List (List C)) = eL e_GExpr [r4] from (raw_cons (eq_GExpr r4) raw_nil))]; exact A.app⟩, .ad v2 1] (by kernel_rfl) (ih (w64 (v2 + 1)) (v13 ++ [r4]) o h)
    ·obtain rfl := Option.some.inj h
     exact loop_eQ [.le e_GExpr a0.Kids, .lF c1] (by kernel_rfl) (by intro h; cases h)

def T_spec_l7rename (G_spec_l7rename : GExpr → (List UInt8) → (List UInt8) → Option GExpr) (n : Nat) (a0 : GExpr) (a1 : (List UInt8)) (a2 : (List UInt8)) : Option GExpr :=
  if a0.Kind = 6 then
    if a0.S = a1 then
      (L_spec_l7rename_l0 G_spec_l7rename a1 a2 a0 0 0 a0.Kind a0.N a2 a0.K [] [] [] n 0 []).bind fun ⟨o3_0, o3_1⟩ =>
      some (GExpr.mk a0.Kind a0.N a2 a0.K o3_1)
    else
      (L_spec_l7rename_l0 G_spec_l7rename a1 a2 a0 0 0 a0.Kind a0.N a0.S a0.K [] [] [] n 0 []).bind fun ⟨o3_0, o3_1⟩ =>
      some (GExpr.mk a0.Kind a0.N a0.S a0.K o3_1)
  else
    (L_spec_l7rename_l0 G_spec_l7rename a1 a2 a0 0 0 a0.Kind a0.N a0.S a0.K [] [] [] n 0 []).bind fun ⟨o2_0, o2_1⟩ =>
    some (GExpr.mk a0.Kind a0.N a0.S a0.K o2_1)

set_option maxRecDepth 100000 in
theorem fd_55 : cfg.funcs 55 = some (bodyOf Try.f55, Try.f55.ntmps, Try.f55.results.toList) := fn_of Try.func55 (by kernel_rfl) (by kernel_rfl)
theorem g_spec_l7rename (G_spec_l7rename : GExpr → (List UInt8) → (List UInt8) → Option GExpr) (H_spec_l7rename : ∀ (a0 : GExpr) (a1 : (List UInt8)) (a2 : (List UInt8)) (r : GExpr), G_spec_l7rename a0 a1 a2 = some r → (mach cfg).call 55 [] [.val true [.int .i64 a0.Kind, .int .i64 a0.N, .seq (eL e_u8 a0.S), .seq (eL (e_sl e_u8) a0.K), .seq (eL e_GExpr a0.Kids)], .val false [.seq (eL e_u8 a1)], .val false [.seq (eL e_u8 a2)]] = some (.val true [.int .i64 r.Kind, .int .i64 r.N, .seq (eL e_u8 r.S), .seq (eL (e_sl e_u8) r.K), .seq (eL e_GExpr r.Kids)], [])) (n : Nat) (a0 : GExpr) (a1 : (List UInt8)) (a2 : (List UInt8)) (r : GExpr) (h : T_spec_l7rename G_spec_l7rename n a0 a1 a2 = some r) : (mach cfg).call 55 [] [.val true [.int .i64 a0.Kind, .int .i64 a0.N, .seq (eL e_u8 a0.S), .seq (eL (e_sl e_u8) a0.K), .seq (eL e_GExpr a0.Kids)], .val false [.seq (eL e_u8 a1)], .val false [.seq (eL e_u8 a2)]] = some (.val true [.int .i64 r.Kind, .int .i64 r.N, .seq (eL e_u8 r.S), .seq (eL (e_sl e_u8) r.K), .seq (eL e_GExpr r.Kids)], []) := by
  unfold T_spec_l7rename at h
  rcases ite_some h with ⟨c1, h⟩ | ⟨c1, h⟩
  ·rcases ite_some h with ⟨c2, h⟩ | ⟨c2, h⟩
   ·obtain ⟨⟨o3_0, o3_1⟩, ho3, h⟩ := bs h
    try dsimp only at h
    obtain rfl := Option.some.inj h
    exact (call_wQ (r := (.val true [.int .i64 a0.Kind, .int .i64 a0.N, .seq (eL e_u8 a2), .seq (eL (e_sl e_u8) a0.K), .seq (viewL (eL e_GExpr o3_1))], [])) [.eT c1, ⟨.bytes (eL e_u8 a0.S), .s a0.S, A.bytes⟩, ⟨.bytes (eL e_u8 a1), .s a1, A.bytes⟩, .sT c2, .lp (gl_spec_l7rename_l0 G_spec_l7rename H_spec_l7rename a1 a2 a0 0 0 a0.Kind a0.N a2 a0.K [] [] [] _ 0 [] _ ho3)] rfl fd_55 (by kernel_rfl)).trans (by simp only [viewL_eL E_GExpr] <;> rfl)
   ·obtain ⟨⟨o3_0, o3_1⟩, ho3, h⟩ := bs h
    try dsimp only at h
    obtain rfl := Option.some.inj h
    exact (call_wQ (r := (.val true [.int .i64 a0.Kind, .int .i64 a0.N, .seq (eL e_u8 a0.S), .seq (eL (e_sl e_u8) a0.K), .seq (viewL (eL e_GExpr o3_1))], [])) [.eT c1, ⟨.bytes (eL e_u8 a0.S), .s a0.S, A.bytes⟩, ⟨.bytes (eL e_u8 a1), .s a1, A.bytes⟩, .sF c2, .lp (gl_spec_l7rename_l0 G_spec_l7rename H_spec_l7rename a1 a2 a0 0 0 a0.Kind a0.N a0.S a0.K [] [] [] _ 0 [] _ ho3)] rfl fd_55 (by kernel_rfl)).trans (by simp only [viewL_eL E_GExpr] <;> rfl)
  ·obtain ⟨⟨o2_0, o2_1⟩, ho2, h⟩ := bs h
   try dsimp only at h
   obtain rfl := Option.some.inj h
   exact (call_wQ (r := (.val true [.int .i64 a0.Kind, .int .i64 a0.N, .seq (eL e_u8 a0.S), .seq (eL (e_sl e_u8) a0.K), .seq (viewL (eL e_GExpr o2_1))], [])) [.eF c1, .lp (gl_spec_l7rename_l0 G_spec_l7rename H_spec_l7rename a1 a2 a0 0 0 a0.Kind a0.N a0.S a0.K [] [] [] _ 0 [] _ ho2)] rfl fd_55 (by kernel_rfl)).trans (by simp only [viewL_eL E_GExpr] <;> rfl)

def U_spec_l7rename : Nat → GExpr → (List UInt8) → (List UInt8) → Option GExpr
  | 0, _, _, _ => none
  | n + 1, a0, a1, a2 => T_spec_l7rename (U_spec_l7rename n) n a0 a1 a2
theorem rec_spec_l7rename (n : Nat) : (∀ (a0 : GExpr) (a1 : (List UInt8)) (a2 : (List UInt8)) (r : GExpr), U_spec_l7rename n a0 a1 a2 = some r → (mach cfg).call 55 [] [.val true [.int .i64 a0.Kind, .int .i64 a0.N, .seq (eL e_u8 a0.S), .seq (eL (e_sl e_u8) a0.K), .seq (eL e_GExpr a0.Kids)], .val false [.seq (eL e_u8 a1)], .val false [.seq (eL e_u8 a2)]] = some (.val true [.int .i64 r.Kind, .int .i64 r.N, .seq (eL e_u8 r.S), .seq (eL (e_sl e_u8) r.K), .seq (eL e_GExpr r.Kids)], [])) := by
  induction n with
  | zero => exact fun _ _ _ _ h => (by rw [U_spec_l7rename] at h; cases h)
  | succ n ih =>
    have ih_spec_l7rename := ih
    exact fun a0 a1 a2 r h => g_spec_l7rename (U_spec_l7rename n) ih_spec_l7rename n a0 a1 a2 r (by rw [U_spec_l7rename] at h; exact h)
theorem l7rename_loop {G : GExpr → List UInt8 → List UInt8 → Option GExpr} {b c : List UInt8} {a : GExpr} {v4 v5 v6 v7 : Int} {v8 : List UInt8} {v9 : List (List UInt8)} {v10 : List UInt8} {v11 : List (List UInt8)} {v12 : List GExpr} (ha : a.Kids.length ≤ 2 ^ 39) : ∀ (l p : List GExpr) (m : Nat), a.Kids = p ++ l → (∀ x ∈ l, G x b c = some (rnX b c x)) → l.length < m → ∃ z, L_spec_l7rename_l0 G b c a v4 v5 v6 v7 v8 v9 v10 v11 v12 m ((p.length : Nat) : Int) (rnXs b c p) = some (z, rnXs b c a.Kids) := by
  intro l
  induction l with
  | nil =>
    intro p m he _ hm
    obtain ⟨m, rfl, _⟩ := fuel hm
    exact ⟨_, by rw [L_spec_l7rename_l0, he, if_neg (nlt_end p), List.append_nil]⟩
  | cons x l ih =>
    intro p m he hG hm
    obtain ⟨m, rfl, hm'⟩ := fuel hm
    have hlen : a.Kids.length = p.length + (l.length + 1) := by rw [he]; simp
    obtain ⟨z, hz⟩ := ih (p ++ [x]) m (by rw [he]; simp) (fun y hy => hG y (List.mem_cons_of_mem _ hy)) (by simp only [List.length_cons] at hm'; omega)
    refine ⟨z, ?_⟩
    rw [L_spec_l7rename_l0, if_pos (by omega), natO_nat, Option.bind_some, show a.Kids[p.length]? = some x by rw [he]; exact get_mid p x l, Option.bind_some, hG x List.mem_cons_self, Option.bind_some, if_pos (room_ok (by decide) (by rw [rnXs_len]; simp only [List.length_cons, List.length_nil]; omega)), w64_len p x (by omega), ← rnXs_snoc, hz]
theorem l7rename_U (b c : List UInt8) : ∀ (N : Nat) (v : GExpr), xsz v < N → xsz v ≤ 2 ^ 39 → ∀ f : Nat, xsz v + 2 ≤ f → U_spec_l7rename f v b c = some (rnX b c v) := by
  intro N
  induction N with
  | zero => intro v hv; omega
  | succ N ih =>
    intro v hv hs f hf
    obtain ⟨f, rfl, _⟩ := fuel (show 0 < f by omega)
    have he := xsz_eq v
    have hl := xszs_len v.Kids
    rw [U_spec_l7rename]
    unfold T_spec_l7rename
    have h : ∀ (v4 v5 v6 v7 : Int) (v8 : List UInt8) (v9 : List (List UInt8)) (v10 : List UInt8) (v11 : List (List UInt8)) (v12 : List GExpr), ∃ z, L_spec_l7rename_l0 (U_spec_l7rename f) b c v v4 v5 v6 v7 v8 v9 v10 v11 v12 f 0 [] = some (z, rnXs b c v.Kids) := fun v4 v5 v6 v7 v8 v9 v10 v11 v12 => by
      obtain ⟨z, hz⟩ := l7rename_loop (G := U_spec_l7rename f) (b := b) (c := c) (a := v) (v4 := v4) (v5 := v5) (v6 := v6) (v7 := v7) (v8 := v8) (v9 := v9) (v10 := v10) (v11 := v11) (v12 := v12) (by omega) v.Kids [] f rfl (fun x hx => by
        have := xszs_mem hx
        exact ih x (by omega) (by omega) f (by omega)) (by omega)
      rw [List.length_nil, Int.natCast_zero, rnXs] at hz
      exact ⟨z, hz⟩
    rw [rnX_eq]
    by_cases h6 : v.Kind = 6
    · rw [if_pos h6]
      by_cases hs : v.S = b
      · obtain ⟨z, hz⟩ := h 0 0 v.Kind v.N c v.K [] [] []
        rw [if_pos hs, hz, if_pos ⟨h6, hs⟩]; rfl
      · obtain ⟨z, hz⟩ := h 0 0 v.Kind v.N v.S v.K [] [] []
        rw [if_neg hs, hz, if_neg (fun h => hs h.2)]; rfl
    · obtain ⟨z, hz⟩ := h 0 0 v.Kind v.N v.S v.K [] [] []
      rw [if_neg h6, hz, if_neg (fun h => h6 h.1)]; rfl
def S_spec_l7rename (a0 : GExpr) (a1 : (List UInt8)) (a2 : (List UInt8)) : Option GExpr := if xsz a0 ≤ 2 ^ 39 then some (rnX a1 a2 a0) else none
theorem spec_spec_l7rename (a0 : GExpr) (a1 : (List UInt8)) (a2 : (List UInt8)) (r : GExpr) (h : S_spec_l7rename a0 a1 a2 = some r) : ∃ n, U_spec_l7rename n a0 a1 a2 = some r := by
  unfold S_spec_l7rename at h
  obtain ⟨ha, h⟩ := need_c h
  exact ⟨xsz a0 + 2, by rw [← h]; exact l7rename_U a1 a2 _ a0 (Nat.lt_succ_self _) ha _ (Nat.le_refl _)⟩
theorem ok_spec_l7rename (a0 : GExpr) (a1 : (List UInt8)) (a2 : (List UInt8)) (r : GExpr) (h : S_spec_l7rename a0 a1 a2 = some r) : (mach cfg).call 55 [] [.val true [.int .i64 a0.Kind, .int .i64 a0.N, .seq (eL e_u8 a0.S), .seq (eL (e_sl e_u8) a0.K), .seq (eL e_GExpr a0.Kids)], .val false [.seq (eL e_u8 a1)], .val false [.seq (eL e_u8 a2)]] = some (.val true [.int .i64 r.Kind, .int .i64 r.N, .seq (eL e_u8 r.S), .seq (eL (e_sl e_u8) r.K), .seq (eL e_GExpr r.Kids)], []) := by
  obtain ⟨n, hn⟩ := spec_spec_l7rename a0 a1 a2 r h
  exact (rec_spec_l7rename n) a0 a1 a2 r hn
def L_spec_l4ownAddrs_l0 (a0 : (List (List UInt8))) : Nat → Int → (List (List UInt8)) → Option (Int × (List (List UInt8)))
  | 0, _, _ => none
  | m + 1, v1, v2 =>
    if v1 < ((a0.length : Nat) : Int) then
      (natO v1).bind fun i2 =>
      (a0[i2]?).bind fun x3 =>
      if roomP 1 (0 + x3.length) then
      if roomP 24 (v2.length + [x3].length) then
      L_spec_l4ownAddrs_l0 a0 m (w64 (v1 + 1)) (v2 ++ [x3])
      else none
      else none
    else
      some (v1, v2)

theorem gl_spec_l4ownAddrs_l0 (a0 : (List (List UInt8))) (m : Nat) : ∀ (v1 : Int) (v2 : (List (List UInt8))) (o : (Int × (List (List UInt8)))), L_spec_l4ownAddrs_l0 a0 m v1 v2 = some o → (mach cfg).loop 72 (loopB Try.f72 0) ⟨[(0, .val false [.seq (eL (e_sl e_u8) a0)]), (3, .val false [.ref 0]), (4, .val false [.int .i64 v1])], [.obj 1 (eL (o_sl 1 e_u8) v2)], 0⟩ = some (match o with | ⟨o_0, o_1⟩ => (.exit 0, (⟨[(0, .val false [.seq (eL (e_sl e_u8) a0)]), (3, .val false [.ref 0]), (4, .val false [.int .i64 o_0]), (8, .val false [.bool false])], [.obj 1 (eL (o_sl 1 e_u8) o_1)], 0⟩ : S))) := by
  induction m with
  | zero => intro v1 v2 o h; cases h
  | succ m ih =>
    intro v1 v2 o h
    rw [L_spec_l4ownAddrs_l0] at h
    rcases ite_some h with ⟨c1, h⟩ | ⟨c1, h⟩
    ·obtain ⟨i2, hi2, h⟩ := bs h
     obtain ⟨x3, hx3, h⟩ := bs h
     obtain ⟨n4, h⟩ := need_some h
     obtain ⟨n5, h⟩ := need_some h
     exact loop_nQ [.le (e_sl e_u8) a0, .lT c1, .na hi2, .ix0 (e_sl e_u8) hx3, ⟨.room 1 (eL e_u8 []) (eL e_u8 x3), .b true, (A.room n4)⟩, ⟨.uni 1 (eL e_u8 x3), .b true, (A.uni E_u8)⟩, ⟨.app (eL e_u8 []) (eL e_u8 x3), .l (eL e_u8 x3), A.app0⟩, ⟨.room 24 (eL (o_sl 1 e_u8) v2) (eL (o_sl 1 e_u8) [x3]), .b true, (A.room n5)⟩, ⟨.uni 1 (eL (o_sl 1 e_u8) [x3]), .b true, (A.uniO (O_sl 1 O_u8))⟩, ⟨.app (eL (o_sl 1 e_u8) v2) (eL (o_sl 1 e_u8) [x3]), .l (eL (o_sl 1 e_u8) (v2 ++ [x3])), A.app⟩, .ad v1 1] (by kernel_rfl) (ih (w64 (v1 + 1)) (v2 ++ [x3]) o h)
    ·obtain rfl := Option.some.inj h
     exact loop_eQ [.le (e_sl e_u8) a0, .lF c1] (by kernel_rfl) (by intro h; cases h)

def T_spec_l4ownAddrs (n : Nat) (a0 : (List (List UInt8))) : Option (List (List UInt8)) :=
  (L_spec_l4ownAddrs_l0 a0 n 0 []).bind fun ⟨o1_0, o1_1⟩ =>
  some o1_1

set_option maxRecDepth 100000 in
theorem fd_72 : cfg.funcs 72 = some (bodyOf Try.f72, Try.f72.ntmps, Try.f72.results.toList) := fn_of Try.func72 (by kernel_rfl) (by kernel_rfl)
theorem g_spec_l4ownAddrs (n : Nat) (a0 : (List (List UInt8))) (r : (List (List UInt8))) (h : T_spec_l4ownAddrs n a0 = some r) : (mach cfg).call 72 [] [.val false [.seq (eL (e_sl e_u8) a0)]] = some (.val false [.own 1 (eL (o_sl 1 e_u8) r)], []) := by
  unfold T_spec_l4ownAddrs at h
  obtain ⟨⟨o1_0, o1_1⟩, ho1, h⟩ := bs h
  try dsimp only at h
  obtain rfl := Option.some.inj h
  exact call_wQ [.lp (gl_spec_l4ownAddrs_l0 a0 _ 0 [] _ ho1)] rfl fd_72 (by kernel_rfl)

theorem l4own_loop {a : List (List UInt8)} (ha : bsz a ≤ 2 ^ 39) : ∀ (l p : List (List UInt8)) (m : Nat), a = p ++ l → l.length < m → ∃ z, L_spec_l4ownAddrs_l0 a m ((p.length : Nat) : Int) p = some (z, a) := by
  have hl := bsz_len a
  intro l
  induction l with
  | nil =>
    intro p m he hm
    subst he
    obtain ⟨m, rfl, _⟩ := fuel hm
    exact ⟨_, by rw [L_spec_l4ownAddrs_l0, if_neg (nlt_end p)]; simp; rfl⟩
  | cons x l ih =>
    intro p m he hm
    obtain ⟨m, rfl, hm'⟩ := fuel hm
    have hx : 1 + x.length ≤ bsz a := bsz_mem (by rw [he]; simp)
    have hlen : a.length = p.length + (l.length + 1) := by rw [he]; simp
    obtain ⟨z, hz⟩ := ih (p ++ [x]) m (by rw [he]; simp) (by simp only [List.length_cons] at hm'; omega)
    refine ⟨z, ?_⟩
    rw [L_spec_l4ownAddrs_l0, if_pos (by rw [he]; exact lt_mid p x l), natO_nat, Option.bind_some, show a[p.length]? = some x by rw [he]; exact get_mid p x l, Option.bind_some, if_pos (room_ok (by decide) (by omega)), if_pos (room_ok (by decide) (by simp only [List.length_cons, List.length_nil]; omega)), w64_len p x (by omega), hz]
def S_spec_l4ownAddrs (a0 : (List (List UInt8))) : Option (List (List UInt8)) := if bsz a0 ≤ 2 ^ 39 then some a0 else none
theorem spec_spec_l4ownAddrs (a0 : (List (List UInt8))) (r : (List (List UInt8))) (h : S_spec_l4ownAddrs a0 = some r) : ∃ n, T_spec_l4ownAddrs n a0 = some r := by
  unfold S_spec_l4ownAddrs at h
  obtain ⟨ha, h⟩ := need_c h
  obtain ⟨z, hz⟩ := l4own_loop ha a0 [] (a0.length + 1) rfl (by omega)
  refine ⟨a0.length + 1, ?_⟩
  unfold T_spec_l4ownAddrs
  simp only [List.length_nil, Int.natCast_zero] at hz
  rw [hz]; exact h
theorem ok_spec_l4ownAddrs (a0 : (List (List UInt8))) (r : (List (List UInt8))) (h : S_spec_l4ownAddrs a0 = some r) : (mach cfg).call 72 [] [.val false [.seq (eL (e_sl e_u8) a0)]] = some (.val false [.own 1 (eL (o_sl 1 e_u8) r)], []) := by
  obtain ⟨n, hn⟩ := spec_spec_l4ownAddrs a0 r h
  exact g_spec_l4ownAddrs n a0 r hn
def L_spec_l6ownExpr_l0 (G_spec_l6ownExpr : GExpr → Option GExpr) (a0 : GExpr) (v2 : Int) (v3 : Int) (v4 : Int) (v5 : Int) (v6 : (List UInt8)) (v7 : (List (List UInt8))) (v8 : (List GExpr)) (v9 : (List UInt8)) (v10 : (List (List UInt8))) : Nat → Int → (List GExpr) → Option (Int × (List GExpr))
  | 0, _, _ => none
  | m + 1, v0, v11 =>
    if v0 < ((a0.Kids.length : Nat) : Int) then
      (natO v0).bind fun i2 =>
      (a0.Kids[i2]?).bind fun x3 =>
      (G_spec_l6ownExpr x3).bind fun r4 =>
      if roomP 88 (v11.length + [r4].length) then
      L_spec_l6ownExpr_l0 G_spec_l6ownExpr a0 v2 v3 v4 v5 v6 v7 v8 v9 v10 m (w64 (v0 + 1)) (v11 ++ [r4])
      else none
    else
      some (v0, v11)

theorem gl_spec_l6ownExpr_l0 (G_spec_l6ownExpr : GExpr → Option GExpr) (H_spec_l6ownExpr : ∀ (a0 : GExpr) (r : GExpr), G_spec_l6ownExpr a0 = some r → (mach cfg).call 40 [] [.val true [.int .i64 a0.Kind, .int .i64 a0.N, .seq (eL e_u8 a0.S), .seq (eL (e_sl e_u8) a0.K), .seq (eL e_GExpr a0.Kids)]] = some (.val true [.int .i64 r.Kind, .int .i64 r.N, .own 1 (eL e_u8 r.S), .own 1 (eL (o_sl 1 e_u8) r.K), .own 5 (eL o_GExpr r.Kids)], [])) (a0 : GExpr) (v2 : Int) (v3 : Int) (v4 : Int) (v5 : Int) (v6 : (List UInt8)) (v7 : (List (List UInt8))) (v8 : (List GExpr)) (v9 : (List UInt8)) (v10 : (List (List UInt8))) (m : Nat) : ∀ (v0 : Int) (v11 : (List GExpr)) (o : (Int × (List GExpr))), L_spec_l6ownExpr_l0 G_spec_l6ownExpr a0 v2 v3 v4 v5 v6 v7 v8 v9 v10 m v0 v11 = some o → (mach cfg).loop 40 (loopB Try.f40 0) ⟨[(1, .val false [.ptr 0 0]), (2, .val false [.ptr 1 0]), (3, .val false [.ptr 2 0]), (4, .val false [.int .i64 v0])], [.var [.int .i64 a0.Kind, .int .i64 a0.N, .seq (eL e_u8 a0.S), .seq (eL (e_sl e_u8) a0.K), .seq (eL e_GExpr a0.Kids)], .var [.int .i64 v2, .int .i64 v3, .ref 3, .ref 4, .ref 5], .var [.int .i64 v4, .int .i64 v5, .ref 6, .ref 7, .ref 8], .obj 1 (eL e_u8 v6), .obj 1 (eL (o_sl 1 e_u8) v7), .obj 5 (eL o_GExpr v8), .obj 1 (eL e_u8 v9), .obj 1 (eL (o_sl 1 e_u8) v10), .obj 5 (eL o_GExpr v11)], 0⟩ = some (match o with | ⟨o_0, o_1⟩ => (.exit 0, (⟨[(1, .val false [.ptr 0 0]), (2, .val false [.ptr 1 0]), (3, .val false [.ptr 2 0]), (4, .val false [.int .i64 o_0]), (21, .val false [.bool false])], [.var [.int .i64 a0.Kind, .int .i64 a0.N, .seq (eL e_u8 a0.S), .seq (eL (e_sl e_u8) a0.K), .seq (eL e_GExpr a0.Kids)], .var [.int .i64 v2, .int .i64 v3, .ref 3, .ref 4, .ref 5], .var [.int .i64 v4, .int .i64 v5, .ref 6, .ref 7, .ref 8], .obj 1 (eL e_u8 v6), .obj 1 (eL (o_sl 1 e_u8) v7), .obj 5 (eL o_GExpr v8), .obj 1 (eL e_u8 v9), .obj 1 (eL (o_sl 1 e_u8) v10), .obj 5 (eL o_GExpr o_1)], 0⟩ : S))) := by
  induction m with
  | zero => intro v0 v11 o h; cases h
  | succ m ih =>
    intro v0 v11 o h
    rw [L_spec_l6ownExpr_l0] at h
    rcases ite_some h with ⟨c1, h⟩ | ⟨c1, h⟩
    ·obtain ⟨i2, hi2, h⟩ := bs h
     obtain ⟨x3, hx3, h⟩ := bs h
     obtain ⟨r4, hr4, h⟩ := bs h
     obtain ⟨n5, h⟩ := need_some h
     exact loop_nQ [.le e_GExpr a0.Kids, .lT c1, .na hi2, .ix hx3 (eq_GExpr x3), .cl (H_spec_l6ownExpr x3 _ hr4), ⟨.room 88 (eL o_GExpr v11) ([[.int .i64 r4.Kind, .int .i64 r4.N, .own 1 (eL e_u8 r4.S), .own 1 (eL (o_sl 1 e_u8) r4.K), .own 5 (eL o_GExpr r4.Kids)]] : List (List C)), .b true, by rw [(show ([[.int .i64 r4.Kind, .int .i64 r4.N, .own 1 (eL e_u8 r4.S), .own 1 (eL (o_sl 1 e_u8) r4.K), .own 5 (eL o_GExpr r4.Kids)]] : List (List C)) = eL o_GExpr [r4] from (raw_cons (oeq_GExpr r4) raw_nil))]; exact (A.room n5)⟩, ⟨.uni 5 ([[.int .i64 r4.Kind, .int .i64 r4.N, .own 1 (eL e_u8 r4.S), .own 1 (eL (o_sl 1 e_u8) r4.K), .own 5 (eL o_GExpr r4.Kids)]] : List (List C)), .b true, by rw [(show ([[.int .i64 r4.Kind, .int .i64 r4.N, .own 1 (eL e_u8 r4.S), .own 1 (eL (o_sl 1 e_u8) r4.K), .own 5 (eL o_GExpr r4.Kids)]] : List (List C)) = eL o_GExpr [r4] from (raw_cons (oeq_GExpr r4) raw_nil))]; exact (A.uniO O_GExpr)⟩, ⟨.app (eL o_GExpr v11) ([[.int .i64 r4.Kind, .int .i64 r4.N, .own 1 (eL e_u8 r4.S), .own 1 (eL (o_sl 1 e_u8) r4.K), .own 5 (eL o_GExpr r4.Kids)]] : List (List C)), .l (eL o_GExpr (v11 ++ [r4])), by rw [(show ([[.int .i64 r4.Kind, .int .i64 r4.N, .own 1 (eL e_u8 r4.S), .own 1 (eL (o_sl 1 e_u8) r4.K), .own 5 (eL o_GExpr r4.Kids)]] : List (List C)) = eL o_GExpr [r4] from (raw_cons (oeq_GExpr r4) raw_nil))]; exact A.app⟩, .ad v0 1] (by kernel_rfl) (ih (w64 (v0 + 1)) (v11 ++ [r4]) o h)
    ·obtain rfl := Option.some.inj h
     exact loop_eQ [.le e_GExpr a0.Kids, .lF c1] (by kernel_rfl) (by intro h; cases h)

def T_spec_l6ownExpr (G_spec_l6ownExpr : GExpr → Option GExpr) (n : Nat) (a0 : GExpr) : Option GExpr :=
  if roomP 1 (0 + a0.S.length) then
  (S_spec_l4ownAddrs a0.K).bind fun r2 =>
  (L_spec_l6ownExpr_l0 G_spec_l6ownExpr a0 0 0 a0.Kind a0.N [] [] [] a0.S r2 n 0 []).bind fun ⟨o3_0, o3_1⟩ =>
  some (GExpr.mk a0.Kind a0.N a0.S r2 o3_1)
  else none

set_option maxRecDepth 100000 in
theorem fd_40 : cfg.funcs 40 = some (bodyOf Try.f40, Try.f40.ntmps, Try.f40.results.toList) := fn_of Try.func40 (by kernel_rfl) (by kernel_rfl)
theorem g_spec_l6ownExpr (G_spec_l6ownExpr : GExpr → Option GExpr) (H_spec_l6ownExpr : ∀ (a0 : GExpr) (r : GExpr), G_spec_l6ownExpr a0 = some r → (mach cfg).call 40 [] [.val true [.int .i64 a0.Kind, .int .i64 a0.N, .seq (eL e_u8 a0.S), .seq (eL (e_sl e_u8) a0.K), .seq (eL e_GExpr a0.Kids)]] = some (.val true [.int .i64 r.Kind, .int .i64 r.N, .own 1 (eL e_u8 r.S), .own 1 (eL (o_sl 1 e_u8) r.K), .own 5 (eL o_GExpr r.Kids)], [])) (n : Nat) (a0 : GExpr) (r : GExpr) (h : T_spec_l6ownExpr G_spec_l6ownExpr n a0 = some r) : (mach cfg).call 40 [] [.val true [.int .i64 a0.Kind, .int .i64 a0.N, .seq (eL e_u8 a0.S), .seq (eL (e_sl e_u8) a0.K), .seq (eL e_GExpr a0.Kids)]] = some (.val true [.int .i64 r.Kind, .int .i64 r.N, .own 1 (eL e_u8 r.S), .own 1 (eL (o_sl 1 e_u8) r.K), .own 5 (eL o_GExpr r.Kids)], []) := by
  unfold T_spec_l6ownExpr at h
  obtain ⟨n1, h⟩ := need_some h
  obtain ⟨r2, hr2, h⟩ := bs h
  obtain ⟨⟨o3_0, o3_1⟩, ho3, h⟩ := bs h
  try dsimp only at h
  obtain rfl := Option.some.inj h
  exact call_wQ [⟨.room 1 (eL e_u8 []) (eL e_u8 a0.S), .b true, (A.room n1)⟩, ⟨.uni 1 (eL e_u8 a0.S), .b true, (A.uni E_u8)⟩, ⟨.app (eL e_u8 []) (eL e_u8 a0.S), .l (eL e_u8 a0.S), A.app0⟩, .cl (ok_spec_l4ownAddrs a0.K _ hr2), .lp (gl_spec_l6ownExpr_l0 G_spec_l6ownExpr H_spec_l6ownExpr a0 0 0 a0.Kind a0.N [] [] [] a0.S r2 _ 0 [] _ ho3)] rfl fd_40 (by kernel_rfl)

def U_spec_l6ownExpr : Nat → GExpr → Option GExpr
  | 0, _ => none
  | n + 1, a0 => T_spec_l6ownExpr (U_spec_l6ownExpr n) n a0
theorem rec_spec_l6ownExpr (n : Nat) : (∀ (a0 : GExpr) (r : GExpr), U_spec_l6ownExpr n a0 = some r → (mach cfg).call 40 [] [.val true [.int .i64 a0.Kind, .int .i64 a0.N, .seq (eL e_u8 a0.S), .seq (eL (e_sl e_u8) a0.K), .seq (eL e_GExpr a0.Kids)]] = some (.val true [.int .i64 r.Kind, .int .i64 r.N, .own 1 (eL e_u8 r.S), .own 1 (eL (o_sl 1 e_u8) r.K), .own 5 (eL o_GExpr r.Kids)], [])) := by
  induction n with
  | zero => exact fun _ _ h => (by rw [U_spec_l6ownExpr] at h; cases h)
  | succ n ih =>
    have ih_spec_l6ownExpr := ih
    exact fun a0 r h => g_spec_l6ownExpr (U_spec_l6ownExpr n) ih_spec_l6ownExpr n a0 r (by rw [U_spec_l6ownExpr] at h; exact h)
theorem l6own_loop {G : GExpr → Option GExpr} {a : GExpr} {v2 v3 v4 v5 : Int} {v6 : List UInt8} {v7 : List (List UInt8)} {v8 : List GExpr} {v9 : List UInt8} {v10 : List (List UInt8)} (ha : xszs a.Kids ≤ 2 ^ 39) : ∀ (l p : List GExpr) (m : Nat), a.Kids = p ++ l → (∀ x ∈ l, G x = some x) → l.length < m → ∃ z, L_spec_l6ownExpr_l0 G a v2 v3 v4 v5 v6 v7 v8 v9 v10 m ((p.length : Nat) : Int) p = some (z, a.Kids) := by
  have hl := xszs_len a.Kids
  intro l
  induction l with
  | nil =>
    intro p m he _ hm
    obtain ⟨m, rfl, _⟩ := fuel hm
    exact ⟨_, by rw [L_spec_l6ownExpr_l0, he, if_neg (nlt_end p)]; simp; rfl⟩
  | cons x l ih =>
    intro p m he hG hm
    obtain ⟨m, rfl, hm'⟩ := fuel hm
    have hlen : a.Kids.length = p.length + (l.length + 1) := by rw [he]; simp
    obtain ⟨z, hz⟩ := ih (p ++ [x]) m (by rw [he]; simp) (fun y hy => hG y (List.mem_cons_of_mem _ hy)) (by simp only [List.length_cons] at hm'; omega)
    refine ⟨z, ?_⟩
    rw [L_spec_l6ownExpr_l0, if_pos (by omega), natO_nat, Option.bind_some, show a.Kids[p.length]? = some x by rw [he]; exact get_mid p x l, Option.bind_some, hG x List.mem_cons_self, Option.bind_some, if_pos (room_ok (by decide) (by simp only [List.length_cons, List.length_nil]; omega)), w64_len p x (by omega), hz]
theorem l6own_U : ∀ (N : Nat) (v : GExpr), xsz v < N → xsz v ≤ 2 ^ 39 → ∀ f : Nat, xsz v + 2 ≤ f → U_spec_l6ownExpr f v = some v := by
  intro N
  induction N with
  | zero => intro v hv; omega
  | succ N ih =>
    intro v hv hs f hf
    obtain ⟨f, rfl, _⟩ := fuel (show 0 < f by omega)
    have he := xsz_eq v
    have hl := xszs_len v.Kids
    rw [U_spec_l6ownExpr]
    unfold T_spec_l6ownExpr S_spec_l4ownAddrs
    rw [if_pos (room_ok (by decide) (by omega)), if_pos (by omega), Option.bind_some]
    obtain ⟨z, hz⟩ := l6own_loop (G := U_spec_l6ownExpr f) (a := v) (v2 := 0) (v3 := 0) (v4 := v.Kind) (v5 := v.N) (v6 := []) (v7 := []) (v8 := []) (v9 := v.S) (v10 := v.K) (by omega) v.Kids [] f rfl (fun x hx => by
      have := xszs_mem hx
      exact ih x (by omega) (by omega) f (by omega)) (by omega)
    simp only [List.length_nil, Int.natCast_zero] at hz
    rw [hz, Option.bind_some]
    exact congrArg some (GExpr.eta v)
def S_spec_l6ownExpr (a0 : GExpr) : Option GExpr := if xsz a0 ≤ 2 ^ 39 then some a0 else none
theorem spec_spec_l6ownExpr (a0 : GExpr) (r : GExpr) (h : S_spec_l6ownExpr a0 = some r) : ∃ n, U_spec_l6ownExpr n a0 = some r := by
  unfold S_spec_l6ownExpr at h
  obtain ⟨ha, h⟩ := need_c h
  exact ⟨xsz a0 + 2, by rw [← h]; exact l6own_U _ a0 (Nat.lt_succ_self _) ha _ (Nat.le_refl _)⟩
theorem ok_spec_l6ownExpr (a0 : GExpr) (r : GExpr) (h : S_spec_l6ownExpr a0 = some r) : (mach cfg).call 40 [] [.val true [.int .i64 a0.Kind, .int .i64 a0.N, .seq (eL e_u8 a0.S), .seq (eL (e_sl e_u8) a0.K), .seq (eL e_GExpr a0.Kids)]] = some (.val true [.int .i64 r.Kind, .int .i64 r.N, .own 1 (eL e_u8 r.S), .own 1 (eL (o_sl 1 e_u8) r.K), .own 5 (eL o_GExpr r.Kids)], []) := by
  obtain ⟨n, hn⟩ := spec_spec_l6ownExpr a0 r h
  exact (rec_spec_l6ownExpr n) a0 r hn
def S_spec_Rename (a0 : GExpr) (a1 : (List UInt8)) (a2 : (List UInt8)) : Option (GExpr × Bool) :=
  (S_spec_ExprOk a0).bind fun r1 =>
  match r1 with
  | true =>
    (S_spec_NameOk a1).bind fun r3 =>
    match r3 with
    | true =>
      (S_spec_NameOk a2).bind fun r5 =>
      match r5 with
      | true =>
        (S_spec_l7rename a0 a1 a2).bind fun r7 =>
        (S_spec_l6ownExpr r7).bind fun r8 =>
        some (r8, true)
      | false =>
        some ((GExpr.mk 0 0 [] [] []), false)
    | false =>
      some ((GExpr.mk 0 0 [] [] []), false)
  | false =>
    some ((GExpr.mk 0 0 [] [] []), false)

set_option maxRecDepth 100000 in
theorem fd_17 : cfg.funcs 17 = some (bodyOf Try.f17, Try.f17.ntmps, Try.f17.results.toList) := fn_of Try.func17 (by kernel_rfl) (by kernel_rfl)
theorem ok_spec_Rename (a0 : GExpr) (a1 : (List UInt8)) (a2 : (List UInt8)) (r : (GExpr × Bool)) (h : S_spec_Rename a0 a1 a2 = some r) : (mach cfg).call 17 [] [.val true [.int .i64 a0.Kind, .int .i64 a0.N, .seq (eL e_u8 a0.S), .seq (eL (e_sl e_u8) a0.K), .seq (eL e_GExpr a0.Kids)], .val false [.seq (eL e_u8 a1)], .val false [.seq (eL e_u8 a2)]] = some (.tup [(true, [.int .i64 r.1.Kind, .int .i64 r.1.N, .own 1 (eL e_u8 r.1.S), .own 1 (eL (o_sl 1 e_u8) r.1.K), .own 5 (eL o_GExpr r.1.Kids)]), (false, [.bool r.2])], []) := by
  unfold S_spec_Rename at h
  obtain ⟨r1, hr1, h⟩ := bs h
  cases r1 with
  | true =>
   try dsimp only at h
   obtain ⟨r3, hr3, h⟩ := bs h
   cases r3 with
   | true =>
    try dsimp only at h
    obtain ⟨r5, hr5, h⟩ := bs h
    cases r5 with
    | true =>
     try dsimp only at h
     obtain ⟨r7, hr7, h⟩ := bs h
     obtain ⟨r8, hr8, h⟩ := bs h
     obtain rfl := Option.some.inj h
     exact call_wQ [.cl (ok_spec_ExprOk a0 _ hr1), .nt true, .cl (ok_spec_NameOk a1 _ hr3), .nt true, .cl (ok_spec_NameOk a2 _ hr5), .nt true, .cl (ok_spec_l7rename a0 a1 a2 _ hr7), .cl (ok_spec_l6ownExpr r7 _ hr8)] rfl fd_17 (by kernel_rfl)
    | false =>
     try dsimp only at h
     obtain rfl := Option.some.inj h
     exact call_wQ [.cl (ok_spec_ExprOk a0 _ hr1), .nt true, .cl (ok_spec_NameOk a1 _ hr3), .nt true, .cl (ok_spec_NameOk a2 _ hr5), .nt false] rfl fd_17 (by kernel_rfl)
   | false =>
    try dsimp only at h
    obtain rfl := Option.some.inj h
    exact call_wQ [.cl (ok_spec_ExprOk a0 _ hr1), .nt true, .cl (ok_spec_NameOk a1 _ hr3), .nt false] rfl fd_17 (by kernel_rfl)
  | false =>
   try dsimp only at h
   obtain rfl := Option.some.inj h
   exact call_wQ [.cl (ok_spec_ExprOk a0 _ hr1), .nt false] rfl fd_17 (by kernel_rfl)

def S_impl_in (a0 : Int) (a1 : Int) (a2 : Int) : Option Bool :=
  if a1 ≤ a0 then
    some (decide (a0 ≤ a2))
  else
    some false

set_option maxRecDepth 100000 in
theorem fd_82 : cfg.funcs 82 = some (bodyOf Try.f82, Try.f82.ntmps, Try.f82.results.toList) := fn_of Try.func82 (by kernel_rfl) (by kernel_rfl)
theorem ok_impl_in (a0 : Int) (a1 : Int) (a2 : Int) (r : Bool) (h : S_impl_in a0 a1 a2 = some r) : (mach cfg).call 82 [] [.val false [.int .i64 a0], .val false [.int .i64 a1], .val false [.int .i64 a2]] = some (.val false [.bool r], []) := by
  unfold S_impl_in at h
  rcases ite_some h with ⟨c1, h⟩ | ⟨c1, h⟩
  ·obtain rfl := Option.some.inj h
   exact call_wQ [.gT c1, .gD a0 a2] rfl fd_82 (by kernel_rfl)
  ·obtain rfl := Option.some.inj h
   exact call_wQ [.gF c1] rfl fd_82 (by kernel_rfl)

def L_impl_isName_l0 (a0 : (List UInt8)) (v1 : Int) : Nat → Int → Option (Bool ⊕ Int)
  | 0, _ => none
  | m + 1, v2 =>
    if v2 < v1 then
      (natO v2).bind fun i2 =>
      (a0[i2]?).bind fun x3 =>
      if ((x3.toNat : Nat) : Int) < 97 then
        some (.inl false)
      else
        if 122 < ((x3.toNat : Nat) : Int) then
          some (.inl false)
        else
          L_impl_isName_l0 a0 v1 m (w64 (v2 + 1))
    else
      some (.inr v2)

theorem gl_impl_isName_l0 (a0 : (List UInt8)) (v1 : Int) (m : Nat) : ∀ (v2 : Int) (o : (Bool ⊕ Int)), L_impl_isName_l0 a0 v1 m v2 = some o → (mach cfg).loop 58 (loopB Try.f58 0) ⟨[(0, .val false [.seq (eL e_u8 a0)]), (5, .val false [.seq (eL e_u8 a0)]), (6, .val false [.int .i64 v1]), (7, .val false [.int .i64 v2])], [], 0⟩ = some (match o with | .inl o_0 => (.ret, (⟨[(2, .val false [.bool o_0])], [], 0⟩ : S)) | .inr (o_1) => (.exit 0, (⟨[(0, .val false [.seq (eL e_u8 a0)]), (5, .val false [.seq (eL e_u8 a0)]), (6, .val false [.int .i64 v1]), (7, .val false [.int .i64 o_1]), (8, .val false [.bool false])], [], 0⟩ : S))) := by
  induction m with
  | zero => intro v2 o h; cases h
  | succ m ih =>
    intro v2 o h
    rw [L_impl_isName_l0] at h
    rcases ite_some h with ⟨c1, h⟩ | ⟨c1, h⟩
    ·obtain ⟨i2, hi2, h⟩ := bs h
     obtain ⟨x3, hx3, h⟩ := bs h
     rcases ite_some h with ⟨c4, h⟩ | ⟨c4, h⟩
     ·obtain rfl := Option.some.inj h
      exact loop_eQ [.lT c1, .na hi2, .ix0 e_u8 hx3, .lT c4] (by kernel_rfl) (by intro h; cases h)
     ·rcases ite_some h with ⟨c5, h⟩ | ⟨c5, h⟩
      ·obtain rfl := Option.some.inj h
       exact loop_eQ [.lT c1, .na hi2, .ix0 e_u8 hx3, .lF c4, .lT c5] (by kernel_rfl) (by intro h; cases h)
      ·exact loop_nQ [.lT c1, .na hi2, .ix0 e_u8 hx3, .lF c4, .lF c5, .ad v2 1] (by kernel_rfl) (ih (w64 (v2 + 1)) o h)
    ·obtain rfl := Option.some.inj h
     exact loop_eQ [.lF c1] (by kernel_rfl) (by intro h; cases h)

def T_impl_isName (n : Nat) (a0 : (List UInt8)) : Option Bool :=
  (L_impl_isName_l0 a0 ((a0.length : Nat) : Int) n 0).bind fun o1 =>
  match o1 with
  | .inl o1_0 =>
    some o1_0
  | .inr (o1_1) =>
    (S_impl_in ((a0.length : Nat) : Int) 1 8).bind fun r2 =>
    some r2

set_option maxRecDepth 100000 in
theorem fd_58 : cfg.funcs 58 = some (bodyOf Try.f58, Try.f58.ntmps, Try.f58.results.toList) := fn_of Try.func58 (by kernel_rfl) (by kernel_rfl)
theorem g_impl_isName (n : Nat) (a0 : (List UInt8)) (r : Bool) (h : T_impl_isName n a0 = some r) : (mach cfg).call 58 [] [.val false [.seq (eL e_u8 a0)]] = some (.val false [.bool r], []) := by
  unfold T_impl_isName at h
  obtain ⟨o1, ho1, h⟩ := bs h
  rcases o1 with o1_0 | o1_1
  · try dsimp only at h
    obtain rfl := Option.some.inj h
    exact call_wQ [.le e_u8 a0, .lp (gl_impl_isName_l0 a0 ((a0.length : Nat) : Int) _ 0 _ ho1)] rfl fd_58 (by kernel_rfl)
  · try dsimp only at h
    obtain ⟨r2, hr2, h⟩ := bs h
    obtain rfl := Option.some.inj h
    exact call_wQ [.le e_u8 a0, .lp (gl_impl_isName_l0 a0 ((a0.length : Nat) : Int) _ 0 _ ho1), .le e_u8 a0, .cl (ok_impl_in ((a0.length : Nat) : Int) 1 8 _ hr2)] rfl fd_58 (by kernel_rfl)

theorem impl_isName_loop {a : List UInt8} (ha : a.length ≤ 2 ^ 20) : ∀ (d i m : Nat), i + d = a.length → d < m → ∃ z, L_impl_isName_l0 a (a.length : Int) m (i : Int) = some (if (a.drop i).all (inB 97 122) = true then .inr z else .inl false) := by
  intro d
  induction d with
  | zero =>
    intro i m hi hm
    obtain ⟨m, rfl, _⟩ := fuel hm
    exact ⟨_, by rw [L_impl_isName_l0, if_neg (by omega), List.drop_eq_nil_of_le (by omega)]; rfl⟩
  | succ d ih =>
    intro i m hi hm
    obtain ⟨m, rfl, hm'⟩ := fuel hm
    have hil : i < a.length := by omega
    rw [L_impl_isName_l0, if_pos (by omega), natO_nat, Option.bind_some, get_some hil, Option.bind_some, w64_succ (by omega), drop_cons hil, List.all_cons]
    by_cases h1 : ((a[i].toNat : Nat) : Int) < 97
    · exact ⟨0, by rw [if_pos h1, if_neg]; simp [inB]; omega⟩
    · rw [if_neg h1]
      by_cases h2 : (122 : Int) < ((a[i].toNat : Nat) : Int)
      · exact ⟨0, by rw [if_pos h2, if_neg]; simp [inB]; omega⟩
      · rw [if_neg h2, show inB 97 122 a[i] = true by simp [inB]; omega, Bool.true_and]
        exact ih (i + 1) m (by omega) (by omega)
theorem in_eq (a b c : Int) : S_impl_in a b c = some (decide (b ≤ a ∧ a ≤ c)) := by
  unfold S_impl_in
  by_cases h : b ≤ a
  · rw [if_pos h]; simp [h]
  · rw [if_neg h]; simp [h]
def S_impl_isName (a0 : (List UInt8)) : Option Bool := if a0.length ≤ 2 ^ 20 then some (nameB a0) else none
theorem spec_impl_isName (a0 : (List UInt8)) (r : Bool) (h : S_impl_isName a0 = some r) : ∃ n, T_impl_isName n a0 = some r := by
  unfold S_impl_isName at h
  obtain ⟨ha, h⟩ := need_c h
  refine ⟨a0.length + 1, ?_⟩
  obtain ⟨z, hz⟩ := impl_isName_loop ha a0.length 0 (a0.length + 1) (by omega) (by omega)
  rw [show ((0 : Nat) : Int) = 0 from rfl, List.drop_zero] at hz
  unfold T_impl_isName
  rw [← h, hz]
  unfold nameB
  have hd : decide (1 ≤ a0.length ∧ a0.length ≤ 8) = decide ((1 : Int) ≤ (a0.length : Int) ∧ (a0.length : Int) ≤ 8) := decide_eq_decide.2 (by omega)
  rw [hd]
  cases a0.all (inB 97 122)
  · rw [Bool.and_false]; rfl
  · rw [Bool.and_true]
    simp only [if_true, Option.bind_some, in_eq]
theorem ok_impl_isName (a0 : (List UInt8)) (r : Bool) (h : S_impl_isName a0 = some r) : (mach cfg).call 58 [] [.val false [.seq (eL e_u8 a0)]] = some (.val false [.bool r], []) := by
  obtain ⟨n, hn⟩ := spec_impl_isName a0 r h
  exact g_impl_isName n a0 r hn
def S_bytes_Compare (a0 : (List UInt8)) (a1 : (List UInt8)) : Option Int :=
  (S_internal_bytealg_Compare a0 a1).bind fun r1 =>
  some r1

set_option maxRecDepth 100000 in
theorem fd_110 : cfg.funcs 110 = some (bodyOf Try.f110, Try.f110.ntmps, Try.f110.results.toList) := fn_of Try.func110 (by kernel_rfl) (by kernel_rfl)
theorem ok_bytes_Compare (a0 : (List UInt8)) (a1 : (List UInt8)) (r : Int) (h : S_bytes_Compare a0 a1 = some r) : (mach cfg).call 110 [] [.val false [.seq (eL e_u8 a0)], .val false [.seq (eL e_u8 a1)]] = some (.val false [.int .i64 r], []) := by
  unfold S_bytes_Compare at h
  obtain ⟨r1, hr1, h⟩ := bs h
  obtain rfl := Option.some.inj h
  exact call_wQ [.cl (ok_internal_bytealg_Compare a0 a1 _ hr1)] rfl fd_110 (by kernel_rfl)

def L_impl_isText_l0 (a0 : (List UInt8)) (v1 : Int) : Nat → Int → Option (Bool ⊕ Int)
  | 0, _ => none
  | m + 1, v2 =>
    if v2 < v1 then
      (natO v2).bind fun i2 =>
      (a0[i2]?).bind fun x3 =>
      if ((x3.toNat : Nat) : Int) < 32 then
        some (.inl false)
      else
        if 126 < ((x3.toNat : Nat) : Int) then
          some (.inl false)
        else
          L_impl_isText_l0 a0 v1 m (w64 (v2 + 1))
    else
      some (.inr v2)

theorem gl_impl_isText_l0 (a0 : (List UInt8)) (v1 : Int) (m : Nat) : ∀ (v2 : Int) (o : (Bool ⊕ Int)), L_impl_isText_l0 a0 v1 m v2 = some o → (mach cfg).loop 109 (loopB Try.f109 0) ⟨[(0, .val false [.seq (eL e_u8 a0)]), (5, .val false [.seq (eL e_u8 a0)]), (6, .val false [.int .i64 v1]), (7, .val false [.int .i64 v2])], [], 0⟩ = some (match o with | .inl o_0 => (.ret, (⟨[(2, .val false [.bool o_0])], [], 0⟩ : S)) | .inr (o_1) => (.exit 0, (⟨[(0, .val false [.seq (eL e_u8 a0)]), (5, .val false [.seq (eL e_u8 a0)]), (6, .val false [.int .i64 v1]), (7, .val false [.int .i64 o_1]), (8, .val false [.bool false])], [], 0⟩ : S))) := by
  induction m with
  | zero => intro v2 o h; cases h
  | succ m ih =>
    intro v2 o h
    rw [L_impl_isText_l0] at h
    rcases ite_some h with ⟨c1, h⟩ | ⟨c1, h⟩
    ·obtain ⟨i2, hi2, h⟩ := bs h
     obtain ⟨x3, hx3, h⟩ := bs h
     rcases ite_some h with ⟨c4, h⟩ | ⟨c4, h⟩
     ·obtain rfl := Option.some.inj h
      exact loop_eQ [.lT c1, .na hi2, .ix0 e_u8 hx3, .lT c4] (by kernel_rfl) (by intro h; cases h)
     ·rcases ite_some h with ⟨c5, h⟩ | ⟨c5, h⟩
      ·obtain rfl := Option.some.inj h
       exact loop_eQ [.lT c1, .na hi2, .ix0 e_u8 hx3, .lF c4, .lT c5] (by kernel_rfl) (by intro h; cases h)
      ·exact loop_nQ [.lT c1, .na hi2, .ix0 e_u8 hx3, .lF c4, .lF c5, .ad v2 1] (by kernel_rfl) (ih (w64 (v2 + 1)) o h)
    ·obtain rfl := Option.some.inj h
     exact loop_eQ [.lF c1] (by kernel_rfl) (by intro h; cases h)

def T_impl_isText (n : Nat) (a0 : (List UInt8)) : Option Bool :=
  (L_impl_isText_l0 a0 ((a0.length : Nat) : Int) n 0).bind fun o1 =>
  match o1 with
  | .inl o1_0 =>
    some o1_0
  | .inr (o1_1) =>
    some (decide (((a0.length : Nat) : Int) ≤ 20))

set_option maxRecDepth 100000 in
theorem fd_109 : cfg.funcs 109 = some (bodyOf Try.f109, Try.f109.ntmps, Try.f109.results.toList) := fn_of Try.func109 (by kernel_rfl) (by kernel_rfl)
theorem g_impl_isText (n : Nat) (a0 : (List UInt8)) (r : Bool) (h : T_impl_isText n a0 = some r) : (mach cfg).call 109 [] [.val false [.seq (eL e_u8 a0)]] = some (.val false [.bool r], []) := by
  unfold T_impl_isText at h
  obtain ⟨o1, ho1, h⟩ := bs h
  rcases o1 with o1_0 | o1_1
  · try dsimp only at h
    obtain rfl := Option.some.inj h
    exact call_wQ [.le e_u8 a0, .lp (gl_impl_isText_l0 a0 ((a0.length : Nat) : Int) _ 0 _ ho1)] rfl fd_109 (by kernel_rfl)
  · try dsimp only at h
    obtain rfl := Option.some.inj h
    exact call_wQ [.le e_u8 a0, .lp (gl_impl_isText_l0 a0 ((a0.length : Nat) : Int) _ 0 _ ho1), .le e_u8 a0, .gD ((a0.length : Nat) : Int) 20] rfl fd_109 (by kernel_rfl)

theorem impl_isText_loop {a : List UInt8} (ha : a.length ≤ 2 ^ 20) : ∀ (d i m : Nat), i + d = a.length → d < m → ∃ z, L_impl_isText_l0 a (a.length : Int) m (i : Int) = some (if (a.drop i).all (inB 32 126) = true then .inr z else .inl false) := by
  intro d
  induction d with
  | zero =>
    intro i m hi hm
    obtain ⟨m, rfl, _⟩ := fuel hm
    exact ⟨_, by rw [L_impl_isText_l0, if_neg (by omega), List.drop_eq_nil_of_le (by omega)]; rfl⟩
  | succ d ih =>
    intro i m hi hm
    obtain ⟨m, rfl, hm'⟩ := fuel hm
    have hil : i < a.length := by omega
    rw [L_impl_isText_l0, if_pos (by omega), natO_nat, Option.bind_some, get_some hil, Option.bind_some, w64_succ (by omega), drop_cons hil, List.all_cons]
    by_cases h1 : ((a[i].toNat : Nat) : Int) < 32
    · exact ⟨0, by rw [if_pos h1, if_neg]; simp [inB]; omega⟩
    · rw [if_neg h1]
      by_cases h2 : (126 : Int) < ((a[i].toNat : Nat) : Int)
      · exact ⟨0, by rw [if_pos h2, if_neg]; simp [inB]; omega⟩
      · rw [if_neg h2, show inB 32 126 a[i] = true by simp [inB]; omega, Bool.true_and]
        exact ih (i + 1) m (by omega) (by omega)
def S_impl_isText (a0 : (List UInt8)) : Option Bool := if a0.length ≤ 2 ^ 20 then some (textB a0) else none
theorem spec_impl_isText (a0 : (List UInt8)) (r : Bool) (h : S_impl_isText a0 = some r) : ∃ n, T_impl_isText n a0 = some r := by
  unfold S_impl_isText at h
  obtain ⟨ha, h⟩ := need_c h
  refine ⟨a0.length + 1, ?_⟩
  obtain ⟨z, hz⟩ := impl_isText_loop ha a0.length 0 (a0.length + 1) (by omega) (by omega)
  rw [show ((0 : Nat) : Int) = 0 from rfl, List.drop_zero] at hz
  unfold T_impl_isText
  rw [← h, hz]
  unfold textB
  by_cases hl : a0.length ≤ 20
  · rw [decide_eq_true hl]
    cases a0.all (inB 32 126)
    · rfl
    · show some (decide _) = _; rw [decide_eq_true (by omega)]; rfl
  · rw [decide_eq_false hl]
    cases a0.all (inB 32 126)
    · rfl
    · show some (decide _) = _; rw [decide_eq_false (by omega)]; rfl
theorem ok_impl_isText (a0 : (List UInt8)) (r : Bool) (h : S_impl_isText a0 = some r) : (mach cfg).call 109 [] [.val false [.seq (eL e_u8 a0)]] = some (.val false [.bool r], []) := by
  obtain ⟨n, hn⟩ := spec_impl_isText a0 r h
  exact g_impl_isText n a0 r hn
def S_impl_keptWords : Option (List (List UInt8)) :=
  some [[110, 117, 108, 108], [116, 114, 117, 101], [102, 97, 108, 115, 101], [105, 110, 100, 101, 120], [107, 101, 121], [118, 97, 108], [108, 111, 99, 97, 108], [114, 101, 115], [111, 117, 116], [99, 111, 117, 110, 116], [101, 97, 99, 104]]

set_option maxRecDepth 100000 in
theorem fd_132 : cfg.funcs 132 = some (bodyOf Try.f132, Try.f132.ntmps, Try.f132.results.toList) := fn_of Try.func132 (by kernel_rfl) (by kernel_rfl)
theorem ok_impl_keptWords (r : (List (List UInt8))) (h : S_impl_keptWords = some r) : (mach cfg).call 132 [] [] = some (.val false [.own 1 (eL e_str r)], []) := by
  unfold S_impl_keptWords at h
  obtain rfl := Option.some.inj h
  exact call_wQ [] rfl fd_132 (by kernel_rfl)

end
end Go.Am.Try
