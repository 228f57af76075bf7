/- The functions of the program in plain Lean, and that the machine answers as they do; conditions at each theorem. -/
import Derived.Test.YtnhmhmjgeffboaaXG1
set_option linter.unusedVariables false
set_option linter.unusedSimpArgs false
namespace Go.Am.Try
open Go.Am Go.Proofs
set_option linter.unusedVariables false
set_option maxRecDepth 20000
set_option maxHeartbeats 2000000
noncomputable section
def L_spec_l6expr_l0 (G_spec_l6expr : GExpr → Int → Int → Option Int) (a1 : Int) (a0 : GExpr) : Nat → Int → Int → Option (Int ⊕ (Int × Int))
  | 0, _, _ => none
  | m + 1, v1, v2 =>
    if v2 < ((a0.Kids.length : Nat) : Int) then
      if a0.Kind = 5 then
        (natO v2).bind fun i3 =>
        (a0.K[i3]?).bind fun x4 =>
        (S_spec_NameOk x4).bind fun r5 =>
        match r5 with
        | true =>
          if 0 < v2 then
            (natO (w64 (v2 - 1))).bind fun i8 =>
            (a0.K[i8]?).bind fun x9 =>
            if Op.bytesLess x9 x4 = true then
              (a0.Kids[i3]?).bind fun x11 =>
              (G_spec_l6expr x11 (w64 (a1 + 1)) v1).bind fun r12 =>
              if r12 < 0 then
                some (.inl (-1))
              else
                L_spec_l6expr_l0 G_spec_l6expr a1 a0 m r12 (w64 (v2 + 1))
            else
              some (.inl (-1))
          else
            (a0.Kids[i3]?).bind fun x8 =>
            (G_spec_l6expr x8 (w64 (a1 + 1)) v1).bind fun r9 =>
            if r9 < 0 then
              some (.inl (-1))
            else
              L_spec_l6expr_l0 G_spec_l6expr a1 a0 m r9 (w64 (v2 + 1))
        | false =>
          some (.inl (-1))
      else
        (natO v2).bind fun i3 =>
        (a0.Kids[i3]?).bind fun x4 =>
        (G_spec_l6expr x4 (w64 (a1 + 1)) v1).bind fun r5 =>
        if r5 < 0 then
          some (.inl (-1))
        else
          L_spec_l6expr_l0 G_spec_l6expr a1 a0 m r5 (w64 (v2 + 1))
    else
      some (.inr (v1, v2))

theorem gl_spec_l6expr_l0 (G_spec_l6expr : GExpr → Int → Int → Option Int) (H_spec_l6expr : ∀ (a0 : GExpr) (a1 : Int) (a2 : Int) (r : Int), G_spec_l6expr a0 a1 a2 = some r → (mach cfg).call 78 [] [.val true [.int .i64 a0.Kind, .int .i64 a0.N, .seq (eL e_u8 a0.S), .seq (eL (e_sl e_u8) a0.K), .seq (eL e_GExpr a0.Kids)], .val false [.int .i64 a1], .val false [.int .i64 a2]] = some (.val false [.int .i64 r], [])) (a1 : Int) (a0 : GExpr) (m : Nat) : ∀ (v1 : Int) (v2 : Int) (o : (Int ⊕ (Int × Int))), L_spec_l6expr_l0 G_spec_l6expr a1 a0 m v1 v2 = some o → (mach cfg).loop 78 (loopB Try.f78 0) ⟨[(1, .val false [.int .i64 a1]), (2, .val false [.int .i64 v1]), (3, .val false [.ptr 0 0]), (8, .val false [.int .i64 v2])], [.var [.int .i64 a0.Kind, .int .i64 a0.N, .seq (eL e_u8 a0.S), .seq (eL (e_sl e_u8) a0.K), .seq (eL e_GExpr a0.Kids)]], 0⟩ = some (match o with | .inl o_0 => (.ret, (⟨[(6, .val false [.int .i64 o_0])], [], 0⟩ : S)) | .inr (⟨o_1_0, o_1_1⟩) => (.exit 2, (⟨[(1, .val false [.int .i64 a1]), (2, .val false [.int .i64 o_1_0]), (3, .val false [.ptr 0 0]), (8, .val false [.int .i64 o_1_1]), (129, .val false [.bool false])], [.var [.int .i64 a0.Kind, .int .i64 a0.N, .seq (eL e_u8 a0.S), .seq (eL (e_sl e_u8) a0.K), .seq (eL e_GExpr a0.Kids)]], 0⟩ : S))) := by
  induction m with
  | zero => intro v1 v2 o h; cases h
  | succ m ih =>
    intro v1 v2 o h
    rw [L_spec_l6expr_l0] at h
    by_cases c1 : v2 < ((a0.Kids.length : Nat) : Int)
    · rw [if_pos c1] at h
      by_cases c2 : a0.Kind = 5
      · rw [if_pos c2] at h
        obtain ⟨i3, hi3, h⟩ := Option.bind_eq_some_iff.1 h
        obtain ⟨x4, hx4, h⟩ := Option.bind_eq_some_iff.1 h
        obtain ⟨r5, hr5, h⟩ := Option.bind_eq_some_iff.1 h
        cases r5 with
        | true =>
          try dsimp only at h
          by_cases c7 : 0 < v2
          · rw [if_pos c7] at h
            obtain ⟨i8, hi8, h⟩ := Option.bind_eq_some_iff.1 h
            obtain ⟨x9, hx9, h⟩ := Option.bind_eq_some_iff.1 h
            by_cases c10 : Op.bytesLess x9 x4 = true
            · rw [if_pos c10] at h
              obtain ⟨x11, hx11, h⟩ := Option.bind_eq_some_iff.1 h
              obtain ⟨r12, hr12, h⟩ := Option.bind_eq_some_iff.1 h
              by_cases c13 : r12 < 0
              · rw [if_pos c13] at h
                obtain rfl := Option.some.inj h
                exact loop_end cfg [(.len (eL e_GExpr a0.Kids), .i ((a0.Kids.length : Nat) : Int)), (.ltI v2 ((a0.Kids.length : Nat) : Int), .b true), (.eqI a0.Kind 5, .b true), (.nat v2, .n i3), (.idx (eL (e_sl e_u8) a0.K) i3, .e [.seq (eL e_u8 x4)]), (.call 93 [] [.val false [.seq (eL e_u8 x4)]], .r (.val false [.bool true]) []), (.notB true, .b false), (.ltI 0 v2, .b true), (.sub .i64 v2 1, .i (w64 (v2 - 1))), (.nat (w64 (v2 - 1)), .n i8), (.idx (eL (e_sl e_u8) a0.K) i8, .e [.seq (eL e_u8 x9)]), (.bytes (eL e_u8 x9), .s x9), (.nat v2, .n i3), (.idx (eL (e_sl e_u8) a0.K) i3, .e [.seq (eL e_u8 x4)]), (.bytes (eL e_u8 x4), .s x4), (.ltS x9 x4, .b true), (.notB true, .b false), (.nat v2, .n i3), (.idx (eL e_GExpr a0.Kids) i3, .e [.int .i64 x11.Kind, .int .i64 x11.N, .seq (eL e_u8 x11.S), .seq (eL (e_sl e_u8) x11.K), .seq (eL e_GExpr x11.Kids)]), (.add .i64 a1 1, .i (w64 (a1 + 1))), (.call 78 [] [.val true [.int .i64 x11.Kind, .int .i64 x11.N, .seq (eL e_u8 x11.S), .seq (eL (e_sl e_u8) x11.K), .seq (eL e_GExpr x11.Kids)], .val false [.int .i64 (w64 (a1 + 1))], .val false [.int .i64 v1]], .r (.val false [.int .i64 r12]) []), (.ltI r12 0, .b true)] (by kernel_rfl) ⟨A.len, (A.ltI_t c1), (A.eqI_t c2), (A.nat hi3), (A.idx hx4 rfl), (A.call (ok_spec_NameOk x4 _ hr5)), rfl, (A.ltI_t c7), rfl, (A.nat hi8), (A.idx hx9 rfl), A.bytes, (A.nat hi3), (A.idx hx4 rfl), A.bytes, (A.ltS_t c10), rfl, (A.nat hi3), (A.idx hx11 (eq_GExpr x11)), rfl, (A.call (H_spec_l6expr x11 (w64 (a1 + 1)) v1 _ hr12)), (A.ltI_t c13), trivial⟩ (by intro h; cases h)
              · rw [if_neg c13] at h
                exact loop_on cfg [(.len (eL e_GExpr a0.Kids), .i ((a0.Kids.length : Nat) : Int)), (.ltI v2 ((a0.Kids.length : Nat) : Int), .b true), (.eqI a0.Kind 5, .b true), (.nat v2, .n i3), (.idx (eL (e_sl e_u8) a0.K) i3, .e [.seq (eL e_u8 x4)]), (.call 93 [] [.val false [.seq (eL e_u8 x4)]], .r (.val false [.bool true]) []), (.notB true, .b false), (.ltI 0 v2, .b true), (.sub .i64 v2 1, .i (w64 (v2 - 1))), (.nat (w64 (v2 - 1)), .n i8), (.idx (eL (e_sl e_u8) a0.K) i8, .e [.seq (eL e_u8 x9)]), (.bytes (eL e_u8 x9), .s x9), (.nat v2, .n i3), (.idx (eL (e_sl e_u8) a0.K) i3, .e [.seq (eL e_u8 x4)]), (.bytes (eL e_u8 x4), .s x4), (.ltS x9 x4, .b true), (.notB true, .b false), (.nat v2, .n i3), (.idx (eL e_GExpr a0.Kids) i3, .e [.int .i64 x11.Kind, .int .i64 x11.N, .seq (eL e_u8 x11.S), .seq (eL (e_sl e_u8) x11.K), .seq (eL e_GExpr x11.Kids)]), (.add .i64 a1 1, .i (w64 (a1 + 1))), (.call 78 [] [.val true [.int .i64 x11.Kind, .int .i64 x11.N, .seq (eL e_u8 x11.S), .seq (eL (e_sl e_u8) x11.K), .seq (eL e_GExpr x11.Kids)], .val false [.int .i64 (w64 (a1 + 1))], .val false [.int .i64 v1]], .r (.val false [.int .i64 r12]) []), (.ltI r12 0, .b false), (.add .i64 v2 1, .i (w64 (v2 + 1)))] (by kernel_rfl) ⟨A.len, (A.ltI_t c1), (A.eqI_t c2), (A.nat hi3), (A.idx hx4 rfl), (A.call (ok_spec_NameOk x4 _ hr5)), rfl, (A.ltI_t c7), rfl, (A.nat hi8), (A.idx hx9 rfl), A.bytes, (A.nat hi3), (A.idx hx4 rfl), A.bytes, (A.ltS_t c10), rfl, (A.nat hi3), (A.idx hx11 (eq_GExpr x11)), rfl, (A.call (H_spec_l6expr x11 (w64 (a1 + 1)) v1 _ hr12)), (A.ltI_f c13), rfl, trivial⟩ (ih r12 (w64 (v2 + 1)) o h)
            · rw [if_neg c10] at h
              obtain rfl := Option.some.inj h
              exact loop_end cfg [(.len (eL e_GExpr a0.Kids), .i ((a0.Kids.length : Nat) : Int)), (.ltI v2 ((a0.Kids.length : Nat) : Int), .b true), (.eqI a0.Kind 5, .b true), (.nat v2, .n i3), (.idx (eL (e_sl e_u8) a0.K) i3, .e [.seq (eL e_u8 x4)]), (.call 93 [] [.val false [.seq (eL e_u8 x4)]], .r (.val false [.bool true]) []), (.notB true, .b false), (.ltI 0 v2, .b true), (.sub .i64 v2 1, .i (w64 (v2 - 1))), (.nat (w64 (v2 - 1)), .n i8), (.idx (eL (e_sl e_u8) a0.K) i8, .e [.seq (eL e_u8 x9)]), (.bytes (eL e_u8 x9), .s x9), (.nat v2, .n i3), (.idx (eL (e_sl e_u8) a0.K) i3, .e [.seq (eL e_u8 x4)]), (.bytes (eL e_u8 x4), .s x4), (.ltS x9 x4, .b false), (.notB false, .b true)] (by kernel_rfl) ⟨A.len, (A.ltI_t c1), (A.eqI_t c2), (A.nat hi3), (A.idx hx4 rfl), (A.call (ok_spec_NameOk x4 _ hr5)), rfl, (A.ltI_t c7), rfl, (A.nat hi8), (A.idx hx9 rfl), A.bytes, (A.nat hi3), (A.idx hx4 rfl), A.bytes, (A.ltS_f c10), rfl, trivial⟩ (by intro h; cases h)
          · rw [if_neg c7] at h
            obtain ⟨x8, hx8, h⟩ := Option.bind_eq_some_iff.1 h
            obtain ⟨r9, hr9, h⟩ := Option.bind_eq_some_iff.1 h
            by_cases c10 : r9 < 0
            · rw [if_pos c10] at h
              obtain rfl := Option.some.inj h
              exact loop_end cfg [(.len (eL e_GExpr a0.Kids), .i ((a0.Kids.length : Nat) : Int)), (.ltI v2 ((a0.Kids.length : Nat) : Int), .b true), (.eqI a0.Kind 5, .b true), (.nat v2, .n i3), (.idx (eL (e_sl e_u8) a0.K) i3, .e [.seq (eL e_u8 x4)]), (.call 93 [] [.val false [.seq (eL e_u8 x4)]], .r (.val false [.bool true]) []), (.notB true, .b false), (.ltI 0 v2, .b false), (.nat v2, .n i3), (.idx (eL e_GExpr a0.Kids) i3, .e [.int .i64 x8.Kind, .int .i64 x8.N, .seq (eL e_u8 x8.S), .seq (eL (e_sl e_u8) x8.K), .seq (eL e_GExpr x8.Kids)]), (.add .i64 a1 1, .i (w64 (a1 + 1))), (.call 78 [] [.val true [.int .i64 x8.Kind, .int .i64 x8.N, .seq (eL e_u8 x8.S), .seq (eL (e_sl e_u8) x8.K), .seq (eL e_GExpr x8.Kids)], .val false [.int .i64 (w64 (a1 + 1))], .val false [.int .i64 v1]], .r (.val false [.int .i64 r9]) []), (.ltI r9 0, .b true)] (by kernel_rfl) ⟨A.len, (A.ltI_t c1), (A.eqI_t c2), (A.nat hi3), (A.idx hx4 rfl), (A.call (ok_spec_NameOk x4 _ hr5)), rfl, (A.ltI_f c7), (A.nat hi3), (A.idx hx8 (eq_GExpr x8)), rfl, (A.call (H_spec_l6expr x8 (w64 (a1 + 1)) v1 _ hr9)), (A.ltI_t c10), trivial⟩ (by intro h; cases h)
            · rw [if_neg c10] at h
              exact loop_on cfg [(.len (eL e_GExpr a0.Kids), .i ((a0.Kids.length : Nat) : Int)), (.ltI v2 ((a0.Kids.length : Nat) : Int), .b true), (.eqI a0.Kind 5, .b true), (.nat v2, .n i3), (.idx (eL (e_sl e_u8) a0.K) i3, .e [.seq (eL e_u8 x4)]), (.call 93 [] [.val false [.seq (eL e_u8 x4)]], .r (.val false [.bool true]) []), (.notB true, .b false), (.ltI 0 v2, .b false), (.nat v2, .n i3), (.idx (eL e_GExpr a0.Kids) i3, .e [.int .i64 x8.Kind, .int .i64 x8.N, .seq (eL e_u8 x8.S), .seq (eL (e_sl e_u8) x8.K), .seq (eL e_GExpr x8.Kids)]), (.add .i64 a1 1, .i (w64 (a1 + 1))), (.call 78 [] [.val true [.int .i64 x8.Kind, .int .i64 x8.N, .seq (eL e_u8 x8.S), .seq (eL (e_sl e_u8) x8.K), .seq (eL e_GExpr x8.Kids)], .val false [.int .i64 (w64 (a1 + 1))], .val false [.int .i64 v1]], .r (.val false [.int .i64 r9]) []), (.ltI r9 0, .b false), (.add .i64 v2 1, .i (w64 (v2 + 1)))] (by kernel_rfl) ⟨A.len, (A.ltI_t c1), (A.eqI_t c2), (A.nat hi3), (A.idx hx4 rfl), (A.call (ok_spec_NameOk x4 _ hr5)), rfl, (A.ltI_f c7), (A.nat hi3), (A.idx hx8 (eq_GExpr x8)), rfl, (A.call (H_spec_l6expr x8 (w64 (a1 + 1)) v1 _ hr9)), (A.ltI_f c10), rfl, trivial⟩ (ih r9 (w64 (v2 + 1)) o h)
        | false =>
          try dsimp only at h
          obtain rfl := Option.some.inj h
          exact loop_end cfg [(.len (eL e_GExpr a0.Kids), .i ((a0.Kids.length : Nat) : Int)), (.ltI v2 ((a0.Kids.length : Nat) : Int), .b true), (.eqI a0.Kind 5, .b true), (.nat v2, .n i3), (.idx (eL (e_sl e_u8) a0.K) i3, .e [.seq (eL e_u8 x4)]), (.call 93 [] [.val false [.seq (eL e_u8 x4)]], .r (.val false [.bool false]) []), (.notB false, .b true)] (by kernel_rfl) ⟨A.len, (A.ltI_t c1), (A.eqI_t c2), (A.nat hi3), (A.idx hx4 rfl), (A.call (ok_spec_NameOk x4 _ hr5)), rfl, trivial⟩ (by intro h; cases h)
      · rw [if_neg c2] at h
        obtain ⟨i3, hi3, h⟩ := Option.bind_eq_some_iff.1 h
        obtain ⟨x4, hx4, h⟩ := Option.bind_eq_some_iff.1 h
        obtain ⟨r5, hr5, h⟩ := Option.bind_eq_some_iff.1 h
        by_cases c6 : r5 < 0
        · rw [if_pos c6] at h
          obtain rfl := Option.some.inj h
          exact loop_end cfg [(.len (eL e_GExpr a0.Kids), .i ((a0.Kids.length : Nat) : Int)), (.ltI v2 ((a0.Kids.length : Nat) : Int), .b true), (.eqI a0.Kind 5, .b false), (.nat v2, .n i3), (.idx (eL e_GExpr a0.Kids) i3, .e [.int .i64 x4.Kind, .int .i64 x4.N, .seq (eL e_u8 x4.S), .seq (eL (e_sl e_u8) x4.K), .seq (eL e_GExpr x4.Kids)]), (.add .i64 a1 1, .i (w64 (a1 + 1))), (.call 78 [] [.val true [.int .i64 x4.Kind, .int .i64 x4.N, .seq (eL e_u8 x4.S), .seq (eL (e_sl e_u8) x4.K), .seq (eL e_GExpr x4.Kids)], .val false [.int .i64 (w64 (a1 + 1))], .val false [.int .i64 v1]], .r (.val false [.int .i64 r5]) []), (.ltI r5 0, .b true)] (by kernel_rfl) ⟨A.len, (A.ltI_t c1), (A.eqI_f c2), (A.nat hi3), (A.idx hx4 (eq_GExpr x4)), rfl, (A.call (H_spec_l6expr x4 (w64 (a1 + 1)) v1 _ hr5)), (A.ltI_t c6), trivial⟩ (by intro h; cases h)
        · rw [if_neg c6] at h
          exact loop_on cfg [(.len (eL e_GExpr a0.Kids), .i ((a0.Kids.length : Nat) : Int)), (.ltI v2 ((a0.Kids.length : Nat) : Int), .b true), (.eqI a0.Kind 5, .b false), (.nat v2, .n i3), (.idx (eL e_GExpr a0.Kids) i3, .e [.int .i64 x4.Kind, .int .i64 x4.N, .seq (eL e_u8 x4.S), .seq (eL (e_sl e_u8) x4.K), .seq (eL e_GExpr x4.Kids)]), (.add .i64 a1 1, .i (w64 (a1 + 1))), (.call 78 [] [.val true [.int .i64 x4.Kind, .int .i64 x4.N, .seq (eL e_u8 x4.S), .seq (eL (e_sl e_u8) x4.K), .seq (eL e_GExpr x4.Kids)], .val false [.int .i64 (w64 (a1 + 1))], .val false [.int .i64 v1]], .r (.val false [.int .i64 r5]) []), (.ltI r5 0, .b false), (.add .i64 v2 1, .i (w64 (v2 + 1)))] (by kernel_rfl) ⟨A.len, (A.ltI_t c1), (A.eqI_f c2), (A.nat hi3), (A.idx hx4 (eq_GExpr x4)), rfl, (A.call (H_spec_l6expr x4 (w64 (a1 + 1)) v1 _ hr5)), (A.ltI_f c6), rfl, trivial⟩ (ih r5 (w64 (v2 + 1)) o h)
    · rw [if_neg c1] at h
      obtain rfl := Option.some.inj h
      exact loop_end cfg [(.len (eL e_GExpr a0.Kids), .i ((a0.Kids.length : Nat) : Int)), (.ltI v2 ((a0.Kids.length : Nat) : Int), .b false)] (by kernel_rfl) ⟨A.len, (A.ltI_f c1), trivial⟩ (by intro h; cases h)

def T_spec_l6expr (G_spec_l6expr : GExpr → Int → Int → Option Int) (n : Nat) (a0 : GExpr) (a1 : Int) (a2 : Int) : Option Int :=
  if (w64 (a2 - 1)) < 0 then
    some (-1)
  else
    if 10 < a1 then
      some (-1)
    else
      if a0.Kind < 0 then
        some (-1)
      else
        if 23 < a0.Kind then
          some (-1)
        else
          (S_spec_l6arity a0.Kind).bind fun r5 =>
          if 0 ≤ r5 then
            if ((a0.Kids.length : Nat) : Int) = r5 then
              if a0.Kind = 5 then
                if ((a0.K.length : Nat) : Int) = ((a0.Kids.length : Nat) : Int) then
                  if a0.N = 0 then
                    if 0 < ((a0.S.length : Nat) : Int) then
                      some (-1)
                    else
                      (L_spec_l6expr_l0 G_spec_l6expr a1 a0 n (w64 (a2 - 1)) 0).bind fun o12 =>
                      match o12 with
                      | .inl o12_0 =>
                        some o12_0
                      | .inr (⟨o12_1_0, o12_1_1⟩) =>
                        some o12_1_0
                  else
                    some (-1)
                else
                  some (-1)
              else
                if 0 < ((a0.K.length : Nat) : Int) then
                  some (-1)
                else
                  if a0.Kind = 1 then
                    if a0.N < 0 then
                      some (-1)
                    else
                      if 1 < a0.N then
                        some (-1)
                      else
                        if 0 < ((a0.S.length : Nat) : Int) then
                          some (-1)
                        else
                          (L_spec_l6expr_l0 G_spec_l6expr a1 a0 n (w64 (a2 - 1)) 0).bind fun o14 =>
                          match o14 with
                          | .inl o14_0 =>
                            some o14_0
                          | .inr (⟨o14_1_0, o14_1_1⟩) =>
                            some o14_1_0
                  else
                    if a0.Kind = 2 then
                      if a0.N < 0 then
                        some (-1)
                      else
                        if 1000000000000 < a0.N then
                          some (-1)
                        else
                          if 0 < ((a0.S.length : Nat) : Int) then
                            some (-1)
                          else
                            (L_spec_l6expr_l0 G_spec_l6expr a1 a0 n (w64 (a2 - 1)) 0).bind fun o15 =>
                            match o15 with
                            | .inl o15_0 =>
                              some o15_0
                            | .inr (⟨o15_1_0, o15_1_1⟩) =>
                              some o15_1_0
                    else
                      if a0.N = 0 then
                        if a0.Kind = 3 then
                          (S_spec_l2text a0.S).bind fun r14 =>
                          match r14 with
                          | true =>
                            (L_spec_l6expr_l0 G_spec_l6expr a1 a0 n (w64 (a2 - 1)) 0).bind fun o16 =>
                            match o16 with
                            | .inl o16_0 =>
                              some o16_0
                            | .inr (⟨o16_1_0, o16_1_1⟩) =>
                              some o16_1_0
                          | false =>
                            some (-1)
                        else
                          if a0.Kind = 6 then
                            (S_spec_NameOk a0.S).bind fun r15 =>
                            match r15 with
                            | true =>
                              (L_spec_l6expr_l0 G_spec_l6expr a1 a0 n (w64 (a2 - 1)) 0).bind fun o17 =>
                              match o17 with
                              | .inl o17_0 =>
                                some o17_0
                              | .inr (⟨o17_1_0, o17_1_1⟩) =>
                                some o17_1_0
                            | false =>
                              some (-1)
                          else
                            if a0.Kind = 8 then
                              (S_spec_NameOk a0.S).bind fun r16 =>
                              match r16 with
                              | true =>
                                (L_spec_l6expr_l0 G_spec_l6expr a1 a0 n (w64 (a2 - 1)) 0).bind fun o18 =>
                                match o18 with
                                | .inl o18_0 =>
                                  some o18_0
                                | .inr (⟨o18_1_0, o18_1_1⟩) =>
                                  some o18_1_0
                              | false =>
                                some (-1)
                            else
                              if a0.Kind = 23 then
                                (S_spec_NameOk a0.S).bind fun r17 =>
                                match r17 with
                                | true =>
                                  (S_spec_l6kept a0.S).bind fun r19 =>
                                  match r19 with
                                  | true =>
                                    some (-1)
                                  | false =>
                                    (L_spec_l6expr_l0 G_spec_l6expr a1 a0 n (w64 (a2 - 1)) 0).bind fun o21 =>
                                    match o21 with
                                    | .inl o21_0 =>
                                      some o21_0
                                    | .inr (⟨o21_1_0, o21_1_1⟩) =>
                                      some o21_1_0
                                | false =>
                                  some (-1)
                              else
                                if a0.Kind = 7 then
                                  (S_spec_l6free a0.S).bind fun r18 =>
                                  match r18 with
                                  | true =>
                                    (L_spec_l6expr_l0 G_spec_l6expr a1 a0 n (w64 (a2 - 1)) 0).bind fun o20 =>
                                    match o20 with
                                    | .inl o20_0 =>
                                      some o20_0
                                    | .inr (⟨o20_1_0, o20_1_1⟩) =>
                                      some o20_1_0
                                  | false =>
                                    some (-1)
                                else
                                  if 0 < ((a0.S.length : Nat) : Int) then
                                    some (-1)
                                  else
                                    (L_spec_l6expr_l0 G_spec_l6expr a1 a0 n (w64 (a2 - 1)) 0).bind fun o19 =>
                                    match o19 with
                                    | .inl o19_0 =>
                                      some o19_0
                                    | .inr (⟨o19_1_0, o19_1_1⟩) =>
                                      some o19_1_0
                      else
                        some (-1)
            else
              some (-1)
          else
            if a0.Kind = 5 then
              if ((a0.K.length : Nat) : Int) = ((a0.Kids.length : Nat) : Int) then
                if a0.N = 0 then
                  if 0 < ((a0.S.length : Nat) : Int) then
                    some (-1)
                  else
                    (L_spec_l6expr_l0 G_spec_l6expr a1 a0 n (w64 (a2 - 1)) 0).bind fun o11 =>
                    match o11 with
                    | .inl o11_0 =>
                      some o11_0
                    | .inr (⟨o11_1_0, o11_1_1⟩) =>
                      some o11_1_0
                else
                  some (-1)
              else
                some (-1)
            else
              if 0 < ((a0.K.length : Nat) : Int) then
                some (-1)
              else
                if a0.Kind = 1 then
                  if a0.N < 0 then
                    some (-1)
                  else
                    if 1 < a0.N then
                      some (-1)
                    else
                      if 0 < ((a0.S.length : Nat) : Int) then
                        some (-1)
                      else
                        (L_spec_l6expr_l0 G_spec_l6expr a1 a0 n (w64 (a2 - 1)) 0).bind fun o13 =>
                        match o13 with
                        | .inl o13_0 =>
                          some o13_0
                        | .inr (⟨o13_1_0, o13_1_1⟩) =>
                          some o13_1_0
                else
                  if a0.Kind = 2 then
                    if a0.N < 0 then
                      some (-1)
                    else
                      if 1000000000000 < a0.N then
                        some (-1)
                      else
                        if 0 < ((a0.S.length : Nat) : Int) then
                          some (-1)
                        else
                          (L_spec_l6expr_l0 G_spec_l6expr a1 a0 n (w64 (a2 - 1)) 0).bind fun o14 =>
                          match o14 with
                          | .inl o14_0 =>
                            some o14_0
                          | .inr (⟨o14_1_0, o14_1_1⟩) =>
                            some o14_1_0
                  else
                    if a0.N = 0 then
                      if a0.Kind = 3 then
                        (S_spec_l2text a0.S).bind fun r13 =>
                        match r13 with
                        | true =>
                          (L_spec_l6expr_l0 G_spec_l6expr a1 a0 n (w64 (a2 - 1)) 0).bind fun o15 =>
                          match o15 with
                          | .inl o15_0 =>
                            some o15_0
                          | .inr (⟨o15_1_0, o15_1_1⟩) =>
                            some o15_1_0
                        | false =>
                          some (-1)
                      else
                        if a0.Kind = 6 then
                          (S_spec_NameOk a0.S).bind fun r14 =>
                          match r14 with
                          | true =>
                            (L_spec_l6expr_l0 G_spec_l6expr a1 a0 n (w64 (a2 - 1)) 0).bind fun o16 =>
                            match o16 with
                            | .inl o16_0 =>
                              some o16_0
                            | .inr (⟨o16_1_0, o16_1_1⟩) =>
                              some o16_1_0
                          | false =>
                            some (-1)
                        else
                          if a0.Kind = 8 then
                            (S_spec_NameOk a0.S).bind fun r15 =>
                            match r15 with
                            | true =>
                              (L_spec_l6expr_l0 G_spec_l6expr a1 a0 n (w64 (a2 - 1)) 0).bind fun o17 =>
                              match o17 with
                              | .inl o17_0 =>
                                some o17_0
                              | .inr (⟨o17_1_0, o17_1_1⟩) =>
                                some o17_1_0
                            | false =>
                              some (-1)
                          else
                            if a0.Kind = 23 then
                              (S_spec_NameOk a0.S).bind fun r16 =>
                              match r16 with
                              | true =>
                                (S_spec_l6kept a0.S).bind fun r18 =>
                                match r18 with
                                | true =>
                                  some (-1)
                                | false =>
                                  (L_spec_l6expr_l0 G_spec_l6expr a1 a0 n (w64 (a2 - 1)) 0).bind fun o20 =>
                                  match o20 with
                                  | .inl o20_0 =>
                                    some o20_0
                                  | .inr (⟨o20_1_0, o20_1_1⟩) =>
                                    some o20_1_0
                              | false =>
                                some (-1)
                            else
                              if a0.Kind = 7 then
                                (S_spec_l6free a0.S).bind fun r17 =>
                                match r17 with
                                | true =>
                                  (L_spec_l6expr_l0 G_spec_l6expr a1 a0 n (w64 (a2 - 1)) 0).bind fun o19 =>
                                  match o19 with
                                  | .inl o19_0 =>
                                    some o19_0
                                  | .inr (⟨o19_1_0, o19_1_1⟩) =>
                                    some o19_1_0
                                | false =>
                                  some (-1)
                              else
                                if 0 < ((a0.S.length : Nat) : Int) then
                                  some (-1)
                                else
                                  (L_spec_l6expr_l0 G_spec_l6expr a1 a0 n (w64 (a2 - 1)) 0).bind fun o18 =>
                                  match o18 with
                                  | .inl o18_0 =>
                                    some o18_0
                                  | .inr (⟨o18_1_0, o18_1_1⟩) =>
                                    some o18_1_0
                    else
                      some (-1)

set_option maxRecDepth 100000 in
theorem fd_78 : cfg.funcs 78 = some (bodyOf Try.f78, Try.f78.ntmps, Try.f78.results.toList) := fn_of Try.func78 (by kernel_rfl) (by kernel_rfl)
theorem g_spec_l6expr (G_spec_l6expr : GExpr → Int → Int → Option Int) (H_spec_l6expr : ∀ (a0 : GExpr) (a1 : Int) (a2 : Int) (r : Int), G_spec_l6expr a0 a1 a2 = some r → (mach cfg).call 78 [] [.val true [.int .i64 a0.Kind, .int .i64 a0.N, .seq (eL e_u8 a0.S), .seq (eL (e_sl e_u8) a0.K), .seq (eL e_GExpr a0.Kids)], .val false [.int .i64 a1], .val false [.int .i64 a2]] = some (.val false [.int .i64 r], [])) (n : Nat) (a0 : GExpr) (a1 : Int) (a2 : Int) (r : Int) (h : T_spec_l6expr G_spec_l6expr n a0 a1 a2 = some r) : (mach cfg).call 78 [] [.val true [.int .i64 a0.Kind, .int .i64 a0.N, .seq (eL e_u8 a0.S), .seq (eL (e_sl e_u8) a0.K), .seq (eL e_GExpr a0.Kids)], .val false [.int .i64 a1], .val false [.int .i64 a2]] = some (.val false [.int .i64 r], []) := by
  unfold T_spec_l6expr at h
  by_cases c1 : (w64 (a2 - 1)) < 0
  · rw [if_pos c1] at h
    obtain rfl := Option.some.inj h
    exact call_way cfg [(.sub .i64 a2 1, .i (w64 (a2 - 1))), (.ltI (w64 (a2 - 1)) 0, .b true)] rfl fd_78 (by kernel_rfl) ⟨rfl, (A.ltI_t c1), trivial⟩
  · rw [if_neg c1] at h
    by_cases c2 : 10 < a1
    · rw [if_pos c2] at h
      obtain rfl := Option.some.inj h
      exact call_way cfg [(.sub .i64 a2 1, .i (w64 (a2 - 1))), (.ltI (w64 (a2 - 1)) 0, .b false), (.ltI 10 a1, .b true)] rfl fd_78 (by kernel_rfl) ⟨rfl, (A.ltI_f c1), (A.ltI_t c2), trivial⟩
    · rw [if_neg c2] at h
      by_cases c3 : a0.Kind < 0
      · rw [if_pos c3] at h
        obtain rfl := Option.some.inj h
        exact call_way cfg [(.sub .i64 a2 1, .i (w64 (a2 - 1))), (.ltI (w64 (a2 - 1)) 0, .b false), (.ltI 10 a1, .b false), (.ltI a0.Kind 0, .b true)] rfl fd_78 (by kernel_rfl) ⟨rfl, (A.ltI_f c1), (A.ltI_f c2), (A.ltI_t c3), trivial⟩
      · rw [if_neg c3] at h
        by_cases c4 : 23 < a0.Kind
        · rw [if_pos c4] at h
          obtain rfl := Option.some.inj h
          exact call_way cfg [(.sub .i64 a2 1, .i (w64 (a2 - 1))), (.ltI (w64 (a2 - 1)) 0, .b false), (.ltI 10 a1, .b false), (.ltI a0.Kind 0, .b false), (.ltI 23 a0.Kind, .b true)] rfl fd_78 (by kernel_rfl) ⟨rfl, (A.ltI_f c1), (A.ltI_f c2), (A.ltI_f c3), (A.ltI_t c4), trivial⟩
        · rw [if_neg c4] at h
          obtain ⟨r5, hr5, h⟩ := Option.bind_eq_some_iff.1 h
          by_cases c6 : 0 ≤ r5
          · rw [if_pos c6] at h
            by_cases c7 : ((a0.Kids.length : Nat) : Int) = r5
            · rw [if_pos c7] at h
              by_cases c8 : a0.Kind = 5
              · rw [if_pos c8] at h
                by_cases c9 : ((a0.K.length : Nat) : Int) = ((a0.Kids.length : Nat) : Int)
                · rw [if_pos c9] at h
                  by_cases c10 : a0.N = 0
                  · rw [if_pos c10] at h
                    by_cases c11 : 0 < ((a0.S.length : Nat) : Int)
                    · rw [if_pos c11] at h
                      obtain rfl := Option.some.inj h
                      exact call_way cfg [(.sub .i64 a2 1, .i (w64 (a2 - 1))), (.ltI (w64 (a2 - 1)) 0, .b false), (.ltI 10 a1, .b false), (.ltI a0.Kind 0, .b false), (.ltI 23 a0.Kind, .b false), (.call 101 [] [.val false [.int .i64 a0.Kind]], .r (.val false [.int .i64 r5]) []), (.leI 0 r5, .b true), (.len (eL e_GExpr a0.Kids), .i ((a0.Kids.length : Nat) : Int)), (.eqI ((a0.Kids.length : Nat) : Int) r5, .b true), (.notB true, .b false), (.eqI a0.Kind 5, .b true), (.len (eL (e_sl e_u8) a0.K), .i ((a0.K.length : Nat) : Int)), (.len (eL e_GExpr a0.Kids), .i ((a0.Kids.length : Nat) : Int)), (.eqI ((a0.K.length : Nat) : Int) ((a0.Kids.length : Nat) : Int), .b true), (.notB true, .b false), (.eqI a0.Kind 5, .b true), (.notB true, .b false), (.eqI a0.Kind 1, .b false), (.eqI a0.Kind 2, .b false), (.eqI a0.N 0, .b true), (.notB true, .b false), (.eqI a0.Kind 3, .b false), (.eqI a0.Kind 6, .b false), (.eqI a0.Kind 8, .b false), (.eqI a0.Kind 23, .b false), (.eqI a0.Kind 7, .b false), (.len (eL e_u8 a0.S), .i ((a0.S.length : Nat) : Int)), (.ltI 0 ((a0.S.length : Nat) : Int), .b true)] rfl fd_78 (by kernel_rfl) ⟨rfl, (A.ltI_f c1), (A.ltI_f c2), (A.ltI_f c3), (A.ltI_f c4), (A.call (ok_spec_l6arity a0.Kind _ hr5)), (A.leI_t c6), A.len, (A.eqI_t c7), rfl, (A.eqI_t c8), A.len, A.len, (A.eqI_t c9), rfl, (A.eqI_t c8), rfl, (A.eqI_f (by omega)), (A.eqI_f (by omega)), (A.eqI_t c10), rfl, (A.eqI_f (by omega)), (A.eqI_f (by omega)), (A.eqI_f (by omega)), (A.eqI_f (by omega)), (A.eqI_f (by omega)), A.len, (A.ltI_t c11), trivial⟩
                    · rw [if_neg c11] at h
                      obtain ⟨o12, ho12, h⟩ := Option.bind_eq_some_iff.1 h
                      rcases o12 with o12_0 | ⟨o12_1_0, o12_1_1⟩
                      · try dsimp only at h
                        obtain rfl := Option.some.inj h
                        exact call_way cfg [(.sub .i64 a2 1, .i (w64 (a2 - 1))), (.ltI (w64 (a2 - 1)) 0, .b false), (.ltI 10 a1, .b false), (.ltI a0.Kind 0, .b false), (.ltI 23 a0.Kind, .b false), (.call 101 [] [.val false [.int .i64 a0.Kind]], .r (.val false [.int .i64 r5]) []), (.leI 0 r5, .b true), (.len (eL e_GExpr a0.Kids), .i ((a0.Kids.length : Nat) : Int)), (.eqI ((a0.Kids.length : Nat) : Int) r5, .b true), (.notB true, .b false), (.eqI a0.Kind 5, .b true), (.len (eL (e_sl e_u8) a0.K), .i ((a0.K.length : Nat) : Int)), (.len (eL e_GExpr a0.Kids), .i ((a0.Kids.length : Nat) : Int)), (.eqI ((a0.K.length : Nat) : Int) ((a0.Kids.length : Nat) : Int), .b true), (.notB true, .b false), (.eqI a0.Kind 5, .b true), (.notB true, .b false), (.eqI a0.Kind 1, .b false), (.eqI a0.Kind 2, .b false), (.eqI a0.N 0, .b true), (.notB true, .b false), (.eqI a0.Kind 3, .b false), (.eqI a0.Kind 6, .b false), (.eqI a0.Kind 8, .b false), (.eqI a0.Kind 23, .b false), (.eqI a0.Kind 7, .b false), (.len (eL e_u8 a0.S), .i ((a0.S.length : Nat) : Int)), (.ltI 0 ((a0.S.length : Nat) : Int), .b false), (.loop 78 (loopB Try.f78 0) ⟨[(1, .val false [.int .i64 a1]), (2, .val false [.int .i64 (w64 (a2 - 1))]), (3, .val false [.ptr 0 0]), (8, .val false [.int .i64 0])], [.var [.int .i64 a0.Kind, .int .i64 a0.N, .seq (eL e_u8 a0.S), .seq (eL (e_sl e_u8) a0.K), .seq (eL e_GExpr a0.Kids)]], 0⟩, .x (.ret) ⟨[(6, .val false [.int .i64 o12_0])], [], 0⟩)] rfl fd_78 (by kernel_rfl) ⟨rfl, (A.ltI_f c1), (A.ltI_f c2), (A.ltI_f c3), (A.ltI_f c4), (A.call (ok_spec_l6arity a0.Kind _ hr5)), (A.leI_t c6), A.len, (A.eqI_t c7), rfl, (A.eqI_t c8), A.len, A.len, (A.eqI_t c9), rfl, (A.eqI_t c8), rfl, (A.eqI_f (by omega)), (A.eqI_f (by omega)), (A.eqI_t c10), rfl, (A.eqI_f (by omega)), (A.eqI_f (by omega)), (A.eqI_f (by omega)), (A.eqI_f (by omega)), (A.eqI_f (by omega)), A.len, (A.ltI_f c11), (A.loop (gl_spec_l6expr_l0 G_spec_l6expr H_spec_l6expr a1 a0 _ (w64 (a2 - 1)) 0 _ ho12)), trivial⟩
                      · try dsimp only at h
                        obtain rfl := Option.some.inj h
                        exact call_way cfg [(.sub .i64 a2 1, .i (w64 (a2 - 1))), (.ltI (w64 (a2 - 1)) 0, .b false), (.ltI 10 a1, .b false), (.ltI a0.Kind 0, .b false), (.ltI 23 a0.Kind, .b false), (.call 101 [] [.val false [.int .i64 a0.Kind]], .r (.val false [.int .i64 r5]) []), (.leI 0 r5, .b true), (.len (eL e_GExpr a0.Kids), .i ((a0.Kids.length : Nat) : Int)), (.eqI ((a0.Kids.length : Nat) : Int) r5, .b true), (.notB true, .b false), (.eqI a0.Kind 5, .b true), (.len (eL (e_sl e_u8) a0.K), .i ((a0.K.length : Nat) : Int)), (.len (eL e_GExpr a0.Kids), .i ((a0.Kids.length : Nat) : Int)), (.eqI ((a0.K.length : Nat) : Int) ((a0.Kids.length : Nat) : Int), .b true), (.notB true, .b false), (.eqI a0.Kind 5, .b true), (.notB true, .b false), (.eqI a0.Kind 1, .b false), (.eqI a0.Kind 2, .b false), (.eqI a0.N 0, .b true), (.notB true, .b false), (.eqI a0.Kind 3, .b false), (.eqI a0.Kind 6, .b false), (.eqI a0.Kind 8, .b false), (.eqI a0.Kind 23, .b false), (.eqI a0.Kind 7, .b false), (.len (eL e_u8 a0.S), .i ((a0.S.length : Nat) : Int)), (.ltI 0 ((a0.S.length : Nat) : Int), .b false), (.loop 78 (loopB Try.f78 0) ⟨[(1, .val false [.int .i64 a1]), (2, .val false [.int .i64 (w64 (a2 - 1))]), (3, .val false [.ptr 0 0]), (8, .val false [.int .i64 0])], [.var [.int .i64 a0.Kind, .int .i64 a0.N, .seq (eL e_u8 a0.S), .seq (eL (e_sl e_u8) a0.K), .seq (eL e_GExpr a0.Kids)]], 0⟩, .x (.exit 2) ⟨[(1, .val false [.int .i64 a1]), (2, .val false [.int .i64 o12_1_0]), (3, .val false [.ptr 0 0]), (8, .val false [.int .i64 o12_1_1]), (129, .val false [.bool false])], [.var [.int .i64 a0.Kind, .int .i64 a0.N, .seq (eL e_u8 a0.S), .seq (eL (e_sl e_u8) a0.K), .seq (eL e_GExpr a0.Kids)]], 0⟩)] rfl fd_78 (by kernel_rfl) ⟨rfl, (A.ltI_f c1), (A.ltI_f c2), (A.ltI_f c3), (A.ltI_f c4), (A.call (ok_spec_l6arity a0.Kind _ hr5)), (A.leI_t c6), A.len, (A.eqI_t c7), rfl, (A.eqI_t c8), A.len, A.len, (A.eqI_t c9), rfl, (A.eqI_t c8), rfl, (A.eqI_f (by omega)), (A.eqI_f (by omega)), (A.eqI_t c10), rfl, (A.eqI_f (by omega)), (A.eqI_f (by omega)), (A.eqI_f (by omega)), (A.eqI_f (by omega)), (A.eqI_f (by omega)), A.len, (A.ltI_f c11), (A.loop (gl_spec_l6expr_l0 G_spec_l6expr H_spec_l6expr a1 a0 _ (w64 (a2 - 1)) 0 _ ho12)), trivial⟩
                  · rw [if_neg c10] at h
                    obtain rfl := Option.some.inj h
                    exact call_way cfg [(.sub .i64 a2 1, .i (w64 (a2 - 1))), (.ltI (w64 (a2 - 1)) 0, .b false), (.ltI 10 a1, .b false), (.ltI a0.Kind 0, .b false), (.ltI 23 a0.Kind, .b false), (.call 101 [] [.val false [.int .i64 a0.Kind]], .r (.val false [.int .i64 r5]) []), (.leI 0 r5, .b true), (.len (eL e_GExpr a0.Kids), .i ((a0.Kids.length : Nat) : Int)), (.eqI ((a0.Kids.length : Nat) : Int) r5, .b true), (.notB true, .b false), (.eqI a0.Kind 5, .b true), (.len (eL (e_sl e_u8) a0.K), .i ((a0.K.length : Nat) : Int)), (.len (eL e_GExpr a0.Kids), .i ((a0.Kids.length : Nat) : Int)), (.eqI ((a0.K.length : Nat) : Int) ((a0.Kids.length : Nat) : Int), .b true), (.notB true, .b false), (.eqI a0.Kind 5, .b true), (.notB true, .b false), (.eqI a0.Kind 1, .b false), (.eqI a0.Kind 2, .b false), (.eqI a0.N 0, .b false), (.notB false, .b true)] rfl fd_78 (by kernel_rfl) ⟨rfl, (A.ltI_f c1), (A.ltI_f c2), (A.ltI_f c3), (A.ltI_f c4), (A.call (ok_spec_l6arity a0.Kind _ hr5)), (A.leI_t c6), A.len, (A.eqI_t c7), rfl, (A.eqI_t c8), A.len, A.len, (A.eqI_t c9), rfl, (A.eqI_t c8), rfl, (A.eqI_f (by omega)), (A.eqI_f (by omega)), (A.eqI_f c10), rfl, trivial⟩
                · rw [if_neg c9] at h
                  obtain rfl := Option.some.inj h
                  exact call_way cfg [(.sub .i64 a2 1, .i (w64 (a2 - 1))), (.ltI (w64 (a2 - 1)) 0, .b false), (.ltI 10 a1, .b false), (.ltI a0.Kind 0, .b false), (.ltI 23 a0.Kind, .b false), (.call 101 [] [.val false [.int .i64 a0.Kind]], .r (.val false [.int .i64 r5]) []), (.leI 0 r5, .b true), (.len (eL e_GExpr a0.Kids), .i ((a0.Kids.length : Nat) : Int)), (.eqI ((a0.Kids.length : Nat) : Int) r5, .b true), (.notB true, .b false), (.eqI a0.Kind 5, .b true), (.len (eL (e_sl e_u8) a0.K), .i ((a0.K.length : Nat) : Int)), (.len (eL e_GExpr a0.Kids), .i ((a0.Kids.length : Nat) : Int)), (.eqI ((a0.K.length : Nat) : Int) ((a0.Kids.length : Nat) : Int), .b false), (.notB false, .b true)] rfl fd_78 (by kernel_rfl) ⟨rfl, (A.ltI_f c1), (A.ltI_f c2), (A.ltI_f c3), (A.ltI_f c4), (A.call (ok_spec_l6arity a0.Kind _ hr5)), (A.leI_t c6), A.len, (A.eqI_t c7), rfl, (A.eqI_t c8), A.len, A.len, (A.eqI_f c9), rfl, trivial⟩
              · rw [if_neg c8] at h
                by_cases c9 : 0 < ((a0.K.length : Nat) : Int)
                · rw [if_pos c9] at h
                  obtain rfl := Option.some.inj h
                  exact call_way cfg [(.sub .i64 a2 1, .i (w64 (a2 - 1))), (.ltI (w64 (a2 - 1)) 0, .b false), (.ltI 10 a1, .b false), (.ltI a0.Kind 0, .b false), (.ltI 23 a0.Kind, .b false), (.call 101 [] [.val false [.int .i64 a0.Kind]], .r (.val false [.int .i64 r5]) []), (.leI 0 r5, .b true), (.len (eL e_GExpr a0.Kids), .i ((a0.Kids.length : Nat) : Int)), (.eqI ((a0.Kids.length : Nat) : Int) r5, .b true), (.notB true, .b false), (.eqI a0.Kind 5, .b false), (.eqI a0.Kind 5, .b false), (.notB false, .b true), (.len (eL (e_sl e_u8) a0.K), .i ((a0.K.length : Nat) : Int)), (.ltI 0 ((a0.K.length : Nat) : Int), .b true)] rfl fd_78 (by kernel_rfl) ⟨rfl, (A.ltI_f c1), (A.ltI_f c2), (A.ltI_f c3), (A.ltI_f c4), (A.call (ok_spec_l6arity a0.Kind _ hr5)), (A.leI_t c6), A.len, (A.eqI_t c7), rfl, (A.eqI_f c8), (A.eqI_f c8), rfl, A.len, (A.ltI_t c9), trivial⟩
                · rw [if_neg c9] at h
                  by_cases c10 : a0.Kind = 1
                  · rw [if_pos c10] at h
                    by_cases c11 : a0.N < 0
                    · rw [if_pos c11] at h
                      obtain rfl := Option.some.inj h
                      exact call_way cfg [(.sub .i64 a2 1, .i (w64 (a2 - 1))), (.ltI (w64 (a2 - 1)) 0, .b false), (.ltI 10 a1, .b false), (.ltI a0.Kind 0, .b false), (.ltI 23 a0.Kind, .b false), (.call 101 [] [.val false [.int .i64 a0.Kind]], .r (.val false [.int .i64 r5]) []), (.leI 0 r5, .b true), (.len (eL e_GExpr a0.Kids), .i ((a0.Kids.length : Nat) : Int)), (.eqI ((a0.Kids.length : Nat) : Int) r5, .b true), (.notB true, .b false), (.eqI a0.Kind 5, .b false), (.eqI a0.Kind 5, .b false), (.notB false, .b true), (.len (eL (e_sl e_u8) a0.K), .i ((a0.K.length : Nat) : Int)), (.ltI 0 ((a0.K.length : Nat) : Int), .b false), (.eqI a0.Kind 1, .b true), (.ltI a0.N 0, .b true)] rfl fd_78 (by kernel_rfl) ⟨rfl, (A.ltI_f c1), (A.ltI_f c2), (A.ltI_f c3), (A.ltI_f c4), (A.call (ok_spec_l6arity a0.Kind _ hr5)), (A.leI_t c6), A.len, (A.eqI_t c7), rfl, (A.eqI_f c8), (A.eqI_f c8), rfl, A.len, (A.ltI_f c9), (A.eqI_t c10), (A.ltI_t c11), trivial⟩
                    · rw [if_neg c11] at h
                      by_cases c12 : 1 < a0.N
                      · rw [if_pos c12] at h
                        obtain rfl := Option.some.inj h
                        exact call_way cfg [(.sub .i64 a2 1, .i (w64 (a2 - 1))), (.ltI (w64 (a2 - 1)) 0, .b false), (.ltI 10 a1, .b false), (.ltI a0.Kind 0, .b false), (.ltI 23 a0.Kind, .b false), (.call 101 [] [.val false [.int .i64 a0.Kind]], .r (.val false [.int .i64 r5]) []), (.leI 0 r5, .b true), (.len (eL e_GExpr a0.Kids), .i ((a0.Kids.length : Nat) : Int)), (.eqI ((a0.Kids.length : Nat) : Int) r5, .b true), (.notB true, .b false), (.eqI a0.Kind 5, .b false), (.eqI a0.Kind 5, .b false), (.notB false, .b true), (.len (eL (e_sl e_u8) a0.K), .i ((a0.K.length : Nat) : Int)), (.ltI 0 ((a0.K.length : Nat) : Int), .b false), (.eqI a0.Kind 1, .b true), (.ltI a0.N 0, .b false), (.ltI 1 a0.N, .b true)] rfl fd_78 (by kernel_rfl) ⟨rfl, (A.ltI_f c1), (A.ltI_f c2), (A.ltI_f c3), (A.ltI_f c4), (A.call (ok_spec_l6arity a0.Kind _ hr5)), (A.leI_t c6), A.len, (A.eqI_t c7), rfl, (A.eqI_f c8), (A.eqI_f c8), rfl, A.len, (A.ltI_f c9), (A.eqI_t c10), (A.ltI_f c11), (A.ltI_t c12), trivial⟩
                      · rw [if_neg c12] at h
                        by_cases c13 : 0 < ((a0.S.length : Nat) : Int)
                        · rw [if_pos c13] at h
                          obtain rfl := Option.some.inj h
                          exact call_way cfg [(.sub .i64 a2 1, .i (w64 (a2 - 1))), (.ltI (w64 (a2 - 1)) 0, .b false), (.ltI 10 a1, .b false), (.ltI a0.Kind 0, .b false), (.ltI 23 a0.Kind, .b false), (.call 101 [] [.val false [.int .i64 a0.Kind]], .r (.val false [.int .i64 r5]) []), (.leI 0 r5, .b true), (.len (eL e_GExpr a0.Kids), .i ((a0.Kids.length : Nat) : Int)), (.eqI ((a0.Kids.length : Nat) : Int) r5, .b true), (.notB true, .b false), (.eqI a0.Kind 5, .b false), (.eqI a0.Kind 5, .b false), (.notB false, .b true), (.len (eL (e_sl e_u8) a0.K), .i ((a0.K.length : Nat) : Int)), (.ltI 0 ((a0.K.length : Nat) : Int), .b false), (.eqI a0.Kind 1, .b true), (.ltI a0.N 0, .b false), (.ltI 1 a0.N, .b false), (.eqI a0.Kind 3, .b false), (.eqI a0.Kind 6, .b false), (.eqI a0.Kind 8, .b false), (.eqI a0.Kind 23, .b false), (.eqI a0.Kind 7, .b false), (.len (eL e_u8 a0.S), .i ((a0.S.length : Nat) : Int)), (.ltI 0 ((a0.S.length : Nat) : Int), .b true)] rfl fd_78 (by kernel_rfl) ⟨rfl, (A.ltI_f c1), (A.ltI_f c2), (A.ltI_f c3), (A.ltI_f c4), (A.call (ok_spec_l6arity a0.Kind _ hr5)), (A.leI_t c6), A.len, (A.eqI_t c7), rfl, (A.eqI_f c8), (A.eqI_f c8), rfl, A.len, (A.ltI_f c9), (A.eqI_t c10), (A.ltI_f c11), (A.ltI_f c12), (A.eqI_f (by omega)), (A.eqI_f (by omega)), (A.eqI_f (by omega)), (A.eqI_f (by omega)), (A.eqI_f (by omega)), A.len, (A.ltI_t c13), trivial⟩
                        · rw [if_neg c13] at h
                          obtain ⟨o14, ho14, h⟩ := Option.bind_eq_some_iff.1 h
                          rcases o14 with o14_0 | ⟨o14_1_0, o14_1_1⟩
                          · try dsimp only at h
                            obtain rfl := Option.some.inj h
                            exact call_way cfg [(.sub .i64 a2 1, .i (w64 (a2 - 1))), (.ltI (w64 (a2 - 1)) 0, .b false), (.ltI 10 a1, .b false), (.ltI a0.Kind 0, .b false), (.ltI 23 a0.Kind, .b false), (.call 101 [] [.val false [.int .i64 a0.Kind]], .r (.val false [.int .i64 r5]) []), (.leI 0 r5, .b true), (.len (eL e_GExpr a0.Kids), .i ((a0.Kids.length : Nat) : Int)), (.eqI ((a0.Kids.length : Nat) : Int) r5, .b true), (.notB true, .b false), (.eqI a0.Kind 5, .b false), (.eqI a0.Kind 5, .b false), (.notB false, .b true), (.len (eL (e_sl e_u8) a0.K), .i ((a0.K.length : Nat) : Int)), (.ltI 0 ((a0.K.length : Nat) : Int), .b false), (.eqI a0.Kind 1, .b true), (.ltI a0.N 0, .b false), (.ltI 1 a0.N, .b false), (.eqI a0.Kind 3, .b false), (.eqI a0.Kind 6, .b false), (.eqI a0.Kind 8, .b false), (.eqI a0.Kind 23, .b false), (.eqI a0.Kind 7, .b false), (.len (eL e_u8 a0.S), .i ((a0.S.length : Nat) : Int)), (.ltI 0 ((a0.S.length : Nat) : Int), .b false), (.loop 78 (loopB Try.f78 0) ⟨[(1, .val false [.int .i64 a1]), (2, .val false [.int .i64 (w64 (a2 - 1))]), (3, .val false [.ptr 0 0]), (8, .val false [.int .i64 0])], [.var [.int .i64 a0.Kind, .int .i64 a0.N, .seq (eL e_u8 a0.S), .seq (eL (e_sl e_u8) a0.K), .seq (eL e_GExpr a0.Kids)]], 0⟩, .x (.ret) ⟨[(6, .val false [.int .i64 o14_0])], [], 0⟩)] rfl fd_78 (by kernel_rfl) ⟨rfl, (A.ltI_f c1), (A.ltI_f c2), (A.ltI_f c3), (A.ltI_f c4), (A.call (ok_spec_l6arity a0.Kind _ hr5)), (A.leI_t c6), A.len, (A.eqI_t c7), rfl, (A.eqI_f c8), (A.eqI_f c8), rfl, A.len, (A.ltI_f c9), (A.eqI_t c10), (A.ltI_f c11), (A.ltI_f c12), (A.eqI_f (by omega)), (A.eqI_f (by omega)), (A.eqI_f (by omega)), (A.eqI_f (by omega)), (A.eqI_f (by omega)), A.len, (A.ltI_f c13), (A.loop (gl_spec_l6expr_l0 G_spec_l6expr H_spec_l6expr a1 a0 _ (w64 (a2 - 1)) 0 _ ho14)), trivial⟩
                          · try dsimp only at h
                            obtain rfl := Option.some.inj h
                            exact call_way cfg [(.sub .i64 a2 1, .i (w64 (a2 - 1))), (.ltI (w64 (a2 - 1)) 0, .b false), (.ltI 10 a1, .b false), (.ltI a0.Kind 0, .b false), (.ltI 23 a0.Kind, .b false), (.call 101 [] [.val false [.int .i64 a0.Kind]], .r (.val false [.int .i64 r5]) []), (.leI 0 r5, .b true), (.len (eL e_GExpr a0.Kids), .i ((a0.Kids.length : Nat) : Int)), (.eqI ((a0.Kids.length : Nat) : Int) r5, .b true), (.notB true, .b false), (.eqI a0.Kind 5, .b false), (.eqI a0.Kind 5, .b false), (.notB false, .b true), (.len (eL (e_sl e_u8) a0.K), .i ((a0.K.length : Nat) : Int)), (.ltI 0 ((a0.K.length : Nat) : Int), .b false), (.eqI a0.Kind 1, .b true), (.ltI a0.N 0, .b false), (.ltI 1 a0.N, .b false), (.eqI a0.Kind 3, .b false), (.eqI a0.Kind 6, .b false), (.eqI a0.Kind 8, .b false), (.eqI a0.Kind 23, .b false), (.eqI a0.Kind 7, .b false), (.len (eL e_u8 a0.S), .i ((a0.S.length : Nat) : Int)), (.ltI 0 ((a0.S.length : Nat) : Int), .b false), (.loop 78 (loopB Try.f78 0) ⟨[(1, .val false [.int .i64 a1]), (2, .val false [.int .i64 (w64 (a2 - 1))]), (3, .val false [.ptr 0 0]), (8, .val false [.int .i64 0])], [.var [.int .i64 a0.Kind, .int .i64 a0.N, .seq (eL e_u8 a0.S), .seq (eL (e_sl e_u8) a0.K), .seq (eL e_GExpr a0.Kids)]], 0⟩, .x (.exit 2) ⟨[(1, .val false [.int .i64 a1]), (2, .val false [.int .i64 o14_1_0]), (3, .val false [.ptr 0 0]), (8, .val false [.int .i64 o14_1_1]), (129, .val false [.bool false])], [.var [.int .i64 a0.Kind, .int .i64 a0.N, .seq (eL e_u8 a0.S), .seq (eL (e_sl e_u8) a0.K), .seq (eL e_GExpr a0.Kids)]], 0⟩)] rfl fd_78 (by kernel_rfl) ⟨rfl, (A.ltI_f c1), (A.ltI_f c2), (A.ltI_f c3), (A.ltI_f c4), (A.call (ok_spec_l6arity a0.Kind _ hr5)), (A.leI_t c6), A.len, (A.eqI_t c7), rfl, (A.eqI_f c8), (A.eqI_f c8), rfl, A.len, (A.ltI_f c9), (A.eqI_t c10), (A.ltI_f c11), (A.ltI_f c12), (A.eqI_f (by omega)), (A.eqI_f (by omega)), (A.eqI_f (by omega)), (A.eqI_f (by omega)), (A.eqI_f (by omega)), A.len, (A.ltI_f c13), (A.loop (gl_spec_l6expr_l0 G_spec_l6expr H_spec_l6expr a1 a0 _ (w64 (a2 - 1)) 0 _ ho14)), trivial⟩
                  · rw [if_neg c10] at h
                    by_cases c11 : a0.Kind = 2
                    · rw [if_pos c11] at h
                      by_cases c12 : a0.N < 0
                      · rw [if_pos c12] at h
                        obtain rfl := Option.some.inj h
                        exact call_way cfg [(.sub .i64 a2 1, .i (w64 (a2 - 1))), (.ltI (w64 (a2 - 1)) 0, .b false), (.ltI 10 a1, .b false), (.ltI a0.Kind 0, .b false), (.ltI 23 a0.Kind, .b false), (.call 101 [] [.val false [.int .i64 a0.Kind]], .r (.val false [.int .i64 r5]) []), (.leI 0 r5, .b true), (.len (eL e_GExpr a0.Kids), .i ((a0.Kids.length : Nat) : Int)), (.eqI ((a0.Kids.length : Nat) : Int) r5, .b true), (.notB true, .b false), (.eqI a0.Kind 5, .b false), (.eqI a0.Kind 5, .b false), (.notB false, .b true), (.len (eL (e_sl e_u8) a0.K), .i ((a0.K.length : Nat) : Int)), (.ltI 0 ((a0.K.length : Nat) : Int), .b false), (.eqI a0.Kind 1, .b false), (.eqI a0.Kind 2, .b true), (.ltI a0.N 0, .b true)] rfl fd_78 (by kernel_rfl) ⟨rfl, (A.ltI_f c1), (A.ltI_f c2), (A.ltI_f c3), (A.ltI_f c4), (A.call (ok_spec_l6arity a0.Kind _ hr5)), (A.leI_t c6), A.len, (A.eqI_t c7), rfl, (A.eqI_f c8), (A.eqI_f c8), rfl, A.len, (A.ltI_f c9), (A.eqI_f c10), (A.eqI_t c11), (A.ltI_t c12), trivial⟩
                      · rw [if_neg c12] at h
                        by_cases c13 : 1000000000000 < a0.N
                        · rw [if_pos c13] at h
                          obtain rfl := Option.some.inj h
                          exact call_way cfg [(.sub .i64 a2 1, .i (w64 (a2 - 1))), (.ltI (w64 (a2 - 1)) 0, .b false), (.ltI 10 a1, .b false), (.ltI a0.Kind 0, .b false), (.ltI 23 a0.Kind, .b false), (.call 101 [] [.val false [.int .i64 a0.Kind]], .r (.val false [.int .i64 r5]) []), (.leI 0 r5, .b true), (.len (eL e_GExpr a0.Kids), .i ((a0.Kids.length : Nat) : Int)), (.eqI ((a0.Kids.length : Nat) : Int) r5, .b true), (.notB true, .b false), (.eqI a0.Kind 5, .b false), (.eqI a0.Kind 5, .b false), (.notB false, .b true), (.len (eL (e_sl e_u8) a0.K), .i ((a0.K.length : Nat) : Int)), (.ltI 0 ((a0.K.length : Nat) : Int), .b false), (.eqI a0.Kind 1, .b false), (.eqI a0.Kind 2, .b true), (.ltI a0.N 0, .b false), (.ltI 1000000000000 a0.N, .b true)] rfl fd_78 (by kernel_rfl) ⟨rfl, (A.ltI_f c1), (A.ltI_f c2), (A.ltI_f c3), (A.ltI_f c4), (A.call (ok_spec_l6arity a0.Kind _ hr5)), (A.leI_t c6), A.len, (A.eqI_t c7), rfl, (A.eqI_f c8), (A.eqI_f c8), rfl, A.len, (A.ltI_f c9), (A.eqI_f c10), (A.eqI_t c11), (A.ltI_f c12), (A.ltI_t c13), trivial⟩
                        · rw [if_neg c13] at h
                          by_cases c14 : 0 < ((a0.S.length : Nat) : Int)
                          · rw [if_pos c14] at h
                            obtain rfl := Option.some.inj h
                            exact call_way cfg [(.sub .i64 a2 1, .i (w64 (a2 - 1))), (.ltI (w64 (a2 - 1)) 0, .b false), (.ltI 10 a1, .b false), (.ltI a0.Kind 0, .b false), (.ltI 23 a0.Kind, .b false), (.call 101 [] [.val false [.int .i64 a0.Kind]], .r (.val false [.int .i64 r5]) []), (.leI 0 r5, .b true), (.len (eL e_GExpr a0.Kids), .i ((a0.Kids.length : Nat) : Int)), (.eqI ((a0.Kids.length : Nat) : Int) r5, .b true), (.notB true, .b false), (.eqI a0.Kind 5, .b false), (.eqI a0.Kind 5, .b false), (.notB false, .b true), (.len (eL (e_sl e_u8) a0.K), .i ((a0.K.length : Nat) : Int)), (.ltI 0 ((a0.K.length : Nat) : Int), .b false), (.eqI a0.Kind 1, .b false), (.eqI a0.Kind 2, .b true), (.ltI a0.N 0, .b false), (.ltI 1000000000000 a0.N, .b false), (.eqI a0.Kind 3, .b false), (.eqI a0.Kind 6, .b false), (.eqI a0.Kind 8, .b false), (.eqI a0.Kind 23, .b false), (.eqI a0.Kind 7, .b false), (.len (eL e_u8 a0.S), .i ((a0.S.length : Nat) : Int)), (.ltI 0 ((a0.S.length : Nat) : Int), .b true)] rfl fd_78 (by kernel_rfl) ⟨rfl, (A.ltI_f c1), (A.ltI_f c2), (A.ltI_f c3), (A.ltI_f c4), (A.call (ok_spec_l6arity a0.Kind _ hr5)), (A.leI_t c6), A.len, (A.eqI_t c7), rfl, (A.eqI_f c8), (A.eqI_f c8), rfl, A.len, (A.ltI_f c9), (A.eqI_f c10), (A.eqI_t c11), (A.ltI_f c12), (A.ltI_f c13), (A.eqI_f (by omega)), (A.eqI_f (by omega)), (A.eqI_f (by omega)), (A.eqI_f (by omega)), (A.eqI_f (by omega)), A.len, (A.ltI_t c14), trivial⟩
                          · rw [if_neg c14] at h
                            obtain ⟨o15, ho15, h⟩ := Option.bind_eq_some_iff.1 h
                            rcases o15 with o15_0 | ⟨o15_1_0, o15_1_1⟩
                            · try dsimp only at h
                              obtain rfl := Option.some.inj h
                              exact call_way cfg [(.sub .i64 a2 1, .i (w64 (a2 - 1))), (.ltI (w64 (a2 - 1)) 0, .b false), (.ltI 10 a1, .b false), (.ltI a0.Kind 0, .b false), (.ltI 23 a0.Kind, .b false), (.call 101 [] [.val false [.int .i64 a0.Kind]], .r (.val false [.int .i64 r5]) []), (.leI 0 r5, .b true), (.len (eL e_GExpr a0.Kids), .i ((a0.Kids.length : Nat) : Int)), (.eqI ((a0.Kids.length : Nat) : Int) r5, .b true), (.notB true, .b false), (.eqI a0.Kind 5, .b false), (.eqI a0.Kind 5, .b false), (.notB false, .b true), (.len (eL (e_sl e_u8) a0.K), .i ((a0.K.length : Nat) : Int)), (.ltI 0 ((a0.K.length : Nat) : Int), .b false), (.eqI a0.Kind 1, .b false), (.eqI a0.Kind 2, .b true), (.ltI a0.N 0, .b false), (.ltI 1000000000000 a0.N, .b false), (.eqI a0.Kind 3, .b false), (.eqI a0.Kind 6, .b false), (.eqI a0.Kind 8, .b false), (.eqI a0.Kind 23, .b false), (.eqI a0.Kind 7, .b false), (.len (eL e_u8 a0.S), .i ((a0.S.length : Nat) : Int)), (.ltI 0 ((a0.S.length : Nat) : Int), .b false), (.loop 78 (loopB Try.f78 0) ⟨[(1, .val false [.int .i64 a1]), (2, .val false [.int .i64 (w64 (a2 - 1))]), (3, .val false [.ptr 0 0]), (8, .val false [.int .i64 0])], [.var [.int .i64 a0.Kind, .int .i64 a0.N, .seq (eL e_u8 a0.S), .seq (eL (e_sl e_u8) a0.K), .seq (eL e_GExpr a0.Kids)]], 0⟩, .x (.ret) ⟨[(6, .val false [.int .i64 o15_0])], [], 0⟩)] rfl fd_78 (by kernel_rfl) ⟨rfl, (A.ltI_f c1), (A.ltI_f c2), (A.ltI_f c3), (A.ltI_f c4), (A.call (ok_spec_l6arity a0.Kind _ hr5)), (A.leI_t c6), A.len, (A.eqI_t c7), rfl, (A.eqI_f c8), (A.eqI_f c8), rfl, A.len, (A.ltI_f c9), (A.eqI_f c10), (A.eqI_t c11), (A.ltI_f c12), (A.ltI_f c13), (A.eqI_f (by omega)), (A.eqI_f (by omega)), (A.eqI_f (by omega)), (A.eqI_f (by omega)), (A.eqI_f (by omega)), A.len, (A.ltI_f c14), (A.loop (gl_spec_l6expr_l0 G_spec_l6expr H_spec_l6expr a1 a0 _ (w64 (a2 - 1)) 0 _ ho15)), trivial⟩
                            · try dsimp only at h
                              obtain rfl := Option.some.inj h
                              exact call_way cfg [(.sub .i64 a2 1, .i (w64 (a2 - 1))), (.ltI (w64 (a2 - 1)) 0, .b false), (.ltI 10 a1, .b false), (.ltI a0.Kind 0, .b false), (.ltI 23 a0.Kind, .b false), (.call 101 [] [.val false [.int .i64 a0.Kind]], .r (.val false [.int .i64 r5]) []), (.leI 0 r5, .b true), (.len (eL e_GExpr a0.Kids), .i ((a0.Kids.length : Nat) : Int)), (.eqI ((a0.Kids.length : Nat) : Int) r5, .b true), (.notB true, .b false), (.eqI a0.Kind 5, .b false), (.eqI a0.Kind 5, .b false), (.notB false, .b true), (.len (eL (e_sl e_u8) a0.K), .i ((a0.K.length : Nat) : Int)), (.ltI 0 ((a0.K.length : Nat) : Int), .b false), (.eqI a0.Kind 1, .b false), (.eqI a0.Kind 2, .b true), (.ltI a0.N 0, .b false), (.ltI 1000000000000 a0.N, .b false), (.eqI a0.Kind 3, .b false), (.eqI a0.Kind 6, .b false), (.eqI a0.Kind 8, .b false), (.eqI a0.Kind 23, .b false), (.eqI a0.Kind 7, .b false), (.len (eL e_u8 a0.S), .i ((a0.S.length : Nat) : Int)), (.ltI 0 ((a0.S.length : Nat) : Int), .b false), (.loop 78 (loopB Try.f78 0) ⟨[(1, .val false [.int .i64 a1]), (2, .val false [.int .i64 (w64 (a2 - 1))]), (3, .val false [.ptr 0 0]), (8, .val false [.int .i64 0])], [.var [.int .i64 a0.Kind, .int .i64 a0.N, .seq (eL e_u8 a0.S), .seq (eL (e_sl e_u8) a0.K), .seq (eL e_GExpr a0.Kids)]], 0⟩, .x (.exit 2) ⟨[(1, .val false [.int .i64 a1]), (2, .val false [.int .i64 o15_1_0]), (3, .val false [.ptr 0 0]), (8, .val false [.int .i64 o15_1_1]), (129, .val false [.bool false])], [.var [.int .i64 a0.Kind, .int .i64 a0.N, .seq (eL e_u8 a0.S), .seq (eL (e_sl e_u8) a0.K), .seq (eL e_GExpr a0.Kids)]], 0⟩)] rfl fd_78 (by kernel_rfl) ⟨rfl, (A.ltI_f c1), (A.ltI_f c2), (A.ltI_f c3), (A.ltI_f c4), (A.call (ok_spec_l6arity a0.Kind _ hr5)), (A.leI_t c6), A.len, (A.eqI_t c7), rfl, (A.eqI_f c8), (A.eqI_f c8), rfl, A.len, (A.ltI_f c9), (A.eqI_f c10), (A.eqI_t c11), (A.ltI_f c12), (A.ltI_f c13), (A.eqI_f (by omega)), (A.eqI_f (by omega)), (A.eqI_f (by omega)), (A.eqI_f (by omega)), (A.eqI_f (by omega)), A.len, (A.ltI_f c14), (A.loop (gl_spec_l6expr_l0 G_spec_l6expr H_spec_l6expr a1 a0 _ (w64 (a2 - 1)) 0 _ ho15)), trivial⟩
                    · rw [if_neg c11] at h
                      by_cases c12 : a0.N = 0
                      · rw [if_pos c12] at h
                        by_cases c13 : a0.Kind = 3
                        · rw [if_pos c13] at h
                          obtain ⟨r14, hr14, h⟩ := Option.bind_eq_some_iff.1 h
                          cases r14 with
                          | true =>
                            try dsimp only at h
                            obtain ⟨o16, ho16, h⟩ := Option.bind_eq_some_iff.1 h
                            rcases o16 with o16_0 | ⟨o16_1_0, o16_1_1⟩
                            · try dsimp only at h
                              obtain rfl := Option.some.inj h
                              exact call_way cfg [(.sub .i64 a2 1, .i (w64 (a2 - 1))), (.ltI (w64 (a2 - 1)) 0, .b false), (.ltI 10 a1, .b false), (.ltI a0.Kind 0, .b false), (.ltI 23 a0.Kind, .b false), (.call 101 [] [.val false [.int .i64 a0.Kind]], .r (.val false [.int .i64 r5]) []), (.leI 0 r5, .b true), (.len (eL e_GExpr a0.Kids), .i ((a0.Kids.length : Nat) : Int)), (.eqI ((a0.Kids.length : Nat) : Int) r5, .b true), (.notB true, .b false), (.eqI a0.Kind 5, .b false), (.eqI a0.Kind 5, .b false), (.notB false, .b true), (.len (eL (e_sl e_u8) a0.K), .i ((a0.K.length : Nat) : Int)), (.ltI 0 ((a0.K.length : Nat) : Int), .b false), (.eqI a0.Kind 1, .b false), (.eqI a0.Kind 2, .b false), (.eqI a0.N 0, .b true), (.notB true, .b false), (.eqI a0.Kind 3, .b true), (.call 92 [] [.val false [.seq (eL e_u8 a0.S)]], .r (.val false [.bool true]) []), (.notB true, .b false), (.loop 78 (loopB Try.f78 0) ⟨[(1, .val false [.int .i64 a1]), (2, .val false [.int .i64 (w64 (a2 - 1))]), (3, .val false [.ptr 0 0]), (8, .val false [.int .i64 0])], [.var [.int .i64 a0.Kind, .int .i64 a0.N, .seq (eL e_u8 a0.S), .seq (eL (e_sl e_u8) a0.K), .seq (eL e_GExpr a0.Kids)]], 0⟩, .x (.ret) ⟨[(6, .val false [.int .i64 o16_0])], [], 0⟩)] rfl fd_78 (by kernel_rfl) ⟨rfl, (A.ltI_f c1), (A.ltI_f c2), (A.ltI_f c3), (A.ltI_f c4), (A.call (ok_spec_l6arity a0.Kind _ hr5)), (A.leI_t c6), A.len, (A.eqI_t c7), rfl, (A.eqI_f c8), (A.eqI_f c8), rfl, A.len, (A.ltI_f c9), (A.eqI_f c10), (A.eqI_f c11), (A.eqI_t c12), rfl, (A.eqI_t c13), (A.call (ok_spec_l2text a0.S _ hr14)), rfl, (A.loop (gl_spec_l6expr_l0 G_spec_l6expr H_spec_l6expr a1 a0 _ (w64 (a2 - 1)) 0 _ ho16)), trivial⟩
                            · try dsimp only at h
                              obtain rfl := Option.some.inj h
                              exact call_way cfg [(.sub .i64 a2 1, .i (w64 (a2 - 1))), (.ltI (w64 (a2 - 1)) 0, .b false), (.ltI 10 a1, .b false), (.ltI a0.Kind 0, .b false), (.ltI 23 a0.Kind, .b false), (.call 101 [] [.val false [.int .i64 a0.Kind]], .r (.val false [.int .i64 r5]) []), (.leI 0 r5, .b true), (.len (eL e_GExpr a0.Kids), .i ((a0.Kids.length : Nat) : Int)), (.eqI ((a0.Kids.length : Nat) : Int) r5, .b true), (.notB true, .b false), (.eqI a0.Kind 5, .b false), (.eqI a0.Kind 5, .b false), (.notB false, .b true), (.len (eL (e_sl e_u8) a0.K), .i ((a0.K.length : Nat) : Int)), (.ltI 0 ((a0.K.length : Nat) : Int), .b false), (.eqI a0.Kind 1, .b false), (.eqI a0.Kind 2, .b false), (.eqI a0.N 0, .b true), (.notB true, .b false), (.eqI a0.Kind 3, .b true), (.call 92 [] [.val false [.seq (eL e_u8 a0.S)]], .r (.val false [.bool true]) []), (.notB true, .b false), (.loop 78 (loopB Try.f78 0) ⟨[(1, .val false [.int .i64 a1]), (2, .val false [.int .i64 (w64 (a2 - 1))]), (3, .val false [.ptr 0 0]), (8, .val false [.int .i64 0])], [.var [.int .i64 a0.Kind, .int .i64 a0.N, .seq (eL e_u8 a0.S), .seq (eL (e_sl e_u8) a0.K), .seq (eL e_GExpr a0.Kids)]], 0⟩, .x (.exit 2) ⟨[(1, .val false [.int .i64 a1]), (2, .val false [.int .i64 o16_1_0]), (3, .val false [.ptr 0 0]), (8, .val false [.int .i64 o16_1_1]), (129, .val false [.bool false])], [.var [.int .i64 a0.Kind, .int .i64 a0.N, .seq (eL e_u8 a0.S), .seq (eL (e_sl e_u8) a0.K), .seq (eL e_GExpr a0.Kids)]], 0⟩)] rfl fd_78 (by kernel_rfl) ⟨rfl, (A.ltI_f c1), (A.ltI_f c2), (A.ltI_f c3), (A.ltI_f c4), (A.call (ok_spec_l6arity a0.Kind _ hr5)), (A.leI_t c6), A.len, (A.eqI_t c7), rfl, (A.eqI_f c8), (A.eqI_f c8), rfl, A.len, (A.ltI_f c9), (A.eqI_f c10), (A.eqI_f c11), (A.eqI_t c12), rfl, (A.eqI_t c13), (A.call (ok_spec_l2text a0.S _ hr14)), rfl, (A.loop (gl_spec_l6expr_l0 G_spec_l6expr H_spec_l6expr a1 a0 _ (w64 (a2 - 1)) 0 _ ho16)), trivial⟩
                          | false =>
                            try dsimp only at h
                            obtain rfl := Option.some.inj h
                            exact call_way cfg [(.sub .i64 a2 1, .i (w64 (a2 - 1))), (.ltI (w64 (a2 - 1)) 0, .b false), (.ltI 10 a1, .b false), (.ltI a0.Kind 0, .b false), (.ltI 23 a0.Kind, .b false), (.call 101 [] [.val false [.int .i64 a0.Kind]], .r (.val false [.int .i64 r5]) []), (.leI 0 r5, .b true), (.len (eL e_GExpr a0.Kids), .i ((a0.Kids.length : Nat) : Int)), (.eqI ((a0.Kids.length : Nat) : Int) r5, .b true), (.notB true, .b false), (.eqI a0.Kind 5, .b false), (.eqI a0.Kind 5, .b false), (.notB false, .b true), (.len (eL (e_sl e_u8) a0.K), .i ((a0.K.length : Nat) : Int)), (.ltI 0 ((a0.K.length : Nat) : Int), .b false), (.eqI a0.Kind 1, .b false), (.eqI a0.Kind 2, .b false), (.eqI a0.N 0, .b true), (.notB true, .b false), (.eqI a0.Kind 3, .b true), (.call 92 [] [.val false [.seq (eL e_u8 a0.S)]], .r (.val false [.bool false]) []), (.notB false, .b true)] rfl fd_78 (by kernel_rfl) ⟨rfl, (A.ltI_f c1), (A.ltI_f c2), (A.ltI_f c3), (A.ltI_f c4), (A.call (ok_spec_l6arity a0.Kind _ hr5)), (A.leI_t c6), A.len, (A.eqI_t c7), rfl, (A.eqI_f c8), (A.eqI_f c8), rfl, A.len, (A.ltI_f c9), (A.eqI_f c10), (A.eqI_f c11), (A.eqI_t c12), rfl, (A.eqI_t c13), (A.call (ok_spec_l2text a0.S _ hr14)), rfl, trivial⟩
                        · rw [if_neg c13] at h
                          by_cases c14 : a0.Kind = 6
                          · rw [if_pos c14] at h
                            obtain ⟨r15, hr15, h⟩ := Option.bind_eq_some_iff.1 h
                            cases r15 with
                            | true =>
                              try dsimp only at h
                              obtain ⟨o17, ho17, h⟩ := Option.bind_eq_some_iff.1 h
                              rcases o17 with o17_0 | ⟨o17_1_0, o17_1_1⟩
                              · try dsimp only at h
                                obtain rfl := Option.some.inj h
                                exact call_way cfg [(.sub .i64 a2 1, .i (w64 (a2 - 1))), (.ltI (w64 (a2 - 1)) 0, .b false), (.ltI 10 a1, .b false), (.ltI a0.Kind 0, .b false), (.ltI 23 a0.Kind, .b false), (.call 101 [] [.val false [.int .i64 a0.Kind]], .r (.val false [.int .i64 r5]) []), (.leI 0 r5, .b true), (.len (eL e_GExpr a0.Kids), .i ((a0.Kids.length : Nat) : Int)), (.eqI ((a0.Kids.length : Nat) : Int) r5, .b true), (.notB true, .b false), (.eqI a0.Kind 5, .b false), (.eqI a0.Kind 5, .b false), (.notB false, .b true), (.len (eL (e_sl e_u8) a0.K), .i ((a0.K.length : Nat) : Int)), (.ltI 0 ((a0.K.length : Nat) : Int), .b false), (.eqI a0.Kind 1, .b false), (.eqI a0.Kind 2, .b false), (.eqI a0.N 0, .b true), (.notB true, .b false), (.eqI a0.Kind 3, .b false), (.eqI a0.Kind 6, .b true), (.call 93 [] [.val false [.seq (eL e_u8 a0.S)]], .r (.val false [.bool true]) []), (.notB true, .b false), (.eqI a0.Kind 23, .b false), (.loop 78 (loopB Try.f78 0) ⟨[(1, .val false [.int .i64 a1]), (2, .val false [.int .i64 (w64 (a2 - 1))]), (3, .val false [.ptr 0 0]), (8, .val false [.int .i64 0])], [.var [.int .i64 a0.Kind, .int .i64 a0.N, .seq (eL e_u8 a0.S), .seq (eL (e_sl e_u8) a0.K), .seq (eL e_GExpr a0.Kids)]], 0⟩, .x (.ret) ⟨[(6, .val false [.int .i64 o17_0])], [], 0⟩)] rfl fd_78 (by kernel_rfl) ⟨rfl, (A.ltI_f c1), (A.ltI_f c2), (A.ltI_f c3), (A.ltI_f c4), (A.call (ok_spec_l6arity a0.Kind _ hr5)), (A.leI_t c6), A.len, (A.eqI_t c7), rfl, (A.eqI_f c8), (A.eqI_f c8), rfl, A.len, (A.ltI_f c9), (A.eqI_f c10), (A.eqI_f c11), (A.eqI_t c12), rfl, (A.eqI_f c13), (A.eqI_t c14), (A.call (ok_spec_NameOk a0.S _ hr15)), rfl, (A.eqI_f (by omega)), (A.loop (gl_spec_l6expr_l0 G_spec_l6expr H_spec_l6expr a1 a0 _ (w64 (a2 - 1)) 0 _ ho17)), trivial⟩
                              · try dsimp only at h
                                obtain rfl := Option.some.inj h
                                exact call_way cfg [(.sub .i64 a2 1, .i (w64 (a2 - 1))), (.ltI (w64 (a2 - 1)) 0, .b false), (.ltI 10 a1, .b false), (.ltI a0.Kind 0, .b false), (.ltI 23 a0.Kind, .b false), (.call 101 [] [.val false [.int .i64 a0.Kind]], .r (.val false [.int .i64 r5]) []), (.leI 0 r5, .b true), (.len (eL e_GExpr a0.Kids), .i ((a0.Kids.length : Nat) : Int)), (.eqI ((a0.Kids.length : Nat) : Int) r5, .b true), (.notB true, .b false), (.eqI a0.Kind 5, .b false), (.eqI a0.Kind 5, .b false), (.notB false, .b true), (.len (eL (e_sl e_u8) a0.K), .i ((a0.K.length : Nat) : Int)), (.ltI 0 ((a0.K.length : Nat) : Int), .b false), (.eqI a0.Kind 1, .b false), (.eqI a0.Kind 2, .b false), (.eqI a0.N 0, .b true), (.notB true, .b false), (.eqI a0.Kind 3, .b false), (.eqI a0.Kind 6, .b true), (.call 93 [] [.val false [.seq (eL e_u8 a0.S)]], .r (.val false [.bool true]) []), (.notB true, .b false), (.eqI a0.Kind 23, .b false), (.loop 78 (loopB Try.f78 0) ⟨[(1, .val false [.int .i64 a1]), (2, .val false [.int .i64 (w64 (a2 - 1))]), (3, .val false [.ptr 0 0]), (8, .val false [.int .i64 0])], [.var [.int .i64 a0.Kind, .int .i64 a0.N, .seq (eL e_u8 a0.S), .seq (eL (e_sl e_u8) a0.K), .seq (eL e_GExpr a0.Kids)]], 0⟩, .x (.exit 2) ⟨[(1, .val false [.int .i64 a1]), (2, .val false [.int .i64 o17_1_0]), (3, .val false [.ptr 0 0]), (8, .val false [.int .i64 o17_1_1]), (129, .val false [.bool false])], [.var [.int .i64 a0.Kind, .int .i64 a0.N, .seq (eL e_u8 a0.S), .seq (eL (e_sl e_u8) a0.K), .seq (eL e_GExpr a0.Kids)]], 0⟩)] rfl fd_78 (by kernel_rfl) ⟨rfl, (A.ltI_f c1), (A.ltI_f c2), (A.ltI_f c3), (A.ltI_f c4), (A.call (ok_spec_l6arity a0.Kind _ hr5)), (A.leI_t c6), A.len, (A.eqI_t c7), rfl, (A.eqI_f c8), (A.eqI_f c8), rfl, A.len, (A.ltI_f c9), (A.eqI_f c10), (A.eqI_f c11), (A.eqI_t c12), rfl, (A.eqI_f c13), (A.eqI_t c14), (A.call (ok_spec_NameOk a0.S _ hr15)), rfl, (A.eqI_f (by omega)), (A.loop (gl_spec_l6expr_l0 G_spec_l6expr H_spec_l6expr a1 a0 _ (w64 (a2 - 1)) 0 _ ho17)), trivial⟩
                            | false =>
                              try dsimp only at h
                              obtain rfl := Option.some.inj h
                              exact call_way cfg [(.sub .i64 a2 1, .i (w64 (a2 - 1))), (.ltI (w64 (a2 - 1)) 0, .b false), (.ltI 10 a1, .b false), (.ltI a0.Kind 0, .b false), (.ltI 23 a0.Kind, .b false), (.call 101 [] [.val false [.int .i64 a0.Kind]], .r (.val false [.int .i64 r5]) []), (.leI 0 r5, .b true), (.len (eL e_GExpr a0.Kids), .i ((a0.Kids.length : Nat) : Int)), (.eqI ((a0.Kids.length : Nat) : Int) r5, .b true), (.notB true, .b false), (.eqI a0.Kind 5, .b false), (.eqI a0.Kind 5, .b false), (.notB false, .b true), (.len (eL (e_sl e_u8) a0.K), .i ((a0.K.length : Nat) : Int)), (.ltI 0 ((a0.K.length : Nat) : Int), .b false), (.eqI a0.Kind 1, .b false), (.eqI a0.Kind 2, .b false), (.eqI a0.N 0, .b true), (.notB true, .b false), (.eqI a0.Kind 3, .b false), (.eqI a0.Kind 6, .b true), (.call 93 [] [.val false [.seq (eL e_u8 a0.S)]], .r (.val false [.bool false]) []), (.notB false, .b true)] rfl fd_78 (by kernel_rfl) ⟨rfl, (A.ltI_f c1), (A.ltI_f c2), (A.ltI_f c3), (A.ltI_f c4), (A.call (ok_spec_l6arity a0.Kind _ hr5)), (A.leI_t c6), A.len, (A.eqI_t c7), rfl, (A.eqI_f c8), (A.eqI_f c8), rfl, A.len, (A.ltI_f c9), (A.eqI_f c10), (A.eqI_f c11), (A.eqI_t c12), rfl, (A.eqI_f c13), (A.eqI_t c14), (A.call (ok_spec_NameOk a0.S _ hr15)), rfl, trivial⟩
                          · rw [if_neg c14] at h
                            by_cases c15 : a0.Kind = 8
                            · rw [if_pos c15] at h
                              obtain ⟨r16, hr16, h⟩ := Option.bind_eq_some_iff.1 h
                              cases r16 with
                              | true =>
                                try dsimp only at h
                                obtain ⟨o18, ho18, h⟩ := Option.bind_eq_some_iff.1 h
                                rcases o18 with o18_0 | ⟨o18_1_0, o18_1_1⟩
                                · try dsimp only at h
                                  obtain rfl := Option.some.inj h
                                  exact call_way cfg [(.sub .i64 a2 1, .i (w64 (a2 - 1))), (.ltI (w64 (a2 - 1)) 0, .b false), (.ltI 10 a1, .b false), (.ltI a0.Kind 0, .b false), (.ltI 23 a0.Kind, .b false), (.call 101 [] [.val false [.int .i64 a0.Kind]], .r (.val false [.int .i64 r5]) []), (.leI 0 r5, .b true), (.len (eL e_GExpr a0.Kids), .i ((a0.Kids.length : Nat) : Int)), (.eqI ((a0.Kids.length : Nat) : Int) r5, .b true), (.notB true, .b false), (.eqI a0.Kind 5, .b false), (.eqI a0.Kind 5, .b false), (.notB false, .b true), (.len (eL (e_sl e_u8) a0.K), .i ((a0.K.length : Nat) : Int)), (.ltI 0 ((a0.K.length : Nat) : Int), .b false), (.eqI a0.Kind 1, .b false), (.eqI a0.Kind 2, .b false), (.eqI a0.N 0, .b true), (.notB true, .b false), (.eqI a0.Kind 3, .b false), (.eqI a0.Kind 6, .b false), (.eqI a0.Kind 8, .b true), (.call 93 [] [.val false [.seq (eL e_u8 a0.S)]], .r (.val false [.bool true]) []), (.notB true, .b false), (.eqI a0.Kind 23, .b false), (.loop 78 (loopB Try.f78 0) ⟨[(1, .val false [.int .i64 a1]), (2, .val false [.int .i64 (w64 (a2 - 1))]), (3, .val false [.ptr 0 0]), (8, .val false [.int .i64 0])], [.var [.int .i64 a0.Kind, .int .i64 a0.N, .seq (eL e_u8 a0.S), .seq (eL (e_sl e_u8) a0.K), .seq (eL e_GExpr a0.Kids)]], 0⟩, .x (.ret) ⟨[(6, .val false [.int .i64 o18_0])], [], 0⟩)] rfl fd_78 (by kernel_rfl) ⟨rfl, (A.ltI_f c1), (A.ltI_f c2), (A.ltI_f c3), (A.ltI_f c4), (A.call (ok_spec_l6arity a0.Kind _ hr5)), (A.leI_t c6), A.len, (A.eqI_t c7), rfl, (A.eqI_f c8), (A.eqI_f c8), rfl, A.len, (A.ltI_f c9), (A.eqI_f c10), (A.eqI_f c11), (A.eqI_t c12), rfl, (A.eqI_f c13), (A.eqI_f c14), (A.eqI_t c15), (A.call (ok_spec_NameOk a0.S _ hr16)), rfl, (A.eqI_f (by omega)), (A.loop (gl_spec_l6expr_l0 G_spec_l6expr H_spec_l6expr a1 a0 _ (w64 (a2 - 1)) 0 _ ho18)), trivial⟩
                                · try dsimp only at h
                                  obtain rfl := Option.some.inj h
                                  exact call_way cfg [(.sub .i64 a2 1, .i (w64 (a2 - 1))), (.ltI (w64 (a2 - 1)) 0, .b false), (.ltI 10 a1, .b false), (.ltI a0.Kind 0, .b false), (.ltI 23 a0.Kind, .b false), (.call 101 [] [.val false [.int .i64 a0.Kind]], .r (.val false [.int .i64 r5]) []), (.leI 0 r5, .b true), (.len (eL e_GExpr a0.Kids), .i ((a0.Kids.length : Nat) : Int)), (.eqI ((a0.Kids.length : Nat) : Int) r5, .b true), (.notB true, .b false), (.eqI a0.Kind 5, .b false), (.eqI a0.Kind 5, .b false), (.notB false, .b true), (.len (eL (e_sl e_u8) a0.K), .i ((a0.K.length : Nat) : Int)), (.ltI 0 ((a0.K.length : Nat) : Int), .b false), (.eqI a0.Kind 1, .b false), (.eqI a0.Kind 2, .b false), (.eqI a0.N 0, .b true), (.notB true, .b false), (.eqI a0.Kind 3, .b false), (.eqI a0.Kind 6, .b false), (.eqI a0.Kind 8, .b true), (.call 93 [] [.val false [.seq (eL e_u8 a0.S)]], .r (.val false [.bool true]) []), (.notB true, .b false), (.eqI a0.Kind 23, .b false), (.loop 78 (loopB Try.f78 0) ⟨[(1, .val false [.int .i64 a1]), (2, .val false [.int .i64 (w64 (a2 - 1))]), (3, .val false [.ptr 0 0]), (8, .val false [.int .i64 0])], [.var [.int .i64 a0.Kind, .int .i64 a0.N, .seq (eL e_u8 a0.S), .seq (eL (e_sl e_u8) a0.K), .seq (eL e_GExpr a0.Kids)]], 0⟩, .x (.exit 2) ⟨[(1, .val false [.int .i64 a1]), (2, .val false [.int .i64 o18_1_0]), (3, .val false [.ptr 0 0]), (8, .val false [.int .i64 o18_1_1]), (129, .val false [.bool false])], [.var [.int .i64 a0.Kind, .int .i64 a0.N, .seq (eL e_u8 a0.S), .seq (eL (e_sl e_u8) a0.K), .seq (eL e_GExpr a0.Kids)]], 0⟩)] rfl fd_78 (by kernel_rfl) ⟨rfl, (A.ltI_f c1), (A.ltI_f c2), (A.ltI_f c3), (A.ltI_f c4), (A.call (ok_spec_l6arity a0.Kind _ hr5)), (A.leI_t c6), A.len, (A.eqI_t c7), rfl, (A.eqI_f c8), (A.eqI_f c8), rfl, A.len, (A.ltI_f c9), (A.eqI_f c10), (A.eqI_f c11), (A.eqI_t c12), rfl, (A.eqI_f c13), (A.eqI_f c14), (A.eqI_t c15), (A.call (ok_spec_NameOk a0.S _ hr16)), rfl, (A.eqI_f (by omega)), (A.loop (gl_spec_l6expr_l0 G_spec_l6expr H_spec_l6expr a1 a0 _ (w64 (a2 - 1)) 0 _ ho18)), trivial⟩
                              | false =>
                                try dsimp only at h
                                obtain rfl := Option.some.inj h
                                exact call_way cfg [(.sub .i64 a2 1, .i (w64 (a2 - 1))), (.ltI (w64 (a2 - 1)) 0, .b false), (.ltI 10 a1, .b false), (.ltI a0.Kind 0, .b false), (.ltI 23 a0.Kind, .b false), (.call 101 [] [.val false [.int .i64 a0.Kind]], .r (.val false [.int .i64 r5]) []), (.leI 0 r5, .b true), (.len (eL e_GExpr a0.Kids), .i ((a0.Kids.length : Nat) : Int)), (.eqI ((a0.Kids.length : Nat) : Int) r5, .b true), (.notB true, .b false), (.eqI a0.Kind 5, .b false), (.eqI a0.Kind 5, .b false), (.notB false, .b true), (.len (eL (e_sl e_u8) a0.K), .i ((a0.K.length : Nat) : Int)), (.ltI 0 ((a0.K.length : Nat) : Int), .b false), (.eqI a0.Kind 1, .b false), (.eqI a0.Kind 2, .b false), (.eqI a0.N 0, .b true), (.notB true, .b false), (.eqI a0.Kind 3, .b false), (.eqI a0.Kind 6, .b false), (.eqI a0.Kind 8, .b true), (.call 93 [] [.val false [.seq (eL e_u8 a0.S)]], .r (.val false [.bool false]) []), (.notB false, .b true)] rfl fd_78 (by kernel_rfl) ⟨rfl, (A.ltI_f c1), (A.ltI_f c2), (A.ltI_f c3), (A.ltI_f c4), (A.call (ok_spec_l6arity a0.Kind _ hr5)), (A.leI_t c6), A.len, (A.eqI_t c7), rfl, (A.eqI_f c8), (A.eqI_f c8), rfl, A.len, (A.ltI_f c9), (A.eqI_f c10), (A.eqI_f c11), (A.eqI_t c12), rfl, (A.eqI_f c13), (A.eqI_f c14), (A.eqI_t c15), (A.call (ok_spec_NameOk a0.S _ hr16)), rfl, trivial⟩
                            · rw [if_neg c15] at h
                              by_cases c16 : a0.Kind = 23
                              · rw [if_pos c16] at h
                                obtain ⟨r17, hr17, h⟩ := Option.bind_eq_some_iff.1 h
                                cases r17 with
                                | true =>
                                  try dsimp only at h
                                  obtain ⟨r19, hr19, h⟩ := Option.bind_eq_some_iff.1 h
                                  cases r19 with
                                  | true =>
                                    try dsimp only at h
                                    obtain rfl := Option.some.inj h
                                    exact call_way cfg [(.sub .i64 a2 1, .i (w64 (a2 - 1))), (.ltI (w64 (a2 - 1)) 0, .b false), (.ltI 10 a1, .b false), (.ltI a0.Kind 0, .b false), (.ltI 23 a0.Kind, .b false), (.call 101 [] [.val false [.int .i64 a0.Kind]], .r (.val false [.int .i64 r5]) []), (.leI 0 r5, .b true), (.len (eL e_GExpr a0.Kids), .i ((a0.Kids.length : Nat) : Int)), (.eqI ((a0.Kids.length : Nat) : Int) r5, .b true), (.notB true, .b false), (.eqI a0.Kind 5, .b false), (.eqI a0.Kind 5, .b false), (.notB false, .b true), (.len (eL (e_sl e_u8) a0.K), .i ((a0.K.length : Nat) : Int)), (.ltI 0 ((a0.K.length : Nat) : Int), .b false), (.eqI a0.Kind 1, .b false), (.eqI a0.Kind 2, .b false), (.eqI a0.N 0, .b true), (.notB true, .b false), (.eqI a0.Kind 3, .b false), (.eqI a0.Kind 6, .b false), (.eqI a0.Kind 8, .b false), (.eqI a0.Kind 23, .b true), (.call 93 [] [.val false [.seq (eL e_u8 a0.S)]], .r (.val false [.bool true]) []), (.notB true, .b false), (.eqI a0.Kind 23, .b true), (.call 102 [] [.val false [.seq (eL e_u8 a0.S)]], .r (.val false [.bool true]) [])] rfl fd_78 (by kernel_rfl) ⟨rfl, (A.ltI_f c1), (A.ltI_f c2), (A.ltI_f c3), (A.ltI_f c4), (A.call (ok_spec_l6arity a0.Kind _ hr5)), (A.leI_t c6), A.len, (A.eqI_t c7), rfl, (A.eqI_f c8), (A.eqI_f c8), rfl, A.len, (A.ltI_f c9), (A.eqI_f c10), (A.eqI_f c11), (A.eqI_t c12), rfl, (A.eqI_f c13), (A.eqI_f c14), (A.eqI_f c15), (A.eqI_t c16), (A.call (ok_spec_NameOk a0.S _ hr17)), rfl, (A.eqI_t c16), (A.call (ok_spec_l6kept a0.S _ hr19)), trivial⟩
                                  | false =>
                                    try dsimp only at h
                                    obtain ⟨o21, ho21, h⟩ := Option.bind_eq_some_iff.1 h
                                    rcases o21 with o21_0 | ⟨o21_1_0, o21_1_1⟩
                                    · try dsimp only at h
                                      obtain rfl := Option.some.inj h
                                      exact call_way cfg [(.sub .i64 a2 1, .i (w64 (a2 - 1))), (.ltI (w64 (a2 - 1)) 0, .b false), (.ltI 10 a1, .b false), (.ltI a0.Kind 0, .b false), (.ltI 23 a0.Kind, .b false), (.call 101 [] [.val false [.int .i64 a0.Kind]], .r (.val false [.int .i64 r5]) []), (.leI 0 r5, .b true), (.len (eL e_GExpr a0.Kids), .i ((a0.Kids.length : Nat) : Int)), (.eqI ((a0.Kids.length : Nat) : Int) r5, .b true), (.notB true, .b false), (.eqI a0.Kind 5, .b false), (.eqI a0.Kind 5, .b false), (.notB false, .b true), (.len (eL (e_sl e_u8) a0.K), .i ((a0.K.length : Nat) : Int)), (.ltI 0 ((a0.K.length : Nat) : Int), .b false), (.eqI a0.Kind 1, .b false), (.eqI a0.Kind 2, .b false), (.eqI a0.N 0, .b true), (.notB true, .b false), (.eqI a0.Kind 3, .b false), (.eqI a0.Kind 6, .b false), (.eqI a0.Kind 8, .b false), (.eqI a0.Kind 23, .b true), (.call 93 [] [.val false [.seq (eL e_u8 a0.S)]], .r (.val false [.bool true]) []), (.notB true, .b false), (.eqI a0.Kind 23, .b true), (.call 102 [] [.val false [.seq (eL e_u8 a0.S)]], .r (.val false [.bool false]) []), (.loop 78 (loopB Try.f78 0) ⟨[(1, .val false [.int .i64 a1]), (2, .val false [.int .i64 (w64 (a2 - 1))]), (3, .val false [.ptr 0 0]), (8, .val false [.int .i64 0])], [.var [.int .i64 a0.Kind, .int .i64 a0.N, .seq (eL e_u8 a0.S), .seq (eL (e_sl e_u8) a0.K), .seq (eL e_GExpr a0.Kids)]], 0⟩, .x (.ret) ⟨[(6, .val false [.int .i64 o21_0])], [], 0⟩)] rfl fd_78 (by kernel_rfl) ⟨rfl, (A.ltI_f c1), (A.ltI_f c2), (A.ltI_f c3), (A.ltI_f c4), (A.call (ok_spec_l6arity a0.Kind _ hr5)), (A.leI_t c6), A.len, (A.eqI_t c7), rfl, (A.eqI_f c8), (A.eqI_f c8), rfl, A.len, (A.ltI_f c9), (A.eqI_f c10), (A.eqI_f c11), (A.eqI_t c12), rfl, (A.eqI_f c13), (A.eqI_f c14), (A.eqI_f c15), (A.eqI_t c16), (A.call (ok_spec_NameOk a0.S _ hr17)), rfl, (A.eqI_t c16), (A.call (ok_spec_l6kept a0.S _ hr19)), (A.loop (gl_spec_l6expr_l0 G_spec_l6expr H_spec_l6expr a1 a0 _ (w64 (a2 - 1)) 0 _ ho21)), trivial⟩
                                    · try dsimp only at h
                                      obtain rfl := Option.some.inj h
                                      exact call_way cfg [(.sub .i64 a2 1, .i (w64 (a2 - 1))), (.ltI (w64 (a2 - 1)) 0, .b false), (.ltI 10 a1, .b false), (.ltI a0.Kind 0, .b false), (.ltI 23 a0.Kind, .b false), (.call 101 [] [.val false [.int .i64 a0.Kind]], .r (.val false [.int .i64 r5]) []), (.leI 0 r5, .b true), (.len (eL e_GExpr a0.Kids), .i ((a0.Kids.length : Nat) : Int)), (.eqI ((a0.Kids.length : Nat) : Int) r5, .b true), (.notB true, .b false), (.eqI a0.Kind 5, .b false), (.eqI a0.Kind 5, .b false), (.notB false, .b true), (.len (eL (e_sl e_u8) a0.K), .i ((a0.K.length : Nat) : Int)), (.ltI 0 ((a0.K.length : Nat) : Int), .b false), (.eqI a0.Kind 1, .b false), (.eqI a0.Kind 2, .b false), (.eqI a0.N 0, .b true), (.notB true, .b false), (.eqI a0.Kind 3, .b false), (.eqI a0.Kind 6, .b false), (.eqI a0.Kind 8, .b false), (.eqI a0.Kind 23, .b true), (.call 93 [] [.val false [.seq (eL e_u8 a0.S)]], .r (.val false [.bool true]) []), (.notB true, .b false), (.eqI a0.Kind 23, .b true), (.call 102 [] [.val false [.seq (eL e_u8 a0.S)]], .r (.val false [.bool false]) []), (.loop 78 (loopB Try.f78 0) ⟨[(1, .val false [.int .i64 a1]), (2, .val false [.int .i64 (w64 (a2 - 1))]), (3, .val false [.ptr 0 0]), (8, .val false [.int .i64 0])], [.var [.int .i64 a0.Kind, .int .i64 a0.N, .seq (eL e_u8 a0.S), .seq (eL (e_sl e_u8) a0.K), .seq (eL e_GExpr a0.Kids)]], 0⟩, .x (.exit 2) ⟨[(1, .val false [.int .i64 a1]), (2, .val false [.int .i64 o21_1_0]), (3, .val false [.ptr 0 0]), (8, .val false [.int .i64 o21_1_1]), (129, .val false [.bool false])], [.var [.int .i64 a0.Kind, .int .i64 a0.N, .seq (eL e_u8 a0.S), .seq (eL (e_sl e_u8) a0.K), .seq (eL e_GExpr a0.Kids)]], 0⟩)] rfl fd_78 (by kernel_rfl) ⟨rfl, (A.ltI_f c1), (A.ltI_f c2), (A.ltI_f c3), (A.ltI_f c4), (A.call (ok_spec_l6arity a0.Kind _ hr5)), (A.leI_t c6), A.len, (A.eqI_t c7), rfl, (A.eqI_f c8), (A.eqI_f c8), rfl, A.len, (A.ltI_f c9), (A.eqI_f c10), (A.eqI_f c11), (A.eqI_t c12), rfl, (A.eqI_f c13), (A.eqI_f c14), (A.eqI_f c15), (A.eqI_t c16), (A.call (ok_spec_NameOk a0.S _ hr17)), rfl, (A.eqI_t c16), (A.call (ok_spec_l6kept a0.S _ hr19)), (A.loop (gl_spec_l6expr_l0 G_spec_l6expr H_spec_l6expr a1 a0 _ (w64 (a2 - 1)) 0 _ ho21)), trivial⟩
                                | false =>
                                  try dsimp only at h
                                  obtain rfl := Option.some.inj h
                                  exact call_way cfg [(.sub .i64 a2 1, .i (w64 (a2 - 1))), (.ltI (w64 (a2 - 1)) 0, .b false), (.ltI 10 a1, .b false), (.ltI a0.Kind 0, .b false), (.ltI 23 a0.Kind, .b false), (.call 101 [] [.val false [.int .i64 a0.Kind]], .r (.val false [.int .i64 r5]) []), (.leI 0 r5, .b true), (.len (eL e_GExpr a0.Kids), .i ((a0.Kids.length : Nat) : Int)), (.eqI ((a0.Kids.length : Nat) : Int) r5, .b true), (.notB true, .b false), (.eqI a0.Kind 5, .b false), (.eqI a0.Kind 5, .b false), (.notB false, .b true), (.len (eL (e_sl e_u8) a0.K), .i ((a0.K.length : Nat) : Int)), (.ltI 0 ((a0.K.length : Nat) : Int), .b false), (.eqI a0.Kind 1, .b false), (.eqI a0.Kind 2, .b false), (.eqI a0.N 0, .b true), (.notB true, .b false), (.eqI a0.Kind 3, .b false), (.eqI a0.Kind 6, .b false), (.eqI a0.Kind 8, .b false), (.eqI a0.Kind 23, .b true), (.call 93 [] [.val false [.seq (eL e_u8 a0.S)]], .r (.val false [.bool false]) []), (.notB false, .b true)] rfl fd_78 (by kernel_rfl) ⟨rfl, (A.ltI_f c1), (A.ltI_f c2), (A.ltI_f c3), (A.ltI_f c4), (A.call (ok_spec_l6arity a0.Kind _ hr5)), (A.leI_t c6), A.len, (A.eqI_t c7), rfl, (A.eqI_f c8), (A.eqI_f c8), rfl, A.len, (A.ltI_f c9), (A.eqI_f c10), (A.eqI_f c11), (A.eqI_t c12), rfl, (A.eqI_f c13), (A.eqI_f c14), (A.eqI_f c15), (A.eqI_t c16), (A.call (ok_spec_NameOk a0.S _ hr17)), rfl, trivial⟩
                              · rw [if_neg c16] at h
                                by_cases c17 : a0.Kind = 7
                                · rw [if_pos c17] at h
                                  obtain ⟨r18, hr18, h⟩ := Option.bind_eq_some_iff.1 h
                                  cases r18 with
                                  | true =>
                                    try dsimp only at h
                                    obtain ⟨o20, ho20, h⟩ := Option.bind_eq_some_iff.1 h
                                    rcases o20 with o20_0 | ⟨o20_1_0, o20_1_1⟩
                                    · try dsimp only at h
                                      obtain rfl := Option.some.inj h
                                      exact call_way cfg [(.sub .i64 a2 1, .i (w64 (a2 - 1))), (.ltI (w64 (a2 - 1)) 0, .b false), (.ltI 10 a1, .b false), (.ltI a0.Kind 0, .b false), (.ltI 23 a0.Kind, .b false), (.call 101 [] [.val false [.int .i64 a0.Kind]], .r (.val false [.int .i64 r5]) []), (.leI 0 r5, .b true), (.len (eL e_GExpr a0.Kids), .i ((a0.Kids.length : Nat) : Int)), (.eqI ((a0.Kids.length : Nat) : Int) r5, .b true), (.notB true, .b false), (.eqI a0.Kind 5, .b false), (.eqI a0.Kind 5, .b false), (.notB false, .b true), (.len (eL (e_sl e_u8) a0.K), .i ((a0.K.length : Nat) : Int)), (.ltI 0 ((a0.K.length : Nat) : Int), .b false), (.eqI a0.Kind 1, .b false), (.eqI a0.Kind 2, .b false), (.eqI a0.N 0, .b true), (.notB true, .b false), (.eqI a0.Kind 3, .b false), (.eqI a0.Kind 6, .b false), (.eqI a0.Kind 8, .b false), (.eqI a0.Kind 23, .b false), (.eqI a0.Kind 7, .b true), (.call 103 [] [.val false [.seq (eL e_u8 a0.S)]], .r (.val false [.bool true]) []), (.notB true, .b false), (.loop 78 (loopB Try.f78 0) ⟨[(1, .val false [.int .i64 a1]), (2, .val false [.int .i64 (w64 (a2 - 1))]), (3, .val false [.ptr 0 0]), (8, .val false [.int .i64 0])], [.var [.int .i64 a0.Kind, .int .i64 a0.N, .seq (eL e_u8 a0.S), .seq (eL (e_sl e_u8) a0.K), .seq (eL e_GExpr a0.Kids)]], 0⟩, .x (.ret) ⟨[(6, .val false [.int .i64 o20_0])], [], 0⟩)] rfl fd_78 (by kernel_rfl) ⟨rfl, (A.ltI_f c1), (A.ltI_f c2), (A.ltI_f c3), (A.ltI_f c4), (A.call (ok_spec_l6arity a0.Kind _ hr5)), (A.leI_t c6), A.len, (A.eqI_t c7), rfl, (A.eqI_f c8), (A.eqI_f c8), rfl, A.len, (A.ltI_f c9), (A.eqI_f c10), (A.eqI_f c11), (A.eqI_t c12), rfl, (A.eqI_f c13), (A.eqI_f c14), (A.eqI_f c15), (A.eqI_f c16), (A.eqI_t c17), (A.call (ok_spec_l6free a0.S _ hr18)), rfl, (A.loop (gl_spec_l6expr_l0 G_spec_l6expr H_spec_l6expr a1 a0 _ (w64 (a2 - 1)) 0 _ ho20)), trivial⟩
                                    · try dsimp only at h
                                      obtain rfl := Option.some.inj h
                                      exact call_way cfg [(.sub .i64 a2 1, .i (w64 (a2 - 1))), (.ltI (w64 (a2 - 1)) 0, .b false), (.ltI 10 a1, .b false), (.ltI a0.Kind 0, .b false), (.ltI 23 a0.Kind, .b false), (.call 101 [] [.val false [.int .i64 a0.Kind]], .r (.val false [.int .i64 r5]) []), (.leI 0 r5, .b true), (.len (eL e_GExpr a0.Kids), .i ((a0.Kids.length : Nat) : Int)), (.eqI ((a0.Kids.length : Nat) : Int) r5, .b true), (.notB true, .b false), (.eqI a0.Kind 5, .b false), (.eqI a0.Kind 5, .b false), (.notB false, .b true), (.len (eL (e_sl e_u8) a0.K), .i ((a0.K.length : Nat) : Int)), (.ltI 0 ((a0.K.length : Nat) : Int), .b false), (.eqI a0.Kind 1, .b false), (.eqI a0.Kind 2, .b false), (.eqI a0.N 0, .b true), (.notB true, .b false), (.eqI a0.Kind 3, .b false), (.eqI a0.Kind 6, .b false), (.eqI a0.Kind 8, .b false), (.eqI a0.Kind 23, .b false), (.eqI a0.Kind 7, .b true), (.call 103 [] [.val false [.seq (eL e_u8 a0.S)]], .r (.val false [.bool true]) []), (.notB true, .b false), (.loop 78 (loopB Try.f78 0) ⟨[(1, .val false [.int .i64 a1]), (2, .val false [.int .i64 (w64 (a2 - 1))]), (3, .val false [.ptr 0 0]), (8, .val false [.int .i64 0])], [.var [.int .i64 a0.Kind, .int .i64 a0.N, .seq (eL e_u8 a0.S), .seq (eL (e_sl e_u8) a0.K), .seq (eL e_GExpr a0.Kids)]], 0⟩, .x (.exit 2) ⟨[(1, .val false [.int .i64 a1]), (2, .val false [.int .i64 o20_1_0]), (3, .val false [.ptr 0 0]), (8, .val false [.int .i64 o20_1_1]), (129, .val false [.bool false])], [.var [.int .i64 a0.Kind, .int .i64 a0.N, .seq (eL e_u8 a0.S), .seq (eL (e_sl e_u8) a0.K), .seq (eL e_GExpr a0.Kids)]], 0⟩)] rfl fd_78 (by kernel_rfl) ⟨rfl, (A.ltI_f c1), (A.ltI_f c2), (A.ltI_f c3), (A.ltI_f c4), (A.call (ok_spec_l6arity a0.Kind _ hr5)), (A.leI_t c6), A.len, (A.eqI_t c7), rfl, (A.eqI_f c8), (A.eqI_f c8), rfl, A.len, (A.ltI_f c9), (A.eqI_f c10), (A.eqI_f c11), (A.eqI_t c12), rfl, (A.eqI_f c13), (A.eqI_f c14), (A.eqI_f c15), (A.eqI_f c16), (A.eqI_t c17), (A.call (ok_spec_l6free a0.S _ hr18)), rfl, (A.loop (gl_spec_l6expr_l0 G_spec_l6expr H_spec_l6expr a1 a0 _ (w64 (a2 - 1)) 0 _ ho20)), trivial⟩
                                  | false =>
                                    try dsimp only at h
                                    obtain rfl := Option.some.inj h
                                    exact call_way cfg [(.sub .i64 a2 1, .i (w64 (a2 - 1))), (.ltI (w64 (a2 - 1)) 0, .b false), (.ltI 10 a1, .b false), (.ltI a0.Kind 0, .b false), (.ltI 23 a0.Kind, .b false), (.call 101 [] [.val false [.int .i64 a0.Kind]], .r (.val false [.int .i64 r5]) []), (.leI 0 r5, .b true), (.len (eL e_GExpr a0.Kids), .i ((a0.Kids.length : Nat) : Int)), (.eqI ((a0.Kids.length : Nat) : Int) r5, .b true), (.notB true, .b false), (.eqI a0.Kind 5, .b false), (.eqI a0.Kind 5, .b false), (.notB false, .b true), (.len (eL (e_sl e_u8) a0.K), .i ((a0.K.length : Nat) : Int)), (.ltI 0 ((a0.K.length : Nat) : Int), .b false), (.eqI a0.Kind 1, .b false), (.eqI a0.Kind 2, .b false), (.eqI a0.N 0, .b true), (.notB true, .b false), (.eqI a0.Kind 3, .b false), (.eqI a0.Kind 6, .b false), (.eqI a0.Kind 8, .b false), (.eqI a0.Kind 23, .b false), (.eqI a0.Kind 7, .b true), (.call 103 [] [.val false [.seq (eL e_u8 a0.S)]], .r (.val false [.bool false]) []), (.notB false, .b true)] rfl fd_78 (by kernel_rfl) ⟨rfl, (A.ltI_f c1), (A.ltI_f c2), (A.ltI_f c3), (A.ltI_f c4), (A.call (ok_spec_l6arity a0.Kind _ hr5)), (A.leI_t c6), A.len, (A.eqI_t c7), rfl, (A.eqI_f c8), (A.eqI_f c8), rfl, A.len, (A.ltI_f c9), (A.eqI_f c10), (A.eqI_f c11), (A.eqI_t c12), rfl, (A.eqI_f c13), (A.eqI_f c14), (A.eqI_f c15), (A.eqI_f c16), (A.eqI_t c17), (A.call (ok_spec_l6free a0.S _ hr18)), rfl, trivial⟩
                                · rw [if_neg c17] at h
                                  by_cases c18 : 0 < ((a0.S.length : Nat) : Int)
                                  · rw [if_pos c18] at h
                                    obtain rfl := Option.some.inj h
                                    exact call_way cfg [(.sub .i64 a2 1, .i (w64 (a2 - 1))), (.ltI (w64 (a2 - 1)) 0, .b false), (.ltI 10 a1, .b false), (.ltI a0.Kind 0, .b false), (.ltI 23 a0.Kind, .b false), (.call 101 [] [.val false [.int .i64 a0.Kind]], .r (.val false [.int .i64 r5]) []), (.leI 0 r5, .b true), (.len (eL e_GExpr a0.Kids), .i ((a0.Kids.length : Nat) : Int)), (.eqI ((a0.Kids.length : Nat) : Int) r5, .b true), (.notB true, .b false), (.eqI a0.Kind 5, .b false), (.eqI a0.Kind 5, .b false), (.notB false, .b true), (.len (eL (e_sl e_u8) a0.K), .i ((a0.K.length : Nat) : Int)), (.ltI 0 ((a0.K.length : Nat) : Int), .b false), (.eqI a0.Kind 1, .b false), (.eqI a0.Kind 2, .b false), (.eqI a0.N 0, .b true), (.notB true, .b false), (.eqI a0.Kind 3, .b false), (.eqI a0.Kind 6, .b false), (.eqI a0.Kind 8, .b false), (.eqI a0.Kind 23, .b false), (.eqI a0.Kind 7, .b false), (.len (eL e_u8 a0.S), .i ((a0.S.length : Nat) : Int)), (.ltI 0 ((a0.S.length : Nat) : Int), .b true)] rfl fd_78 (by kernel_rfl) ⟨rfl, (A.ltI_f c1), (A.ltI_f c2), (A.ltI_f c3), (A.ltI_f c4), (A.call (ok_spec_l6arity a0.Kind _ hr5)), (A.leI_t c6), A.len, (A.eqI_t c7), rfl, (A.eqI_f c8), (A.eqI_f c8), rfl, A.len, (A.ltI_f c9), (A.eqI_f c10), (A.eqI_f c11), (A.eqI_t c12), rfl, (A.eqI_f c13), (A.eqI_f c14), (A.eqI_f c15), (A.eqI_f c16), (A.eqI_f c17), A.len, (A.ltI_t c18), trivial⟩
                                  · rw [if_neg c18] at h
                                    obtain ⟨o19, ho19, h⟩ := Option.bind_eq_some_iff.1 h
                                    rcases o19 with o19_0 | ⟨o19_1_0, o19_1_1⟩
                                    · try dsimp only at h
                                      obtain rfl := Option.some.inj h
                                      exact call_way cfg [(.sub .i64 a2 1, .i (w64 (a2 - 1))), (.ltI (w64 (a2 - 1)) 0, .b false), (.ltI 10 a1, .b false), (.ltI a0.Kind 0, .b false), (.ltI 23 a0.Kind, .b false), (.call 101 [] [.val false [.int .i64 a0.Kind]], .r (.val false [.int .i64 r5]) []), (.leI 0 r5, .b true), (.len (eL e_GExpr a0.Kids), .i ((a0.Kids.length : Nat) : Int)), (.eqI ((a0.Kids.length : Nat) : Int) r5, .b true), (.notB true, .b false), (.eqI a0.Kind 5, .b false), (.eqI a0.Kind 5, .b false), (.notB false, .b true), (.len (eL (e_sl e_u8) a0.K), .i ((a0.K.length : Nat) : Int)), (.ltI 0 ((a0.K.length : Nat) : Int), .b false), (.eqI a0.Kind 1, .b false), (.eqI a0.Kind 2, .b false), (.eqI a0.N 0, .b true), (.notB true, .b false), (.eqI a0.Kind 3, .b false), (.eqI a0.Kind 6, .b false), (.eqI a0.Kind 8, .b false), (.eqI a0.Kind 23, .b false), (.eqI a0.Kind 7, .b false), (.len (eL e_u8 a0.S), .i ((a0.S.length : Nat) : Int)), (.ltI 0 ((a0.S.length : Nat) : Int), .b false), (.loop 78 (loopB Try.f78 0) ⟨[(1, .val false [.int .i64 a1]), (2, .val false [.int .i64 (w64 (a2 - 1))]), (3, .val false [.ptr 0 0]), (8, .val false [.int .i64 0])], [.var [.int .i64 a0.Kind, .int .i64 a0.N, .seq (eL e_u8 a0.S), .seq (eL (e_sl e_u8) a0.K), .seq (eL e_GExpr a0.Kids)]], 0⟩, .x (.ret) ⟨[(6, .val false [.int .i64 o19_0])], [], 0⟩)] rfl fd_78 (by kernel_rfl) ⟨rfl, (A.ltI_f c1), (A.ltI_f c2), (A.ltI_f c3), (A.ltI_f c4), (A.call (ok_spec_l6arity a0.Kind _ hr5)), (A.leI_t c6), A.len, (A.eqI_t c7), rfl, (A.eqI_f c8), (A.eqI_f c8), rfl, A.len, (A.ltI_f c9), (A.eqI_f c10), (A.eqI_f c11), (A.eqI_t c12), rfl, (A.eqI_f c13), (A.eqI_f c14), (A.eqI_f c15), (A.eqI_f c16), (A.eqI_f c17), A.len, (A.ltI_f c18), (A.loop (gl_spec_l6expr_l0 G_spec_l6expr H_spec_l6expr a1 a0 _ (w64 (a2 - 1)) 0 _ ho19)), trivial⟩
                                    · try dsimp only at h
                                      obtain rfl := Option.some.inj h
                                      exact call_way cfg [(.sub .i64 a2 1, .i (w64 (a2 - 1))), (.ltI (w64 (a2 - 1)) 0, .b false), (.ltI 10 a1, .b false), (.ltI a0.Kind 0, .b false), (.ltI 23 a0.Kind, .b false), (.call 101 [] [.val false [.int .i64 a0.Kind]], .r (.val false [.int .i64 r5]) []), (.leI 0 r5, .b true), (.len (eL e_GExpr a0.Kids), .i ((a0.Kids.length : Nat) : Int)), (.eqI ((a0.Kids.length : Nat) : Int) r5, .b true), (.notB true, .b false), (.eqI a0.Kind 5, .b false), (.eqI a0.Kind 5, .b false), (.notB false, .b true), (.len (eL (e_sl e_u8) a0.K), .i ((a0.K.length : Nat) : Int)), (.ltI 0 ((a0.K.length : Nat) : Int), .b false), (.eqI a0.Kind 1, .b false), (.eqI a0.Kind 2, .b false), (.eqI a0.N 0, .b true), (.notB true, .b false), (.eqI a0.Kind 3, .b false), (.eqI a0.Kind 6, .b false), (.eqI a0.Kind 8, .b false), (.eqI a0.Kind 23, .b false), (.eqI a0.Kind 7, .b false), (.len (eL e_u8 a0.S), .i ((a0.S.length : Nat) : Int)), (.ltI 0 ((a0.S.length : Nat) : Int), .b false), (.loop 78 (loopB Try.f78 0) ⟨[(1, .val false [.int .i64 a1]), (2, .val false [.int .i64 (w64 (a2 - 1))]), (3, .val false [.ptr 0 0]), (8, .val false [.int .i64 0])], [.var [.int .i64 a0.Kind, .int .i64 a0.N, .seq (eL e_u8 a0.S), .seq (eL (e_sl e_u8) a0.K), .seq (eL e_GExpr a0.Kids)]], 0⟩, .x (.exit 2) ⟨[(1, .val false [.int .i64 a1]), (2, .val false [.int .i64 o19_1_0]), (3, .val false [.ptr 0 0]), (8, .val false [.int .i64 o19_1_1]), (129, .val false [.bool false])], [.var [.int .i64 a0.Kind, .int .i64 a0.N, .seq (eL e_u8 a0.S), .seq (eL (e_sl e_u8) a0.K), .seq (eL e_GExpr a0.Kids)]], 0⟩)] rfl fd_78 (by kernel_rfl) ⟨rfl, (A.ltI_f c1), (A.ltI_f c2), (A.ltI_f c3), (A.ltI_f c4), (A.call (ok_spec_l6arity a0.Kind _ hr5)), (A.leI_t c6), A.len, (A.eqI_t c7), rfl, (A.eqI_f c8), (A.eqI_f c8), rfl, A.len, (A.ltI_f c9), (A.eqI_f c10), (A.eqI_f c11), (A.eqI_t c12), rfl, (A.eqI_f c13), (A.eqI_f c14), (A.eqI_f c15), (A.eqI_f c16), (A.eqI_f c17), A.len, (A.ltI_f c18), (A.loop (gl_spec_l6expr_l0 G_spec_l6expr H_spec_l6expr a1 a0 _ (w64 (a2 - 1)) 0 _ ho19)), trivial⟩
                      · rw [if_neg c12] at h
                        obtain rfl := Option.some.inj h
                        exact call_way cfg [(.sub .i64 a2 1, .i (w64 (a2 - 1))), (.ltI (w64 (a2 - 1)) 0, .b false), (.ltI 10 a1, .b false), (.ltI a0.Kind 0, .b false), (.ltI 23 a0.Kind, .b false), (.call 101 [] [.val false [.int .i64 a0.Kind]], .r (.val false [.int .i64 r5]) []), (.leI 0 r5, .b true), (.len (eL e_GExpr a0.Kids), .i ((a0.Kids.length : Nat) : Int)), (.eqI ((a0.Kids.length : Nat) : Int) r5, .b true), (.notB true, .b false), (.eqI a0.Kind 5, .b false), (.eqI a0.Kind 5, .b false), (.notB false, .b true), (.len (eL (e_sl e_u8) a0.K), .i ((a0.K.length : Nat) : Int)), (.ltI 0 ((a0.K.length : Nat) : Int), .b false), (.eqI a0.Kind 1, .b false), (.eqI a0.Kind 2, .b false), (.eqI a0.N 0, .b false), (.notB false, .b true)] rfl fd_78 (by kernel_rfl) ⟨rfl, (A.ltI_f c1), (A.ltI_f c2), (A.ltI_f c3), (A.ltI_f c4), (A.call (ok_spec_l6arity a0.Kind _ hr5)), (A.leI_t c6), A.len, (A.eqI_t c7), rfl, (A.eqI_f c8), (A.eqI_f c8), rfl, A.len, (A.ltI_f c9), (A.eqI_f c10), (A.eqI_f c11), (A.eqI_f c12), rfl, trivial⟩
            · rw [if_neg c7] at h
              obtain rfl := Option.some.inj h
              exact call_way cfg [(.sub .i64 a2 1, .i (w64 (a2 - 1))), (.ltI (w64 (a2 - 1)) 0, .b false), (.ltI 10 a1, .b false), (.ltI a0.Kind 0, .b false), (.ltI 23 a0.Kind, .b false), (.call 101 [] [.val false [.int .i64 a0.Kind]], .r (.val false [.int .i64 r5]) []), (.leI 0 r5, .b true), (.len (eL e_GExpr a0.Kids), .i ((a0.Kids.length : Nat) : Int)), (.eqI ((a0.Kids.length : Nat) : Int) r5, .b false), (.notB false, .b true)] rfl fd_78 (by kernel_rfl) ⟨rfl, (A.ltI_f c1), (A.ltI_f c2), (A.ltI_f c3), (A.ltI_f c4), (A.call (ok_spec_l6arity a0.Kind _ hr5)), (A.leI_t c6), A.len, (A.eqI_f c7), rfl, trivial⟩
          · rw [if_neg c6] at h
            by_cases c7 : a0.Kind = 5
            · rw [if_pos c7] at h
              by_cases c8 : ((a0.K.length : Nat) : Int) = ((a0.Kids.length : Nat) : Int)
              · rw [if_pos c8] at h
                by_cases c9 : a0.N = 0
                · rw [if_pos c9] at h
                  by_cases c10 : 0 < ((a0.S.length : Nat) : Int)
                  · rw [if_pos c10] at h
                    obtain rfl := Option.some.inj h
                    exact call_way cfg [(.sub .i64 a2 1, .i (w64 (a2 - 1))), (.ltI (w64 (a2 - 1)) 0, .b false), (.ltI 10 a1, .b false), (.ltI a0.Kind 0, .b false), (.ltI 23 a0.Kind, .b false), (.call 101 [] [.val false [.int .i64 a0.Kind]], .r (.val false [.int .i64 r5]) []), (.leI 0 r5, .b false), (.eqI a0.Kind 5, .b true), (.len (eL (e_sl e_u8) a0.K), .i ((a0.K.length : Nat) : Int)), (.len (eL e_GExpr a0.Kids), .i ((a0.Kids.length : Nat) : Int)), (.eqI ((a0.K.length : Nat) : Int) ((a0.Kids.length : Nat) : Int), .b true), (.notB true, .b false), (.eqI a0.Kind 5, .b true), (.notB true, .b false), (.eqI a0.Kind 1, .b false), (.eqI a0.Kind 2, .b false), (.eqI a0.N 0, .b true), (.notB true, .b false), (.eqI a0.Kind 3, .b false), (.eqI a0.Kind 6, .b false), (.eqI a0.Kind 8, .b false), (.eqI a0.Kind 23, .b false), (.eqI a0.Kind 7, .b false), (.len (eL e_u8 a0.S), .i ((a0.S.length : Nat) : Int)), (.ltI 0 ((a0.S.length : Nat) : Int), .b true)] rfl fd_78 (by kernel_rfl) ⟨rfl, (A.ltI_f c1), (A.ltI_f c2), (A.ltI_f c3), (A.ltI_f c4), (A.call (ok_spec_l6arity a0.Kind _ hr5)), (A.leI_f c6), (A.eqI_t c7), A.len, A.len, (A.eqI_t c8), rfl, (A.eqI_t c7), rfl, (A.eqI_f (by omega)), (A.eqI_f (by omega)), (A.eqI_t c9), rfl, (A.eqI_f (by omega)), (A.eqI_f (by omega)), (A.eqI_f (by omega)), (A.eqI_f (by omega)), (A.eqI_f (by omega)), A.len, (A.ltI_t c10), trivial⟩
                  · rw [if_neg c10] at h
                    obtain ⟨o11, ho11, h⟩ := Option.bind_eq_some_iff.1 h
                    rcases o11 with o11_0 | ⟨o11_1_0, o11_1_1⟩
                    · try dsimp only at h
                      obtain rfl := Option.some.inj h
                      exact call_way cfg [(.sub .i64 a2 1, .i (w64 (a2 - 1))), (.ltI (w64 (a2 - 1)) 0, .b false), (.ltI 10 a1, .b false), (.ltI a0.Kind 0, .b false), (.ltI 23 a0.Kind, .b false), (.call 101 [] [.val false [.int .i64 a0.Kind]], .r (.val false [.int .i64 r5]) []), (.leI 0 r5, .b false), (.eqI a0.Kind 5, .b true), (.len (eL (e_sl e_u8) a0.K), .i ((a0.K.length : Nat) : Int)), (.len (eL e_GExpr a0.Kids), .i ((a0.Kids.length : Nat) : Int)), (.eqI ((a0.K.length : Nat) : Int) ((a0.Kids.length : Nat) : Int), .b true), (.notB true, .b false), (.eqI a0.Kind 5, .b true), (.notB true, .b false), (.eqI a0.Kind 1, .b false), (.eqI a0.Kind 2, .b false), (.eqI a0.N 0, .b true), (.notB true, .b false), (.eqI a0.Kind 3, .b false), (.eqI a0.Kind 6, .b false), (.eqI a0.Kind 8, .b false), (.eqI a0.Kind 23, .b false), (.eqI a0.Kind 7, .b false), (.len (eL e_u8 a0.S), .i ((a0.S.length : Nat) : Int)), (.ltI 0 ((a0.S.length : Nat) : Int), .b false), (.loop 78 (loopB Try.f78 0) ⟨[(1, .val false [.int .i64 a1]), (2, .val false [.int .i64 (w64 (a2 - 1))]), (3, .val false [.ptr 0 0]), (8, .val false [.int .i64 0])], [.var [.int .i64 a0.Kind, .int .i64 a0.N, .seq (eL e_u8 a0.S), .seq (eL (e_sl e_u8) a0.K), .seq (eL e_GExpr a0.Kids)]], 0⟩, .x (.ret) ⟨[(6, .val false [.int .i64 o11_0])], [], 0⟩)] rfl fd_78 (by kernel_rfl) ⟨rfl, (A.ltI_f c1), (A.ltI_f c2), (A.ltI_f c3), (A.ltI_f c4), (A.call (ok_spec_l6arity a0.Kind _ hr5)), (A.leI_f c6), (A.eqI_t c7), A.len, A.len, (A.eqI_t c8), rfl, (A.eqI_t c7), rfl, (A.eqI_f (by omega)), (A.eqI_f (by omega)), (A.eqI_t c9), rfl, (A.eqI_f (by omega)), (A.eqI_f (by omega)), (A.eqI_f (by omega)), (A.eqI_f (by omega)), (A.eqI_f (by omega)), A.len, (A.ltI_f c10), (A.loop (gl_spec_l6expr_l0 G_spec_l6expr H_spec_l6expr a1 a0 _ (w64 (a2 - 1)) 0 _ ho11)), trivial⟩
                    · try dsimp only at h
                      obtain rfl := Option.some.inj h
                      exact call_way cfg [(.sub .i64 a2 1, .i (w64 (a2 - 1))), (.ltI (w64 (a2 - 1)) 0, .b false), (.ltI 10 a1, .b false), (.ltI a0.Kind 0, .b false), (.ltI 23 a0.Kind, .b false), (.call 101 [] [.val false [.int .i64 a0.Kind]], .r (.val false [.int .i64 r5]) []), (.leI 0 r5, .b false), (.eqI a0.Kind 5, .b true), (.len (eL (e_sl e_u8) a0.K), .i ((a0.K.length : Nat) : Int)), (.len (eL e_GExpr a0.Kids), .i ((a0.Kids.length : Nat) : Int)), (.eqI ((a0.K.length : Nat) : Int) ((a0.Kids.length : Nat) : Int), .b true), (.notB true, .b false), (.eqI a0.Kind 5, .b true), (.notB true, .b false), (.eqI a0.Kind 1, .b false), (.eqI a0.Kind 2, .b false), (.eqI a0.N 0, .b true), (.notB true, .b false), (.eqI a0.Kind 3, .b false), (.eqI a0.Kind 6, .b false), (.eqI a0.Kind 8, .b false), (.eqI a0.Kind 23, .b false), (.eqI a0.Kind 7, .b false), (.len (eL e_u8 a0.S), .i ((a0.S.length : Nat) : Int)), (.ltI 0 ((a0.S.length : Nat) : Int), .b false), (.loop 78 (loopB Try.f78 0) ⟨[(1, .val false [.int .i64 a1]), (2, .val false [.int .i64 (w64 (a2 - 1))]), (3, .val false [.ptr 0 0]), (8, .val false [.int .i64 0])], [.var [.int .i64 a0.Kind, .int .i64 a0.N, .seq (eL e_u8 a0.S), .seq (eL (e_sl e_u8) a0.K), .seq (eL e_GExpr a0.Kids)]], 0⟩, .x (.exit 2) ⟨[(1, .val false [.int .i64 a1]), (2, .val false [.int .i64 o11_1_0]), (3, .val false [.ptr 0 0]), (8, .val false [.int .i64 o11_1_1]), (129, .val false [.bool false])], [.var [.int .i64 a0.Kind, .int .i64 a0.N, .seq (eL e_u8 a0.S), .seq (eL (e_sl e_u8) a0.K), .seq (eL e_GExpr a0.Kids)]], 0⟩)] rfl fd_78 (by kernel_rfl) ⟨rfl, (A.ltI_f c1), (A.ltI_f c2), (A.ltI_f c3), (A.ltI_f c4), (A.call (ok_spec_l6arity a0.Kind _ hr5)), (A.leI_f c6), (A.eqI_t c7), A.len, A.len, (A.eqI_t c8), rfl, (A.eqI_t c7), rfl, (A.eqI_f (by omega)), (A.eqI_f (by omega)), (A.eqI_t c9), rfl, (A.eqI_f (by omega)), (A.eqI_f (by omega)), (A.eqI_f (by omega)), (A.eqI_f (by omega)), (A.eqI_f (by omega)), A.len, (A.ltI_f c10), (A.loop (gl_spec_l6expr_l0 G_spec_l6expr H_spec_l6expr a1 a0 _ (w64 (a2 - 1)) 0 _ ho11)), trivial⟩
                · rw [if_neg c9] at h
                  obtain rfl := Option.some.inj h
                  exact call_way cfg [(.sub .i64 a2 1, .i (w64 (a2 - 1))), (.ltI (w64 (a2 - 1)) 0, .b false), (.ltI 10 a1, .b false), (.ltI a0.Kind 0, .b false), (.ltI 23 a0.Kind, .b false), (.call 101 [] [.val false [.int .i64 a0.Kind]], .r (.val false [.int .i64 r5]) []), (.leI 0 r5, .b false), (.eqI a0.Kind 5, .b true), (.len (eL (e_sl e_u8) a0.K), .i ((a0.K.length : Nat) : Int)), (.len (eL e_GExpr a0.Kids), .i ((a0.Kids.length : Nat) : Int)), (.eqI ((a0.K.length : Nat) : Int) ((a0.Kids.length : Nat) : Int), .b true), (.notB true, .b false), (.eqI a0.Kind 5, .b true), (.notB true, .b false), (.eqI a0.Kind 1, .b false), (.eqI a0.Kind 2, .b false), (.eqI a0.N 0, .b false), (.notB false, .b true)] rfl fd_78 (by kernel_rfl) ⟨rfl, (A.ltI_f c1), (A.ltI_f c2), (A.ltI_f c3), (A.ltI_f c4), (A.call (ok_spec_l6arity a0.Kind _ hr5)), (A.leI_f c6), (A.eqI_t c7), A.len, A.len, (A.eqI_t c8), rfl, (A.eqI_t c7), rfl, (A.eqI_f (by omega)), (A.eqI_f (by omega)), (A.eqI_f c9), rfl, trivial⟩
              · rw [if_neg c8] at h
                obtain rfl := Option.some.inj h
                exact call_way cfg [(.sub .i64 a2 1, .i (w64 (a2 - 1))), (.ltI (w64 (a2 - 1)) 0, .b false), (.ltI 10 a1, .b false), (.ltI a0.Kind 0, .b false), (.ltI 23 a0.Kind, .b false), (.call 101 [] [.val false [.int .i64 a0.Kind]], .r (.val false [.int .i64 r5]) []), (.leI 0 r5, .b false), (.eqI a0.Kind 5, .b true), (.len (eL (e_sl e_u8) a0.K), .i ((a0.K.length : Nat) : Int)), (.len (eL e_GExpr a0.Kids), .i ((a0.Kids.length : Nat) : Int)), (.eqI ((a0.K.length : Nat) : Int) ((a0.Kids.length : Nat) : Int), .b false), (.notB false, .b true)] rfl fd_78 (by kernel_rfl) ⟨rfl, (A.ltI_f c1), (A.ltI_f c2), (A.ltI_f c3), (A.ltI_f c4), (A.call (ok_spec_l6arity a0.Kind _ hr5)), (A.leI_f c6), (A.eqI_t c7), A.len, A.len, (A.eqI_f c8), rfl, trivial⟩
            · rw [if_neg c7] at h
              by_cases c8 : 0 < ((a0.K.length : Nat) : Int)
              · rw [if_pos c8] at h
                obtain rfl := Option.some.inj h
                exact call_way cfg [(.sub .i64 a2 1, .i (w64 (a2 - 1))), (.ltI (w64 (a2 - 1)) 0, .b false), (.ltI 10 a1, .b false), (.ltI a0.Kind 0, .b false), (.ltI 23 a0.Kind, .b false), (.call 101 [] [.val false [.int .i64 a0.Kind]], .r (.val false [.int .i64 r5]) []), (.leI 0 r5, .b false), (.eqI a0.Kind 5, .b false), (.eqI a0.Kind 5, .b false), (.notB false, .b true), (.len (eL (e_sl e_u8) a0.K), .i ((a0.K.length : Nat) : Int)), (.ltI 0 ((a0.K.length : Nat) : Int), .b true)] rfl fd_78 (by kernel_rfl) ⟨rfl, (A.ltI_f c1), (A.ltI_f c2), (A.ltI_f c3), (A.ltI_f c4), (A.call (ok_spec_l6arity a0.Kind _ hr5)), (A.leI_f c6), (A.eqI_f c7), (A.eqI_f c7), rfl, A.len, (A.ltI_t c8), trivial⟩
              · rw [if_neg c8] at h
                by_cases c9 : a0.Kind = 1
                · rw [if_pos c9] at h
                  by_cases c10 : a0.N < 0
                  · rw [if_pos c10] at h
                    obtain rfl := Option.some.inj h
                    exact call_way cfg [(.sub .i64 a2 1, .i (w64 (a2 - 1))), (.ltI (w64 (a2 - 1)) 0, .b false), (.ltI 10 a1, .b false), (.ltI a0.Kind 0, .b false), (.ltI 23 a0.Kind, .b false), (.call 101 [] [.val false [.int .i64 a0.Kind]], .r (.val false [.int .i64 r5]) []), (.leI 0 r5, .b false), (.eqI a0.Kind 5, .b false), (.eqI a0.Kind 5, .b false), (.notB false, .b true), (.len (eL (e_sl e_u8) a0.K), .i ((a0.K.length : Nat) : Int)), (.ltI 0 ((a0.K.length : Nat) : Int), .b false), (.eqI a0.Kind 1, .b true), (.ltI a0.N 0, .b true)] rfl fd_78 (by kernel_rfl) ⟨rfl, (A.ltI_f c1), (A.ltI_f c2), (A.ltI_f c3), (A.ltI_f c4), (A.call (ok_spec_l6arity a0.Kind _ hr5)), (A.leI_f c6), (A.eqI_f c7), (A.eqI_f c7), rfl, A.len, (A.ltI_f c8), (A.eqI_t c9), (A.ltI_t c10), trivial⟩
                  · rw [if_neg c10] at h
                    by_cases c11 : 1 < a0.N
                    · rw [if_pos c11] at h
                      obtain rfl := Option.some.inj h
                      exact call_way cfg [(.sub .i64 a2 1, .i (w64 (a2 - 1))), (.ltI (w64 (a2 - 1)) 0, .b false), (.ltI 10 a1, .b false), (.ltI a0.Kind 0, .b false), (.ltI 23 a0.Kind, .b false), (.call 101 [] [.val false [.int .i64 a0.Kind]], .r (.val false [.int .i64 r5]) []), (.leI 0 r5, .b false), (.eqI a0.Kind 5, .b false), (.eqI a0.Kind 5, .b false), (.notB false, .b true), (.len (eL (e_sl e_u8) a0.K), .i ((a0.K.length : Nat) : Int)), (.ltI 0 ((a0.K.length : Nat) : Int), .b false), (.eqI a0.Kind 1, .b true), (.ltI a0.N 0, .b false), (.ltI 1 a0.N, .b true)] rfl fd_78 (by kernel_rfl) ⟨rfl, (A.ltI_f c1), (A.ltI_f c2), (A.ltI_f c3), (A.ltI_f c4), (A.call (ok_spec_l6arity a0.Kind _ hr5)), (A.leI_f c6), (A.eqI_f c7), (A.eqI_f c7), rfl, A.len, (A.ltI_f c8), (A.eqI_t c9), (A.ltI_f c10), (A.ltI_t c11), trivial⟩
                    · rw [if_neg c11] at h
                      by_cases c12 : 0 < ((a0.S.length : Nat) : Int)
                      · rw [if_pos c12] at h
                        obtain rfl := Option.some.inj h
                        exact call_way cfg [(.sub .i64 a2 1, .i (w64 (a2 - 1))), (.ltI (w64 (a2 - 1)) 0, .b false), (.ltI 10 a1, .b false), (.ltI a0.Kind 0, .b false), (.ltI 23 a0.Kind, .b false), (.call 101 [] [.val false [.int .i64 a0.Kind]], .r (.val false [.int .i64 r5]) []), (.leI 0 r5, .b false), (.eqI a0.Kind 5, .b false), (.eqI a0.Kind 5, .b false), (.notB false, .b true), (.len (eL (e_sl e_u8) a0.K), .i ((a0.K.length : Nat) : Int)), (.ltI 0 ((a0.K.length : Nat) : Int), .b false), (.eqI a0.Kind 1, .b true), (.ltI a0.N 0, .b false), (.ltI 1 a0.N, .b false), (.eqI a0.Kind 3, .b false), (.eqI a0.Kind 6, .b false), (.eqI a0.Kind 8, .b false), (.eqI a0.Kind 23, .b false), (.eqI a0.Kind 7, .b false), (.len (eL e_u8 a0.S), .i ((a0.S.length : Nat) : Int)), (.ltI 0 ((a0.S.length : Nat) : Int), .b true)] rfl fd_78 (by kernel_rfl) ⟨rfl, (A.ltI_f c1), (A.ltI_f c2), (A.ltI_f c3), (A.ltI_f c4), (A.call (ok_spec_l6arity a0.Kind _ hr5)), (A.leI_f c6), (A.eqI_f c7), (A.eqI_f c7), rfl, A.len, (A.ltI_f c8), (A.eqI_t c9), (A.ltI_f c10), (A.ltI_f c11), (A.eqI_f (by omega)), (A.eqI_f (by omega)), (A.eqI_f (by omega)), (A.eqI_f (by omega)), (A.eqI_f (by omega)), A.len, (A.ltI_t c12), trivial⟩
                      · rw [if_neg c12] at h
                        obtain ⟨o13, ho13, h⟩ := Option.bind_eq_some_iff.1 h
                        rcases o13 with o13_0 | ⟨o13_1_0, o13_1_1⟩
                        · try dsimp only at h
                          obtain rfl := Option.some.inj h
                          exact call_way cfg [(.sub .i64 a2 1, .i (w64 (a2 - 1))), (.ltI (w64 (a2 - 1)) 0, .b false), (.ltI 10 a1, .b false), (.ltI a0.Kind 0, .b false), (.ltI 23 a0.Kind, .b false), (.call 101 [] [.val false [.int .i64 a0.Kind]], .r (.val false [.int .i64 r5]) []), (.leI 0 r5, .b false), (.eqI a0.Kind 5, .b false), (.eqI a0.Kind 5, .b false), (.notB false, .b true), (.len (eL (e_sl e_u8) a0.K), .i ((a0.K.length : Nat) : Int)), (.ltI 0 ((a0.K.length : Nat) : Int), .b false), (.eqI a0.Kind 1, .b true), (.ltI a0.N 0, .b false), (.ltI 1 a0.N, .b false), (.eqI a0.Kind 3, .b false), (.eqI a0.Kind 6, .b false), (.eqI a0.Kind 8, .b false), (.eqI a0.Kind 23, .b false), (.eqI a0.Kind 7, .b false), (.len (eL e_u8 a0.S), .i ((a0.S.length : Nat) : Int)), (.ltI 0 ((a0.S.length : Nat) : Int), .b false), (.loop 78 (loopB Try.f78 0) ⟨[(1, .val false [.int .i64 a1]), (2, .val false [.int .i64 (w64 (a2 - 1))]), (3, .val false [.ptr 0 0]), (8, .val false [.int .i64 0])], [.var [.int .i64 a0.Kind, .int .i64 a0.N, .seq (eL e_u8 a0.S), .seq (eL (e_sl e_u8) a0.K), .seq (eL e_GExpr a0.Kids)]], 0⟩, .x (.ret) ⟨[(6, .val false [.int .i64 o13_0])], [], 0⟩)] rfl fd_78 (by kernel_rfl) ⟨rfl, (A.ltI_f c1), (A.ltI_f c2), (A.ltI_f c3), (A.ltI_f c4), (A.call (ok_spec_l6arity a0.Kind _ hr5)), (A.leI_f c6), (A.eqI_f c7), (A.eqI_f c7), rfl, A.len, (A.ltI_f c8), (A.eqI_t c9), (A.ltI_f c10), (A.ltI_f c11), (A.eqI_f (by omega)), (A.eqI_f (by omega)), (A.eqI_f (by omega)), (A.eqI_f (by omega)), (A.eqI_f (by omega)), A.len, (A.ltI_f c12), (A.loop (gl_spec_l6expr_l0 G_spec_l6expr H_spec_l6expr a1 a0 _ (w64 (a2 - 1)) 0 _ ho13)), trivial⟩
                        · try dsimp only at h
                          obtain rfl := Option.some.inj h
                          exact call_way cfg [(.sub .i64 a2 1, .i (w64 (a2 - 1))), (.ltI (w64 (a2 - 1)) 0, .b false), (.ltI 10 a1, .b false), (.ltI a0.Kind 0, .b false), (.ltI 23 a0.Kind, .b false), (.call 101 [] [.val false [.int .i64 a0.Kind]], .r (.val false [.int .i64 r5]) []), (.leI 0 r5, .b false), (.eqI a0.Kind 5, .b false), (.eqI a0.Kind 5, .b false), (.notB false, .b true), (.len (eL (e_sl e_u8) a0.K), .i ((a0.K.length : Nat) : Int)), (.ltI 0 ((a0.K.length : Nat) : Int), .b false), (.eqI a0.Kind 1, .b true), (.ltI a0.N 0, .b false), (.ltI 1 a0.N, .b false), (.eqI a0.Kind 3, .b false), (.eqI a0.Kind 6, .b false), (.eqI a0.Kind 8, .b false), (.eqI a0.Kind 23, .b false), (.eqI a0.Kind 7, .b false), (.len (eL e_u8 a0.S), .i ((a0.S.length : Nat) : Int)), (.ltI 0 ((a0.S.length : Nat) : Int), .b false), (.loop 78 (loopB Try.f78 0) ⟨[(1, .val false [.int .i64 a1]), (2, .val false [.int .i64 (w64 (a2 - 1))]), (3, .val false [.ptr 0 0]), (8, .val false [.int .i64 0])], [.var [.int .i64 a0.Kind, .int .i64 a0.N, .seq (eL e_u8 a0.S), .seq (eL (e_sl e_u8) a0.K), .seq (eL e_GExpr a0.Kids)]], 0⟩, .x (.exit 2) ⟨[(1, .val false [.int .i64 a1]), (2, .val false [.int .i64 o13_1_0]), (3, .val false [.ptr 0 0]), (8, .val false [.int .i64 o13_1_1]), (129, .val false [.bool false])], [.var [.int .i64 a0.Kind, .int .i64 a0.N, .seq (eL e_u8 a0.S), .seq (eL (e_sl e_u8) a0.K), .seq (eL e_GExpr a0.Kids)]], 0⟩)] rfl fd_78 (by kernel_rfl) ⟨rfl, (A.ltI_f c1), (A.ltI_f c2), (A.ltI_f c3), (A.ltI_f c4), (A.call (ok_spec_l6arity a0.Kind _ hr5)), (A.leI_f c6), (A.eqI_f c7), (A.eqI_f c7), rfl, A.len, (A.ltI_f c8), (A.eqI_t c9), (A.ltI_f c10), (A.ltI_f c11), (A.eqI_f (by omega)), (A.eqI_f (by omega)), (A.eqI_f (by omega)), (A.eqI_f (by omega)), (A.eqI_f (by omega)), A.len, (A.ltI_f c12), (A.loop (gl_spec_l6expr_l0 G_spec_l6expr H_spec_l6expr a1 a0 _ (w64 (a2 - 1)) 0 _ ho13)), trivial⟩
                · rw [if_neg c9] at h
                  by_cases c10 : a0.Kind = 2
                  · rw [if_pos c10] at h
                    by_cases c11 : a0.N < 0
                    · rw [if_pos c11] at h
                      obtain rfl := Option.some.inj h
                      exact call_way cfg [(.sub .i64 a2 1, .i (w64 (a2 - 1))), (.ltI (w64 (a2 - 1)) 0, .b false), (.ltI 10 a1, .b false), (.ltI a0.Kind 0, .b false), (.ltI 23 a0.Kind, .b false), (.call 101 [] [.val false [.int .i64 a0.Kind]], .r (.val false [.int .i64 r5]) []), (.leI 0 r5, .b false), (.eqI a0.Kind 5, .b false), (.eqI a0.Kind 5, .b false), (.notB false, .b true), (.len (eL (e_sl e_u8) a0.K), .i ((a0.K.length : Nat) : Int)), (.ltI 0 ((a0.K.length : Nat) : Int), .b false), (.eqI a0.Kind 1, .b false), (.eqI a0.Kind 2, .b true), (.ltI a0.N 0, .b true)] rfl fd_78 (by kernel_rfl) ⟨rfl, (A.ltI_f c1), (A.ltI_f c2), (A.ltI_f c3), (A.ltI_f c4), (A.call (ok_spec_l6arity a0.Kind _ hr5)), (A.leI_f c6), (A.eqI_f c7), (A.eqI_f c7), rfl, A.len, (A.ltI_f c8), (A.eqI_f c9), (A.eqI_t c10), (A.ltI_t c11), trivial⟩
                    · rw [if_neg c11] at h
                      by_cases c12 : 1000000000000 < a0.N
                      · rw [if_pos c12] at h
                        obtain rfl := Option.some.inj h
                        exact call_way cfg [(.sub .i64 a2 1, .i (w64 (a2 - 1))), (.ltI (w64 (a2 - 1)) 0, .b false), (.ltI 10 a1, .b false), (.ltI a0.Kind 0, .b false), (.ltI 23 a0.Kind, .b false), (.call 101 [] [.val false [.int .i64 a0.Kind]], .r (.val false [.int .i64 r5]) []), (.leI 0 r5, .b false), (.eqI a0.Kind 5, .b false), (.eqI a0.Kind 5, .b false), (.notB false, .b true), (.len (eL (e_sl e_u8) a0.K), .i ((a0.K.length : Nat) : Int)), (.ltI 0 ((a0.K.length : Nat) : Int), .b false), (.eqI a0.Kind 1, .b false), (.eqI a0.Kind 2, .b true), (.ltI a0.N 0, .b false), (.ltI 1000000000000 a0.N, .b true)] rfl fd_78 (by kernel_rfl) ⟨rfl, (A.ltI_f c1), (A.ltI_f c2), (A.ltI_f c3), (A.ltI_f c4), (A.call (ok_spec_l6arity a0.Kind _ hr5)), (A.leI_f c6), (A.eqI_f c7), (A.eqI_f c7), rfl, A.len, (A.ltI_f c8), (A.eqI_f c9), (A.eqI_t c10), (A.ltI_f c11), (A.ltI_t c12), trivial⟩
                      · rw [if_neg c12] at h
                        by_cases c13 : 0 < ((a0.S.length : Nat) : Int)
                        · rw [if_pos c13] at h
                          obtain rfl := Option.some.inj h
                          exact call_way cfg [(.sub .i64 a2 1, .i (w64 (a2 - 1))), (.ltI (w64 (a2 - 1)) 0, .b false), (.ltI 10 a1, .b false), (.ltI a0.Kind 0, .b false), (.ltI 23 a0.Kind, .b false), (.call 101 [] [.val false [.int .i64 a0.Kind]], .r (.val false [.int .i64 r5]) []), (.leI 0 r5, .b false), (.eqI a0.Kind 5, .b false), (.eqI a0.Kind 5, .b false), (.notB false, .b true), (.len (eL (e_sl e_u8) a0.K), .i ((a0.K.length : Nat) : Int)), (.ltI 0 ((a0.K.length : Nat) : Int), .b false), (.eqI a0.Kind 1, .b false), (.eqI a0.Kind 2, .b true), (.ltI a0.N 0, .b false), (.ltI 1000000000000 a0.N, .b false), (.eqI a0.Kind 3, .b false), (.eqI a0.Kind 6, .b false), (.eqI a0.Kind 8, .b false), (.eqI a0.Kind 23, .b false), (.eqI a0.Kind 7, .b false), (.len (eL e_u8 a0.S), .i ((a0.S.length : Nat) : Int)), (.ltI 0 ((a0.S.length : Nat) : Int), .b true)] rfl fd_78 (by kernel_rfl) ⟨rfl, (A.ltI_f c1), (A.ltI_f c2), (A.ltI_f c3), (A.ltI_f c4), (A.call (ok_spec_l6arity a0.Kind _ hr5)), (A.leI_f c6), (A.eqI_f c7), (A.eqI_f c7), rfl, A.len, (A.ltI_f c8), (A.eqI_f c9), (A.eqI_t c10), (A.ltI_f c11), (A.ltI_f c12), (A.eqI_f (by omega)), (A.eqI_f (by omega)), (A.eqI_f (by omega)), (A.eqI_f (by omega)), (A.eqI_f (by omega)), A.len, (A.ltI_t c13), trivial⟩
                        · rw [if_neg c13] at h
                          obtain ⟨o14, ho14, h⟩ := Option.bind_eq_some_iff.1 h
                          rcases o14 with o14_0 | ⟨o14_1_0, o14_1_1⟩
                          · try dsimp only at h
                            obtain rfl := Option.some.inj h
                            exact call_way cfg [(.sub .i64 a2 1, .i (w64 (a2 - 1))), (.ltI (w64 (a2 - 1)) 0, .b false), (.ltI 10 a1, .b false), (.ltI a0.Kind 0, .b false), (.ltI 23 a0.Kind, .b false), (.call 101 [] [.val false [.int .i64 a0.Kind]], .r (.val false [.int .i64 r5]) []), (.leI 0 r5, .b false), (.eqI a0.Kind 5, .b false), (.eqI a0.Kind 5, .b false), (.notB false, .b true), (.len (eL (e_sl e_u8) a0.K), .i ((a0.K.length : Nat) : Int)), (.ltI 0 ((a0.K.length : Nat) : Int), .b false), (.eqI a0.Kind 1, .b false), (.eqI a0.Kind 2, .b true), (.ltI a0.N 0, .b false), (.ltI 1000000000000 a0.N, .b false), (.eqI a0.Kind 3, .b false), (.eqI a0.Kind 6, .b false), (.eqI a0.Kind 8, .b false), (.eqI a0.Kind 23, .b false), (.eqI a0.Kind 7, .b false), (.len (eL e_u8 a0.S), .i ((a0.S.length : Nat) : Int)), (.ltI 0 ((a0.S.length : Nat) : Int), .b false), (.loop 78 (loopB Try.f78 0) ⟨[(1, .val false [.int .i64 a1]), (2, .val false [.int .i64 (w64 (a2 - 1))]), (3, .val false [.ptr 0 0]), (8, .val false [.int .i64 0])], [.var [.int .i64 a0.Kind, .int .i64 a0.N, .seq (eL e_u8 a0.S), .seq (eL (e_sl e_u8) a0.K), .seq (eL e_GExpr a0.Kids)]], 0⟩, .x (.ret) ⟨[(6, .val false [.int .i64 o14_0])], [], 0⟩)] rfl fd_78 (by kernel_rfl) ⟨rfl, (A.ltI_f c1), (A.ltI_f c2), (A.ltI_f c3), (A.ltI_f c4), (A.call (ok_spec_l6arity a0.Kind _ hr5)), (A.leI_f c6), (A.eqI_f c7), (A.eqI_f c7), rfl, A.len, (A.ltI_f c8), (A.eqI_f c9), (A.eqI_t c10), (A.ltI_f c11), (A.ltI_f c12), (A.eqI_f (by omega)), (A.eqI_f (by omega)), (A.eqI_f (by omega)), (A.eqI_f (by omega)), (A.eqI_f (by omega)), A.len, (A.ltI_f c13), (A.loop (gl_spec_l6expr_l0 G_spec_l6expr H_spec_l6expr a1 a0 _ (w64 (a2 - 1)) 0 _ ho14)), trivial⟩
                          · try dsimp only at h
                            obtain rfl := Option.some.inj h
                            exact call_way cfg [(.sub .i64 a2 1, .i (w64 (a2 - 1))), (.ltI (w64 (a2 - 1)) 0, .b false), (.ltI 10 a1, .b false), (.ltI a0.Kind 0, .b false), (.ltI 23 a0.Kind, .b false), (.call 101 [] [.val false [.int .i64 a0.Kind]], .r (.val false [.int .i64 r5]) []), (.leI 0 r5, .b false), (.eqI a0.Kind 5, .b false), (.eqI a0.Kind 5, .b false), (.notB false, .b true), (.len (eL (e_sl e_u8) a0.K), .i ((a0.K.length : Nat) : Int)), (.ltI 0 ((a0.K.length : Nat) : Int), .b false), (.eqI a0.Kind 1, .b false), (.eqI a0.Kind 2, .b true), (.ltI a0.N 0, .b false), (.ltI 1000000000000 a0.N, .b false), (.eqI a0.Kind 3, .b false), (.eqI a0.Kind 6, .b false), (.eqI a0.Kind 8, .b false), (.eqI a0.Kind 23, .b false), (.eqI a0.Kind 7, .b false), (.len (eL e_u8 a0.S), .i ((a0.S.length : Nat) : Int)), (.ltI 0 ((a0.S.length : Nat) : Int), .b false), (.loop 78 (loopB Try.f78 0) ⟨[(1, .val false [.int .i64 a1]), (2, .val false [.int .i64 (w64 (a2 - 1))]), (3, .val false [.ptr 0 0]), (8, .val false [.int .i64 0])], [.var [.int .i64 a0.Kind, .int .i64 a0.N, .seq (eL e_u8 a0.S), .seq (eL (e_sl e_u8) a0.K), .seq (eL e_GExpr a0.Kids)]], 0⟩, .x (.exit 2) ⟨[(1, .val false [.int .i64 a1]), (2, .val false [.int .i64 o14_1_0]), (3, .val false [.ptr 0 0]), (8, .val false [.int .i64 o14_1_1]), (129, .val false [.bool false])], [.var [.int .i64 a0.Kind, .int .i64 a0.N, .seq (eL e_u8 a0.S), .seq (eL (e_sl e_u8) a0.K), .seq (eL e_GExpr a0.Kids)]], 0⟩)] rfl fd_78 (by kernel_rfl) ⟨rfl, (A.ltI_f c1), (A.ltI_f c2), (A.ltI_f c3), (A.ltI_f c4), (A.call (ok_spec_l6arity a0.Kind _ hr5)), (A.leI_f c6), (A.eqI_f c7), (A.eqI_f c7), rfl, A.len, (A.ltI_f c8), (A.eqI_f c9), (A.eqI_t c10), (A.ltI_f c11), (A.ltI_f c12), (A.eqI_f (by omega)), (A.eqI_f (by omega)), (A.eqI_f (by omega)), (A.eqI_f (by omega)), (A.eqI_f (by omega)), A.len, (A.ltI_f c13), (A.loop (gl_spec_l6expr_l0 G_spec_l6expr H_spec_l6expr a1 a0 _ (w64 (a2 - 1)) 0 _ ho14)), trivial⟩
                  · rw [if_neg c10] at h
                    by_cases c11 : a0.N = 0
                    · rw [if_pos c11] at h
                      by_cases c12 : a0.Kind = 3
                      · rw [if_pos c12] at h
                        obtain ⟨r13, hr13, h⟩ := Option.bind_eq_some_iff.1 h
                        cases r13 with
                        | true =>
                          try dsimp only at h
                          obtain ⟨o15, ho15, h⟩ := Option.bind_eq_some_iff.1 h
                          rcases o15 with o15_0 | ⟨o15_1_0, o15_1_1⟩
                          · try dsimp only at h
                            obtain rfl := Option.some.inj h
                            exact call_way cfg [(.sub .i64 a2 1, .i (w64 (a2 - 1))), (.ltI (w64 (a2 - 1)) 0, .b false), (.ltI 10 a1, .b false), (.ltI a0.Kind 0, .b false), (.ltI 23 a0.Kind, .b false), (.call 101 [] [.val false [.int .i64 a0.Kind]], .r (.val false [.int .i64 r5]) []), (.leI 0 r5, .b false), (.eqI a0.Kind 5, .b false), (.eqI a0.Kind 5, .b false), (.notB false, .b true), (.len (eL (e_sl e_u8) a0.K), .i ((a0.K.length : Nat) : Int)), (.ltI 0 ((a0.K.length : Nat) : Int), .b false), (.eqI a0.Kind 1, .b false), (.eqI a0.Kind 2, .b false), (.eqI a0.N 0, .b true), (.notB true, .b false), (.eqI a0.Kind 3, .b true), (.call 92 [] [.val false [.seq (eL e_u8 a0.S)]], .r (.val false [.bool true]) []), (.notB true, .b false), (.loop 78 (loopB Try.f78 0) ⟨[(1, .val false [.int .i64 a1]), (2, .val false [.int .i64 (w64 (a2 - 1))]), (3, .val false [.ptr 0 0]), (8, .val false [.int .i64 0])], [.var [.int .i64 a0.Kind, .int .i64 a0.N, .seq (eL e_u8 a0.S), .seq (eL (e_sl e_u8) a0.K), .seq (eL e_GExpr a0.Kids)]], 0⟩, .x (.ret) ⟨[(6, .val false [.int .i64 o15_0])], [], 0⟩)] rfl fd_78 (by kernel_rfl) ⟨rfl, (A.ltI_f c1), (A.ltI_f c2), (A.ltI_f c3), (A.ltI_f c4), (A.call (ok_spec_l6arity a0.Kind _ hr5)), (A.leI_f c6), (A.eqI_f c7), (A.eqI_f c7), rfl, A.len, (A.ltI_f c8), (A.eqI_f c9), (A.eqI_f c10), (A.eqI_t c11), rfl, (A.eqI_t c12), (A.call (ok_spec_l2text a0.S _ hr13)), rfl, (A.loop (gl_spec_l6expr_l0 G_spec_l6expr H_spec_l6expr a1 a0 _ (w64 (a2 - 1)) 0 _ ho15)), trivial⟩
                          · try dsimp only at h
                            obtain rfl := Option.some.inj h
                            exact call_way cfg [(.sub .i64 a2 1, .i (w64 (a2 - 1))), (.ltI (w64 (a2 - 1)) 0, .b false), (.ltI 10 a1, .b false), (.ltI a0.Kind 0, .b false), (.ltI 23 a0.Kind, .b false), (.call 101 [] [.val false [.int .i64 a0.Kind]], .r (.val false [.int .i64 r5]) []), (.leI 0 r5, .b false), (.eqI a0.Kind 5, .b false), (.eqI a0.Kind 5, .b false), (.notB false, .b true), (.len (eL (e_sl e_u8) a0.K), .i ((a0.K.length : Nat) : Int)), (.ltI 0 ((a0.K.length : Nat) : Int), .b false), (.eqI a0.Kind 1, .b false), (.eqI a0.Kind 2, .b false), (.eqI a0.N 0, .b true), (.notB true, .b false), (.eqI a0.Kind 3, .b true), (.call 92 [] [.val false [.seq (eL e_u8 a0.S)]], .r (.val false [.bool true]) []), (.notB true, .b false), (.loop 78 (loopB Try.f78 0) ⟨[(1, .val false [.int .i64 a1]), (2, .val false [.int .i64 (w64 (a2 - 1))]), (3, .val false [.ptr 0 0]), (8, .val false [.int .i64 0])], [.var [.int .i64 a0.Kind, .int .i64 a0.N, .seq (eL e_u8 a0.S), .seq (eL (e_sl e_u8) a0.K), .seq (eL e_GExpr a0.Kids)]], 0⟩, .x (.exit 2) ⟨[(1, .val false [.int .i64 a1]), (2, .val false [.int .i64 o15_1_0]), (3, .val false [.ptr 0 0]), (8, .val false [.int .i64 o15_1_1]), (129, .val false [.bool false])], [.var [.int .i64 a0.Kind, .int .i64 a0.N, .seq (eL e_u8 a0.S), .seq (eL (e_sl e_u8) a0.K), .seq (eL e_GExpr a0.Kids)]], 0⟩)] rfl fd_78 (by kernel_rfl) ⟨rfl, (A.ltI_f c1), (A.ltI_f c2), (A.ltI_f c3), (A.ltI_f c4), (A.call (ok_spec_l6arity a0.Kind _ hr5)), (A.leI_f c6), (A.eqI_f c7), (A.eqI_f c7), rfl, A.len, (A.ltI_f c8), (A.eqI_f c9), (A.eqI_f c10), (A.eqI_t c11), rfl, (A.eqI_t c12), (A.call (ok_spec_l2text a0.S _ hr13)), rfl, (A.loop (gl_spec_l6expr_l0 G_spec_l6expr H_spec_l6expr a1 a0 _ (w64 (a2 - 1)) 0 _ ho15)), trivial⟩
                        | false =>
                          try dsimp only at h
                          obtain rfl := Option.some.inj h
                          exact call_way cfg [(.sub .i64 a2 1, .i (w64 (a2 - 1))), (.ltI (w64 (a2 - 1)) 0, .b false), (.ltI 10 a1, .b false), (.ltI a0.Kind 0, .b false), (.ltI 23 a0.Kind, .b false), (.call 101 [] [.val false [.int .i64 a0.Kind]], .r (.val false [.int .i64 r5]) []), (.leI 0 r5, .b false), (.eqI a0.Kind 5, .b false), (.eqI a0.Kind 5, .b false), (.notB false, .b true), (.len (eL (e_sl e_u8) a0.K), .i ((a0.K.length : Nat) : Int)), (.ltI 0 ((a0.K.length : Nat) : Int), .b false), (.eqI a0.Kind 1, .b false), (.eqI a0.Kind 2, .b false), (.eqI a0.N 0, .b true), (.notB true, .b false), (.eqI a0.Kind 3, .b true), (.call 92 [] [.val false [.seq (eL e_u8 a0.S)]], .r (.val false [.bool false]) []), (.notB false, .b true)] rfl fd_78 (by kernel_rfl) ⟨rfl, (A.ltI_f c1), (A.ltI_f c2), (A.ltI_f c3), (A.ltI_f c4), (A.call (ok_spec_l6arity a0.Kind _ hr5)), (A.leI_f c6), (A.eqI_f c7), (A.eqI_f c7), rfl, A.len, (A.ltI_f c8), (A.eqI_f c9), (A.eqI_f c10), (A.eqI_t c11), rfl, (A.eqI_t c12), (A.call (ok_spec_l2text a0.S _ hr13)), rfl, trivial⟩
                      · rw [if_neg c12] at h
                        by_cases c13 : a0.Kind = 6
                        · rw [if_pos c13] at h
                          obtain ⟨r14, hr14, h⟩ := Option.bind_eq_some_iff.1 h
                          cases r14 with
                          | true =>
                            try dsimp only at h
                            obtain ⟨o16, ho16, h⟩ := Option.bind_eq_some_iff.1 h
                            rcases o16 with o16_0 | ⟨o16_1_0, o16_1_1⟩
                            · try dsimp only at h
                              obtain rfl := Option.some.inj h
                              exact call_way cfg [(.sub .i64 a2 1, .i (w64 (a2 - 1))), (.ltI (w64 (a2 - 1)) 0, .b false), (.ltI 10 a1, .b false), (.ltI a0.Kind 0, .b false), (.ltI 23 a0.Kind, .b false), (.call 101 [] [.val false [.int .i64 a0.Kind]], .r (.val false [.int .i64 r5]) []), (.leI 0 r5, .b false), (.eqI a0.Kind 5, .b false), (.eqI a0.Kind 5, .b false), (.notB false, .b true), (.len (eL (e_sl e_u8) a0.K), .i ((a0.K.length : Nat) : Int)), (.ltI 0 ((a0.K.length : Nat) : Int), .b false), (.eqI a0.Kind 1, .b false), (.eqI a0.Kind 2, .b false), (.eqI a0.N 0, .b true), (.notB true, .b false), (.eqI a0.Kind 3, .b false), (.eqI a0.Kind 6, .b true), (.call 93 [] [.val false [.seq (eL e_u8 a0.S)]], .r (.val false [.bool true]) []), (.notB true, .b false), (.eqI a0.Kind 23, .b false), (.loop 78 (loopB Try.f78 0) ⟨[(1, .val false [.int .i64 a1]), (2, .val false [.int .i64 (w64 (a2 - 1))]), (3, .val false [.ptr 0 0]), (8, .val false [.int .i64 0])], [.var [.int .i64 a0.Kind, .int .i64 a0.N, .seq (eL e_u8 a0.S), .seq (eL (e_sl e_u8) a0.K), .seq (eL e_GExpr a0.Kids)]], 0⟩, .x (.ret) ⟨[(6, .val false [.int .i64 o16_0])], [], 0⟩)] rfl fd_78 (by kernel_rfl) ⟨rfl, (A.ltI_f c1), (A.ltI_f c2), (A.ltI_f c3), (A.ltI_f c4), (A.call (ok_spec_l6arity a0.Kind _ hr5)), (A.leI_f c6), (A.eqI_f c7), (A.eqI_f c7), rfl, A.len, (A.ltI_f c8), (A.eqI_f c9), (A.eqI_f c10), (A.eqI_t c11), rfl, (A.eqI_f c12), (A.eqI_t c13), (A.call (ok_spec_NameOk a0.S _ hr14)), rfl, (A.eqI_f (by omega)), (A.loop (gl_spec_l6expr_l0 G_spec_l6expr H_spec_l6expr a1 a0 _ (w64 (a2 - 1)) 0 _ ho16)), trivial⟩
                            · try dsimp only at h
                              obtain rfl := Option.some.inj h
                              exact call_way cfg [(.sub .i64 a2 1, .i (w64 (a2 - 1))), (.ltI (w64 (a2 - 1)) 0, .b false), (.ltI 10 a1, .b false), (.ltI a0.Kind 0, .b false), (.ltI 23 a0.Kind, .b false), (.call 101 [] [.val false [.int .i64 a0.Kind]], .r (.val false [.int .i64 r5]) []), (.leI 0 r5, .b false), (.eqI a0.Kind 5, .b false), (.eqI a0.Kind 5, .b false), (.notB false, .b true), (.len (eL (e_sl e_u8) a0.K), .i ((a0.K.length : Nat) : Int)), (.ltI 0 ((a0.K.length : Nat) : Int), .b false), (.eqI a0.Kind 1, .b false), (.eqI a0.Kind 2, .b false), (.eqI a0.N 0, .b true), (.notB true, .b false), (.eqI a0.Kind 3, .b false), (.eqI a0.Kind 6, .b true), (.call 93 [] [.val false [.seq (eL e_u8 a0.S)]], .r (.val false [.bool true]) []), (.notB true, .b false), (.eqI a0.Kind 23, .b false), (.loop 78 (loopB Try.f78 0) ⟨[(1, .val false [.int .i64 a1]), (2, .val false [.int .i64 (w64 (a2 - 1))]), (3, .val false [.ptr 0 0]), (8, .val false [.int .i64 0])], [.var [.int .i64 a0.Kind, .int .i64 a0.N, .seq (eL e_u8 a0.S), .seq (eL (e_sl e_u8) a0.K), .seq (eL e_GExpr a0.Kids)]], 0⟩, .x (.exit 2) ⟨[(1, .val false [.int .i64 a1]), (2, .val false [.int .i64 o16_1_0]), (3, .val false [.ptr 0 0]), (8, .val false [.int .i64 o16_1_1]), (129, .val false [.bool false])], [.var [.int .i64 a0.Kind, .int .i64 a0.N, .seq (eL e_u8 a0.S), .seq (eL (e_sl e_u8) a0.K), .seq (eL e_GExpr a0.Kids)]], 0⟩)] rfl fd_78 (by kernel_rfl) ⟨rfl, (A.ltI_f c1), (A.ltI_f c2), (A.ltI_f c3), (A.ltI_f c4), (A.call (ok_spec_l6arity a0.Kind _ hr5)), (A.leI_f c6), (A.eqI_f c7), (A.eqI_f c7), rfl, A.len, (A.ltI_f c8), (A.eqI_f c9), (A.eqI_f c10), (A.eqI_t c11), rfl, (A.eqI_f c12), (A.eqI_t c13), (A.call (ok_spec_NameOk a0.S _ hr14)), rfl, (A.eqI_f (by omega)), (A.loop (gl_spec_l6expr_l0 G_spec_l6expr H_spec_l6expr a1 a0 _ (w64 (a2 - 1)) 0 _ ho16)), trivial⟩
                          | false =>
                            try dsimp only at h
                            obtain rfl := Option.some.inj h
                            exact call_way cfg [(.sub .i64 a2 1, .i (w64 (a2 - 1))), (.ltI (w64 (a2 - 1)) 0, .b false), (.ltI 10 a1, .b false), (.ltI a0.Kind 0, .b false), (.ltI 23 a0.Kind, .b false), (.call 101 [] [.val false [.int .i64 a0.Kind]], .r (.val false [.int .i64 r5]) []), (.leI 0 r5, .b false), (.eqI a0.Kind 5, .b false), (.eqI a0.Kind 5, .b false), (.notB false, .b true), (.len (eL (e_sl e_u8) a0.K), .i ((a0.K.length : Nat) : Int)), (.ltI 0 ((a0.K.length : Nat) : Int), .b false), (.eqI a0.Kind 1, .b false), (.eqI a0.Kind 2, .b false), (.eqI a0.N 0, .b true), (.notB true, .b false), (.eqI a0.Kind 3, .b false), (.eqI a0.Kind 6, .b true), (.call 93 [] [.val false [.seq (eL e_u8 a0.S)]], .r (.val false [.bool false]) []), (.notB false, .b true)] rfl fd_78 (by kernel_rfl) ⟨rfl, (A.ltI_f c1), (A.ltI_f c2), (A.ltI_f c3), (A.ltI_f c4), (A.call (ok_spec_l6arity a0.Kind _ hr5)), (A.leI_f c6), (A.eqI_f c7), (A.eqI_f c7), rfl, A.len, (A.ltI_f c8), (A.eqI_f c9), (A.eqI_f c10), (A.eqI_t c11), rfl, (A.eqI_f c12), (A.eqI_t c13), (A.call (ok_spec_NameOk a0.S _ hr14)), rfl, trivial⟩
                        · rw [if_neg c13] at h
                          by_cases c14 : a0.Kind = 8
                          · rw [if_pos c14] at h
                            obtain ⟨r15, hr15, h⟩ := Option.bind_eq_some_iff.1 h
                            cases r15 with
                            | true =>
                              try dsimp only at h
                              obtain ⟨o17, ho17, h⟩ := Option.bind_eq_some_iff.1 h
                              rcases o17 with o17_0 | ⟨o17_1_0, o17_1_1⟩
                              · try dsimp only at h
                                obtain rfl := Option.some.inj h
                                exact call_way cfg [(.sub .i64 a2 1, .i (w64 (a2 - 1))), (.ltI (w64 (a2 - 1)) 0, .b false), (.ltI 10 a1, .b false), (.ltI a0.Kind 0, .b false), (.ltI 23 a0.Kind, .b false), (.call 101 [] [.val false [.int .i64 a0.Kind]], .r (.val false [.int .i64 r5]) []), (.leI 0 r5, .b false), (.eqI a0.Kind 5, .b false), (.eqI a0.Kind 5, .b false), (.notB false, .b true), (.len (eL (e_sl e_u8) a0.K), .i ((a0.K.length : Nat) : Int)), (.ltI 0 ((a0.K.length : Nat) : Int), .b false), (.eqI a0.Kind 1, .b false), (.eqI a0.Kind 2, .b false), (.eqI a0.N 0, .b true), (.notB true, .b false), (.eqI a0.Kind 3, .b false), (.eqI a0.Kind 6, .b false), (.eqI a0.Kind 8, .b true), (.call 93 [] [.val false [.seq (eL e_u8 a0.S)]], .r (.val false [.bool true]) []), (.notB true, .b false), (.eqI a0.Kind 23, .b false), (.loop 78 (loopB Try.f78 0) ⟨[(1, .val false [.int .i64 a1]), (2, .val false [.int .i64 (w64 (a2 - 1))]), (3, .val false [.ptr 0 0]), (8, .val false [.int .i64 0])], [.var [.int .i64 a0.Kind, .int .i64 a0.N, .seq (eL e_u8 a0.S), .seq (eL (e_sl e_u8) a0.K), .seq (eL e_GExpr a0.Kids)]], 0⟩, .x (.ret) ⟨[(6, .val false [.int .i64 o17_0])], [], 0⟩)] rfl fd_78 (by kernel_rfl) ⟨rfl, (A.ltI_f c1), (A.ltI_f c2), (A.ltI_f c3), (A.ltI_f c4), (A.call (ok_spec_l6arity a0.Kind _ hr5)), (A.leI_f c6), (A.eqI_f c7), (A.eqI_f c7), rfl, A.len, (A.ltI_f c8), (A.eqI_f c9), (A.eqI_f c10), (A.eqI_t c11), rfl, (A.eqI_f c12), (A.eqI_f c13), (A.eqI_t c14), (A.call (ok_spec_NameOk a0.S _ hr15)), rfl, (A.eqI_f (by omega)), (A.loop (gl_spec_l6expr_l0 G_spec_l6expr H_spec_l6expr a1 a0 _ (w64 (a2 - 1)) 0 _ ho17)), trivial⟩
                              · try dsimp only at h
                                obtain rfl := Option.some.inj h
                                exact call_way cfg [(.sub .i64 a2 1, .i (w64 (a2 - 1))), (.ltI (w64 (a2 - 1)) 0, .b false), (.ltI 10 a1, .b false), (.ltI a0.Kind 0, .b false), (.ltI 23 a0.Kind, .b false), (.call 101 [] [.val false [.int .i64 a0.Kind]], .r (.val false [.int .i64 r5]) []), (.leI 0 r5, .b false), (.eqI a0.Kind 5, .b false), (.eqI a0.Kind 5, .b false), (.notB false, .b true), (.len (eL (e_sl e_u8) a0.K), .i ((a0.K.length : Nat) : Int)), (.ltI 0 ((a0.K.length : Nat) : Int), .b false), (.eqI a0.Kind 1, .b false), (.eqI a0.Kind 2, .b false), (.eqI a0.N 0, .b true), (.notB true, .b false), (.eqI a0.Kind 3, .b false), (.eqI a0.Kind 6, .b false), (.eqI a0.Kind 8, .b true), (.call 93 [] [.val false [.seq (eL e_u8 a0.S)]], .r (.val false [.bool true]) []), (.notB true, .b false), (.eqI a0.Kind 23, .b false), (.loop 78 (loopB Try.f78 0) ⟨[(1, .val false [.int .i64 a1]), (2, .val false [.int .i64 (w64 (a2 - 1))]), (3, .val false [.ptr 0 0]), (8, .val false [.int .i64 0])], [.var [.int .i64 a0.Kind, .int .i64 a0.N, .seq (eL e_u8 a0.S), .seq (eL (e_sl e_u8) a0.K), .seq (eL e_GExpr a0.Kids)]], 0⟩, .x (.exit 2) ⟨[(1, .val false [.int .i64 a1]), (2, .val false [.int .i64 o17_1_0]), (3, .val false [.ptr 0 0]), (8, .val false [.int .i64 o17_1_1]), (129, .val false [.bool false])], [.var [.int .i64 a0.Kind, .int .i64 a0.N, .seq (eL e_u8 a0.S), .seq (eL (e_sl e_u8) a0.K), .seq (eL e_GExpr a0.Kids)]], 0⟩)] rfl fd_78 (by kernel_rfl) ⟨rfl, (A.ltI_f c1), (A.ltI_f c2), (A.ltI_f c3), (A.ltI_f c4), (A.call (ok_spec_l6arity a0.Kind _ hr5)), (A.leI_f c6), (A.eqI_f c7), (A.eqI_f c7), rfl, A.len, (A.ltI_f c8), (A.eqI_f c9), (A.eqI_f c10), (A.eqI_t c11), rfl, (A.eqI_f c12), (A.eqI_f c13), (A.eqI_t c14), (A.call (ok_spec_NameOk a0.S _ hr15)), rfl, (A.eqI_f (by omega)), (A.loop (gl_spec_l6expr_l0 G_spec_l6expr H_spec_l6expr a1 a0 _ (w64 (a2 - 1)) 0 _ ho17)), trivial⟩
                            | false =>
                              try dsimp only at h
                              obtain rfl := Option.some.inj h
                              exact call_way cfg [(.sub .i64 a2 1, .i (w64 (a2 - 1))), (.ltI (w64 (a2 - 1)) 0, .b false), (.ltI 10 a1, .b false), (.ltI a0.Kind 0, .b false), (.ltI 23 a0.Kind, .b false), (.call 101 [] [.val false [.int .i64 a0.Kind]], .r (.val false [.int .i64 r5]) []), (.leI 0 r5, .b false), (.eqI a0.Kind 5, .b false), (.eqI a0.Kind 5, .b false), (.notB false, .b true), (.len (eL (e_sl e_u8) a0.K), .i ((a0.K.length : Nat) : Int)), (.ltI 0 ((a0.K.length : Nat) : Int), .b false), (.eqI a0.Kind 1, .b false), (.eqI a0.Kind 2, .b false), (.eqI a0.N 0, .b true), (.notB true, .b false), (.eqI a0.Kind 3, .b false), (.eqI a0.Kind 6, .b false), (.eqI a0.Kind 8, .b true), (.call 93 [] [.val false [.seq (eL e_u8 a0.S)]], .r (.val false [.bool false]) []), (.notB false, .b true)] rfl fd_78 (by kernel_rfl) ⟨rfl, (A.ltI_f c1), (A.ltI_f c2), (A.ltI_f c3), (A.ltI_f c4), (A.call (ok_spec_l6arity a0.Kind _ hr5)), (A.leI_f c6), (A.eqI_f c7), (A.eqI_f c7), rfl, A.len, (A.ltI_f c8), (A.eqI_f c9), (A.eqI_f c10), (A.eqI_t c11), rfl, (A.eqI_f c12), (A.eqI_f c13), (A.eqI_t c14), (A.call (ok_spec_NameOk a0.S _ hr15)), rfl, trivial⟩
                          · rw [if_neg c14] at h
                            by_cases c15 : a0.Kind = 23
                            · rw [if_pos c15] at h
                              obtain ⟨r16, hr16, h⟩ := Option.bind_eq_some_iff.1 h
                              cases r16 with
                              | true =>
                                try dsimp only at h
                                obtain ⟨r18, hr18, h⟩ := Option.bind_eq_some_iff.1 h
                                cases r18 with
                                | true =>
                                  try dsimp only at h
                                  obtain rfl := Option.some.inj h
                                  exact call_way cfg [(.sub .i64 a2 1, .i (w64 (a2 - 1))), (.ltI (w64 (a2 - 1)) 0, .b false), (.ltI 10 a1, .b false), (.ltI a0.Kind 0, .b false), (.ltI 23 a0.Kind, .b false), (.call 101 [] [.val false [.int .i64 a0.Kind]], .r (.val false [.int .i64 r5]) []), (.leI 0 r5, .b false), (.eqI a0.Kind 5, .b false), (.eqI a0.Kind 5, .b false), (.notB false, .b true), (.len (eL (e_sl e_u8) a0.K), .i ((a0.K.length : Nat) : Int)), (.ltI 0 ((a0.K.length : Nat) : Int), .b false), (.eqI a0.Kind 1, .b false), (.eqI a0.Kind 2, .b false), (.eqI a0.N 0, .b true), (.notB true, .b false), (.eqI a0.Kind 3, .b false), (.eqI a0.Kind 6, .b false), (.eqI a0.Kind 8, .b false), (.eqI a0.Kind 23, .b true), (.call 93 [] [.val false [.seq (eL e_u8 a0.S)]], .r (.val false [.bool true]) []), (.notB true, .b false), (.eqI a0.Kind 23, .b true), (.call 102 [] [.val false [.seq (eL e_u8 a0.S)]], .r (.val false [.bool true]) [])] rfl fd_78 (by kernel_rfl) ⟨rfl, (A.ltI_f c1), (A.ltI_f c2), (A.ltI_f c3), (A.ltI_f c4), (A.call (ok_spec_l6arity a0.Kind _ hr5)), (A.leI_f c6), (A.eqI_f c7), (A.eqI_f c7), rfl, A.len, (A.ltI_f c8), (A.eqI_f c9), (A.eqI_f c10), (A.eqI_t c11), rfl, (A.eqI_f c12), (A.eqI_f c13), (A.eqI_f c14), (A.eqI_t c15), (A.call (ok_spec_NameOk a0.S _ hr16)), rfl, (A.eqI_t c15), (A.call (ok_spec_l6kept a0.S _ hr18)), trivial⟩
                                | false =>
                                  try dsimp only at h
                                  obtain ⟨o20, ho20, h⟩ := Option.bind_eq_some_iff.1 h
                                  rcases o20 with o20_0 | ⟨o20_1_0, o20_1_1⟩
                                  · try dsimp only at h
                                    obtain rfl := Option.some.inj h
                                    exact call_way cfg [(.sub .i64 a2 1, .i (w64 (a2 - 1))), (.ltI (w64 (a2 - 1)) 0, .b false), (.ltI 10 a1, .b false), (.ltI a0.Kind 0, .b false), (.ltI 23 a0.Kind, .b false), (.call 101 [] [.val false [.int .i64 a0.Kind]], .r (.val false [.int .i64 r5]) []), (.leI 0 r5, .b false), (.eqI a0.Kind 5, .b false), (.eqI a0.Kind 5, .b false), (.notB false, .b true), (.len (eL (e_sl e_u8) a0.K), .i ((a0.K.length : Nat) : Int)), (.ltI 0 ((a0.K.length : Nat) : Int), .b false), (.eqI a0.Kind 1, .b false), (.eqI a0.Kind 2, .b false), (.eqI a0.N 0, .b true), (.notB true, .b false), (.eqI a0.Kind 3, .b false), (.eqI a0.Kind 6, .b false), (.eqI a0.Kind 8, .b false), (.eqI a0.Kind 23, .b true), (.call 93 [] [.val false [.seq (eL e_u8 a0.S)]], .r (.val false [.bool true]) []), (.notB true, .b false), (.eqI a0.Kind 23, .b true), (.call 102 [] [.val false [.seq (eL e_u8 a0.S)]], .r (.val false [.bool false]) []), (.loop 78 (loopB Try.f78 0) ⟨[(1, .val false [.int .i64 a1]), (2, .val false [.int .i64 (w64 (a2 - 1))]), (3, .val false [.ptr 0 0]), (8, .val false [.int .i64 0])], [.var [.int .i64 a0.Kind, .int .i64 a0.N, .seq (eL e_u8 a0.S), .seq (eL (e_sl e_u8) a0.K), .seq (eL e_GExpr a0.Kids)]], 0⟩, .x (.ret) ⟨[(6, .val false [.int .i64 o20_0])], [], 0⟩)] rfl fd_78 (by kernel_rfl) ⟨rfl, (A.ltI_f c1), (A.ltI_f c2), (A.ltI_f c3), (A.ltI_f c4), (A.call (ok_spec_l6arity a0.Kind _ hr5)), (A.leI_f c6), (A.eqI_f c7), (A.eqI_f c7), rfl, A.len, (A.ltI_f c8), (A.eqI_f c9), (A.eqI_f c10), (A.eqI_t c11), rfl, (A.eqI_f c12), (A.eqI_f c13), (A.eqI_f c14), (A.eqI_t c15), (A.call (ok_spec_NameOk a0.S _ hr16)), rfl, (A.eqI_t c15), (A.call (ok_spec_l6kept a0.S _ hr18)), (A.loop (gl_spec_l6expr_l0 G_spec_l6expr H_spec_l6expr a1 a0 _ (w64 (a2 - 1)) 0 _ ho20)), trivial⟩
                                  · try dsimp only at h
                                    obtain rfl := Option.some.inj h
                                    exact call_way cfg [(.sub .i64 a2 1, .i (w64 (a2 - 1))), (.ltI (w64 (a2 - 1)) 0, .b false), (.ltI 10 a1, .b false), (.ltI a0.Kind 0, .b false), (.ltI 23 a0.Kind, .b false), (.call 101 [] [.val false [.int .i64 a0.Kind]], .r (.val false [.int .i64 r5]) []), (.leI 0 r5, .b false), (.eqI a0.Kind 5, .b false), (.eqI a0.Kind 5, .b false), (.notB false, .b true), (.len (eL (e_sl e_u8) a0.K), .i ((a0.K.length : Nat) : Int)), (.ltI 0 ((a0.K.length : Nat) : Int), .b false), (.eqI a0.Kind 1, .b false), (.eqI a0.Kind 2, .b false), (.eqI a0.N 0, .b true), (.notB true, .b false), (.eqI a0.Kind 3, .b false), (.eqI a0.Kind 6, .b false), (.eqI a0.Kind 8, .b false), (.eqI a0.Kind 23, .b true), (.call 93 [] [.val false [.seq (eL e_u8 a0.S)]], .r (.val false [.bool true]) []), (.notB true, .b false), (.eqI a0.Kind 23, .b true), (.call 102 [] [.val false [.seq (eL e_u8 a0.S)]], .r (.val false [.bool false]) []), (.loop 78 (loopB Try.f78 0) ⟨[(1, .val false [.int .i64 a1]), (2, .val false [.int .i64 (w64 (a2 - 1))]), (3, .val false [.ptr 0 0]), (8, .val false [.int .i64 0])], [.var [.int .i64 a0.Kind, .int .i64 a0.N, .seq (eL e_u8 a0.S), .seq (eL (e_sl e_u8) a0.K), .seq (eL e_GExpr a0.Kids)]], 0⟩, .x (.exit 2) ⟨[(1, .val false [.int .i64 a1]), (2, .val false [.int .i64 o20_1_0]), (3, .val false [.ptr 0 0]), (8, .val false [.int .i64 o20_1_1]), (129, .val false [.bool false])], [.var [.int .i64 a0.Kind, .int .i64 a0.N, .seq (eL e_u8 a0.S), .seq (eL (e_sl e_u8) a0.K), .seq (eL e_GExpr a0.Kids)]], 0⟩)] rfl fd_78 (by kernel_rfl) ⟨rfl, (A.ltI_f c1), (A.ltI_f c2), (A.ltI_f c3), (A.ltI_f c4), (A.call (ok_spec_l6arity a0.Kind _ hr5)), (A.leI_f c6), (A.eqI_f c7), (A.eqI_f c7), rfl, A.len, (A.ltI_f c8), (A.eqI_f c9), (A.eqI_f c10), (A.eqI_t c11), rfl, (A.eqI_f c12), (A.eqI_f c13), (A.eqI_f c14), (A.eqI_t c15), (A.call (ok_spec_NameOk a0.S _ hr16)), rfl, (A.eqI_t c15), (A.call (ok_spec_l6kept a0.S _ hr18)), (A.loop (gl_spec_l6expr_l0 G_spec_l6expr H_spec_l6expr a1 a0 _ (w64 (a2 - 1)) 0 _ ho20)), trivial⟩
                              | false =>
                                try dsimp only at h
                                obtain rfl := Option.some.inj h
                                exact call_way cfg [(.sub .i64 a2 1, .i (w64 (a2 - 1))), (.ltI (w64 (a2 - 1)) 0, .b false), (.ltI 10 a1, .b false), (.ltI a0.Kind 0, .b false), (.ltI 23 a0.Kind, .b false), (.call 101 [] [.val false [.int .i64 a0.Kind]], .r (.val false [.int .i64 r5]) []), (.leI 0 r5, .b false), (.eqI a0.Kind 5, .b false), (.eqI a0.Kind 5, .b false), (.notB false, .b true), (.len (eL (e_sl e_u8) a0.K), .i ((a0.K.length : Nat) : Int)), (.ltI 0 ((a0.K.length : Nat) : Int), .b false), (.eqI a0.Kind 1, .b false), (.eqI a0.Kind 2, .b false), (.eqI a0.N 0, .b true), (.notB true, .b false), (.eqI a0.Kind 3, .b false), (.eqI a0.Kind 6, .b false), (.eqI a0.Kind 8, .b false), (.eqI a0.Kind 23, .b true), (.call 93 [] [.val false [.seq (eL e_u8 a0.S)]], .r (.val false [.bool false]) []), (.notB false, .b true)] rfl fd_78 (by kernel_rfl) ⟨rfl, (A.ltI_f c1), (A.ltI_f c2), (A.ltI_f c3), (A.ltI_f c4), (A.call (ok_spec_l6arity a0.Kind _ hr5)), (A.leI_f c6), (A.eqI_f c7), (A.eqI_f c7), rfl, A.len, (A.ltI_f c8), (A.eqI_f c9), (A.eqI_f c10), (A.eqI_t c11), rfl, (A.eqI_f c12), (A.eqI_f c13), (A.eqI_f c14), (A.eqI_t c15), (A.call (ok_spec_NameOk a0.S _ hr16)), rfl, trivial⟩
                            · rw [if_neg c15] at h
                              by_cases c16 : a0.Kind = 7
                              · rw [if_pos c16] at h
                                obtain ⟨r17, hr17, h⟩ := Option.bind_eq_some_iff.1 h
                                cases r17 with
                                | true =>
                                  try dsimp only at h
                                  obtain ⟨o19, ho19, h⟩ := Option.bind_eq_some_iff.1 h
                                  rcases o19 with o19_0 | ⟨o19_1_0, o19_1_1⟩
                                  · try dsimp only at h
                                    obtain rfl := Option.some.inj h
                                    exact call_way cfg [(.sub .i64 a2 1, .i (w64 (a2 - 1))), (.ltI (w64 (a2 - 1)) 0, .b false), (.ltI 10 a1, .b false), (.ltI a0.Kind 0, .b false), (.ltI 23 a0.Kind, .b false), (.call 101 [] [.val false [.int .i64 a0.Kind]], .r (.val false [.int .i64 r5]) []), (.leI 0 r5, .b false), (.eqI a0.Kind 5, .b false), (.eqI a0.Kind 5, .b false), (.notB false, .b true), (.len (eL (e_sl e_u8) a0.K), .i ((a0.K.length : Nat) : Int)), (.ltI 0 ((a0.K.length : Nat) : Int), .b false), (.eqI a0.Kind 1, .b false), (.eqI a0.Kind 2, .b false), (.eqI a0.N 0, .b true), (.notB true, .b false), (.eqI a0.Kind 3, .b false), (.eqI a0.Kind 6, .b false), (.eqI a0.Kind 8, .b false), (.eqI a0.Kind 23, .b false), (.eqI a0.Kind 7, .b true), (.call 103 [] [.val false [.seq (eL e_u8 a0.S)]], .r (.val false [.bool true]) []), (.notB true, .b false), (.loop 78 (loopB Try.f78 0) ⟨[(1, .val false [.int .i64 a1]), (2, .val false [.int .i64 (w64 (a2 - 1))]), (3, .val false [.ptr 0 0]), (8, .val false [.int .i64 0])], [.var [.int .i64 a0.Kind, .int .i64 a0.N, .seq (eL e_u8 a0.S), .seq (eL (e_sl e_u8) a0.K), .seq (eL e_GExpr a0.Kids)]], 0⟩, .x (.ret) ⟨[(6, .val false [.int .i64 o19_0])], [], 0⟩)] rfl fd_78 (by kernel_rfl) ⟨rfl, (A.ltI_f c1), (A.ltI_f c2), (A.ltI_f c3), (A.ltI_f c4), (A.call (ok_spec_l6arity a0.Kind _ hr5)), (A.leI_f c6), (A.eqI_f c7), (A.eqI_f c7), rfl, A.len, (A.ltI_f c8), (A.eqI_f c9), (A.eqI_f c10), (A.eqI_t c11), rfl, (A.eqI_f c12), (A.eqI_f c13), (A.eqI_f c14), (A.eqI_f c15), (A.eqI_t c16), (A.call (ok_spec_l6free a0.S _ hr17)), rfl, (A.loop (gl_spec_l6expr_l0 G_spec_l6expr H_spec_l6expr a1 a0 _ (w64 (a2 - 1)) 0 _ ho19)), trivial⟩
                                  · try dsimp only at h
                                    obtain rfl := Option.some.inj h
                                    exact call_way cfg [(.sub .i64 a2 1, .i (w64 (a2 - 1))), (.ltI (w64 (a2 - 1)) 0, .b false), (.ltI 10 a1, .b false), (.ltI a0.Kind 0, .b false), (.ltI 23 a0.Kind, .b false), (.call 101 [] [.val false [.int .i64 a0.Kind]], .r (.val false [.int .i64 r5]) []), (.leI 0 r5, .b false), (.eqI a0.Kind 5, .b false), (.eqI a0.Kind 5, .b false), (.notB false, .b true), (.len (eL (e_sl e_u8) a0.K), .i ((a0.K.length : Nat) : Int)), (.ltI 0 ((a0.K.length : Nat) : Int), .b false), (.eqI a0.Kind 1, .b false), (.eqI a0.Kind 2, .b false), (.eqI a0.N 0, .b true), (.notB true, .b false), (.eqI a0.Kind 3, .b false), (.eqI a0.Kind 6, .b false), (.eqI a0.Kind 8, .b false), (.eqI a0.Kind 23, .b false), (.eqI a0.Kind 7, .b true), (.call 103 [] [.val false [.seq (eL e_u8 a0.S)]], .r (.val false [.bool true]) []), (.notB true, .b false), (.loop 78 (loopB Try.f78 0) ⟨[(1, .val false [.int .i64 a1]), (2, .val false [.int .i64 (w64 (a2 - 1))]), (3, .val false [.ptr 0 0]), (8, .val false [.int .i64 0])], [.var [.int .i64 a0.Kind, .int .i64 a0.N, .seq (eL e_u8 a0.S), .seq (eL (e_sl e_u8) a0.K), .seq (eL e_GExpr a0.Kids)]], 0⟩, .x (.exit 2) ⟨[(1, .val false [.int .i64 a1]), (2, .val false [.int .i64 o19_1_0]), (3, .val false [.ptr 0 0]), (8, .val false [.int .i64 o19_1_1]), (129, .val false [.bool false])], [.var [.int .i64 a0.Kind, .int .i64 a0.N, .seq (eL e_u8 a0.S), .seq (eL (e_sl e_u8) a0.K), .seq (eL e_GExpr a0.Kids)]], 0⟩)] rfl fd_78 (by kernel_rfl) ⟨rfl, (A.ltI_f c1), (A.ltI_f c2), (A.ltI_f c3), (A.ltI_f c4), (A.call (ok_spec_l6arity a0.Kind _ hr5)), (A.leI_f c6), (A.eqI_f c7), (A.eqI_f c7), rfl, A.len, (A.ltI_f c8), (A.eqI_f c9), (A.eqI_f c10), (A.eqI_t c11), rfl, (A.eqI_f c12), (A.eqI_f c13), (A.eqI_f c14), (A.eqI_f c15), (A.eqI_t c16), (A.call (ok_spec_l6free a0.S _ hr17)), rfl, (A.loop (gl_spec_l6expr_l0 G_spec_l6expr H_spec_l6expr a1 a0 _ (w64 (a2 - 1)) 0 _ ho19)), trivial⟩
                                | false =>
                                  try dsimp only at h
                                  obtain rfl := Option.some.inj h
                                  exact call_way cfg [(.sub .i64 a2 1, .i (w64 (a2 - 1))), (.ltI (w64 (a2 - 1)) 0, .b false), (.ltI 10 a1, .b false), (.ltI a0.Kind 0, .b false), (.ltI 23 a0.Kind, .b false), (.call 101 [] [.val false [.int .i64 a0.Kind]], .r (.val false [.int .i64 r5]) []), (.leI 0 r5, .b false), (.eqI a0.Kind 5, .b false), (.eqI a0.Kind 5, .b false), (.notB false, .b true), (.len (eL (e_sl e_u8) a0.K), .i ((a0.K.length : Nat) : Int)), (.ltI 0 ((a0.K.length : Nat) : Int), .b false), (.eqI a0.Kind 1, .b false), (.eqI a0.Kind 2, .b false), (.eqI a0.N 0, .b true), (.notB true, .b false), (.eqI a0.Kind 3, .b false), (.eqI a0.Kind 6, .b false), (.eqI a0.Kind 8, .b false), (.eqI a0.Kind 23, .b false), (.eqI a0.Kind 7, .b true), (.call 103 [] [.val false [.seq (eL e_u8 a0.S)]], .r (.val false [.bool false]) []), (.notB false, .b true)] rfl fd_78 (by kernel_rfl) ⟨rfl, (A.ltI_f c1), (A.ltI_f c2), (A.ltI_f c3), (A.ltI_f c4), (A.call (ok_spec_l6arity a0.Kind _ hr5)), (A.leI_f c6), (A.eqI_f c7), (A.eqI_f c7), rfl, A.len, (A.ltI_f c8), (A.eqI_f c9), (A.eqI_f c10), (A.eqI_t c11), rfl, (A.eqI_f c12), (A.eqI_f c13), (A.eqI_f c14), (A.eqI_f c15), (A.eqI_t c16), (A.call (ok_spec_l6free a0.S _ hr17)), rfl, trivial⟩
                              · rw [if_neg c16] at h
                                by_cases c17 : 0 < ((a0.S.length : Nat) : Int)
                                · rw [if_pos c17] at h
                                  obtain rfl := Option.some.inj h
                                  exact call_way cfg [(.sub .i64 a2 1, .i (w64 (a2 - 1))), (.ltI (w64 (a2 - 1)) 0, .b false), (.ltI 10 a1, .b false), (.ltI a0.Kind 0, .b false), (.ltI 23 a0.Kind, .b false), (.call 101 [] [.val false [.int .i64 a0.Kind]], .r (.val false [.int .i64 r5]) []), (.leI 0 r5, .b false), (.eqI a0.Kind 5, .b false), (.eqI a0.Kind 5, .b false), (.notB false, .b true), (.len (eL (e_sl e_u8) a0.K), .i ((a0.K.length : Nat) : Int)), (.ltI 0 ((a0.K.length : Nat) : Int), .b false), (.eqI a0.Kind 1, .b false), (.eqI a0.Kind 2, .b false), (.eqI a0.N 0, .b true), (.notB true, .b false), (.eqI a0.Kind 3, .b false), (.eqI a0.Kind 6, .b false), (.eqI a0.Kind 8, .b false), (.eqI a0.Kind 23, .b false), (.eqI a0.Kind 7, .b false), (.len (eL e_u8 a0.S), .i ((a0.S.length : Nat) : Int)), (.ltI 0 ((a0.S.length : Nat) : Int), .b true)] rfl fd_78 (by kernel_rfl) ⟨rfl, (A.ltI_f c1), (A.ltI_f c2), (A.ltI_f c3), (A.ltI_f c4), (A.call (ok_spec_l6arity a0.Kind _ hr5)), (A.leI_f c6), (A.eqI_f c7), (A.eqI_f c7), rfl, A.len, (A.ltI_f c8), (A.eqI_f c9), (A.eqI_f c10), (A.eqI_t c11), rfl, (A.eqI_f c12), (A.eqI_f c13), (A.eqI_f c14), (A.eqI_f c15), (A.eqI_f c16), A.len, (A.ltI_t c17), trivial⟩
                                · rw [if_neg c17] at h
                                  obtain ⟨o18, ho18, h⟩ := Option.bind_eq_some_iff.1 h
                                  rcases o18 with o18_0 | ⟨o18_1_0, o18_1_1⟩
                                  · try dsimp only at h
                                    obtain rfl := Option.some.inj h
                                    exact call_way cfg [(.sub .i64 a2 1, .i (w64 (a2 - 1))), (.ltI (w64 (a2 - 1)) 0, .b false), (.ltI 10 a1, .b false), (.ltI a0.Kind 0, .b false), (.ltI 23 a0.Kind, .b false), (.call 101 [] [.val false [.int .i64 a0.Kind]], .r (.val false [.int .i64 r5]) []), (.leI 0 r5, .b false), (.eqI a0.Kind 5, .b false), (.eqI a0.Kind 5, .b false), (.notB false, .b true), (.len (eL (e_sl e_u8) a0.K), .i ((a0.K.length : Nat) : Int)), (.ltI 0 ((a0.K.length : Nat) : Int), .b false), (.eqI a0.Kind 1, .b false), (.eqI a0.Kind 2, .b false), (.eqI a0.N 0, .b true), (.notB true, .b false), (.eqI a0.Kind 3, .b false), (.eqI a0.Kind 6, .b false), (.eqI a0.Kind 8, .b false), (.eqI a0.Kind 23, .b false), (.eqI a0.Kind 7, .b false), (.len (eL e_u8 a0.S), .i ((a0.S.length : Nat) : Int)), (.ltI 0 ((a0.S.length : Nat) : Int), .b false), (.loop 78 (loopB Try.f78 0) ⟨[(1, .val false [.int .i64 a1]), (2, .val false [.int .i64 (w64 (a2 - 1))]), (3, .val false [.ptr 0 0]), (8, .val false [.int .i64 0])], [.var [.int .i64 a0.Kind, .int .i64 a0.N, .seq (eL e_u8 a0.S), .seq (eL (e_sl e_u8) a0.K), .seq (eL e_GExpr a0.Kids)]], 0⟩, .x (.ret) ⟨[(6, .val false [.int .i64 o18_0])], [], 0⟩)] rfl fd_78 (by kernel_rfl) ⟨rfl, (A.ltI_f c1), (A.ltI_f c2), (A.ltI_f c3), (A.ltI_f c4), (A.call (ok_spec_l6arity a0.Kind _ hr5)), (A.leI_f c6), (A.eqI_f c7), (A.eqI_f c7), rfl, A.len, (A.ltI_f c8), (A.eqI_f c9), (A.eqI_f c10), (A.eqI_t c11), rfl, (A.eqI_f c12), (A.eqI_f c13), (A.eqI_f c14), (A.eqI_f c15), (A.eqI_f c16), A.len, (A.ltI_f c17), (A.loop (gl_spec_l6expr_l0 G_spec_l6expr H_spec_l6expr a1 a0 _ (w64 (a2 - 1)) 0 _ ho18)), trivial⟩
                                  · try dsimp only at h
                                    obtain rfl := Option.some.inj h
                                    exact call_way cfg [(.sub .i64 a2 1, .i (w64 (a2 - 1))), (.ltI (w64 (a2 - 1)) 0, .b false), (.ltI 10 a1, .b false), (.ltI a0.Kind 0, .b false), (.ltI 23 a0.Kind, .b false), (.call 101 [] [.val false [.int .i64 a0.Kind]], .r (.val false [.int .i64 r5]) []), (.leI 0 r5, .b false), (.eqI a0.Kind 5, .b false), (.eqI a0.Kind 5, .b false), (.notB false, .b true), (.len (eL (e_sl e_u8) a0.K), .i ((a0.K.length : Nat) : Int)), (.ltI 0 ((a0.K.length : Nat) : Int), .b false), (.eqI a0.Kind 1, .b false), (.eqI a0.Kind 2, .b false), (.eqI a0.N 0, .b true), (.notB true, .b false), (.eqI a0.Kind 3, .b false), (.eqI a0.Kind 6, .b false), (.eqI a0.Kind 8, .b false), (.eqI a0.Kind 23, .b false), (.eqI a0.Kind 7, .b false), (.len (eL e_u8 a0.S), .i ((a0.S.length : Nat) : Int)), (.ltI 0 ((a0.S.length : Nat) : Int), .b false), (.loop 78 (loopB Try.f78 0) ⟨[(1, .val false [.int .i64 a1]), (2, .val false [.int .i64 (w64 (a2 - 1))]), (3, .val false [.ptr 0 0]), (8, .val false [.int .i64 0])], [.var [.int .i64 a0.Kind, .int .i64 a0.N, .seq (eL e_u8 a0.S), .seq (eL (e_sl e_u8) a0.K), .seq (eL e_GExpr a0.Kids)]], 0⟩, .x (.exit 2) ⟨[(1, .val false [.int .i64 a1]), (2, .val false [.int .i64 o18_1_0]), (3, .val false [.ptr 0 0]), (8, .val false [.int .i64 o18_1_1]), (129, .val false [.bool false])], [.var [.int .i64 a0.Kind, .int .i64 a0.N, .seq (eL e_u8 a0.S), .seq (eL (e_sl e_u8) a0.K), .seq (eL e_GExpr a0.Kids)]], 0⟩)] rfl fd_78 (by kernel_rfl) ⟨rfl, (A.ltI_f c1), (A.ltI_f c2), (A.ltI_f c3), (A.ltI_f c4), (A.call (ok_spec_l6arity a0.Kind _ hr5)), (A.leI_f c6), (A.eqI_f c7), (A.eqI_f c7), rfl, A.len, (A.ltI_f c8), (A.eqI_f c9), (A.eqI_f c10), (A.eqI_t c11), rfl, (A.eqI_f c12), (A.eqI_f c13), (A.eqI_f c14), (A.eqI_f c15), (A.eqI_f c16), A.len, (A.ltI_f c17), (A.loop (gl_spec_l6expr_l0 G_spec_l6expr H_spec_l6expr a1 a0 _ (w64 (a2 - 1)) 0 _ ho18)), trivial⟩
                    · rw [if_neg c11] at h
                      obtain rfl := Option.some.inj h
                      exact call_way cfg [(.sub .i64 a2 1, .i (w64 (a2 - 1))), (.ltI (w64 (a2 - 1)) 0, .b false), (.ltI 10 a1, .b false), (.ltI a0.Kind 0, .b false), (.ltI 23 a0.Kind, .b false), (.call 101 [] [.val false [.int .i64 a0.Kind]], .r (.val false [.int .i64 r5]) []), (.leI 0 r5, .b false), (.eqI a0.Kind 5, .b false), (.eqI a0.Kind 5, .b false), (.notB false, .b true), (.len (eL (e_sl e_u8) a0.K), .i ((a0.K.length : Nat) : Int)), (.ltI 0 ((a0.K.length : Nat) : Int), .b false), (.eqI a0.Kind 1, .b false), (.eqI a0.Kind 2, .b false), (.eqI a0.N 0, .b false), (.notB false, .b true)] rfl fd_78 (by kernel_rfl) ⟨rfl, (A.ltI_f c1), (A.ltI_f c2), (A.ltI_f c3), (A.ltI_f c4), (A.call (ok_spec_l6arity a0.Kind _ hr5)), (A.leI_f c6), (A.eqI_f c7), (A.eqI_f c7), rfl, A.len, (A.ltI_f c8), (A.eqI_f c9), (A.eqI_f c10), (A.eqI_f c11), rfl, trivial⟩

def U_spec_l6expr : Nat → GExpr → Int → Int → Option Int
  | 0, _, _, _ => none
  | n + 1, a0, a1, a2 => T_spec_l6expr (U_spec_l6expr n) n a0 a1 a2
theorem rec_spec_l6expr (n : Nat) : (∀ (a0 : GExpr) (a1 : Int) (a2 : Int) (r : Int), U_spec_l6expr n a0 a1 a2 = some r → (mach cfg).call 78 [] [.val true [.int .i64 a0.Kind, .int .i64 a0.N, .seq (eL e_u8 a0.S), .seq (eL (e_sl e_u8) a0.K), .seq (eL e_GExpr a0.Kids)], .val false [.int .i64 a1], .val false [.int .i64 a2]] = some (.val false [.int .i64 r], [])) := by
  induction n with
  | zero => exact fun _ _ _ _ h => (by rw [U_spec_l6expr] at h; cases h)
  | succ n ih =>
    have ih_spec_l6expr := ih
    exact fun a0 a1 a2 r h => g_spec_l6expr (U_spec_l6expr n) ih_spec_l6expr n a0 a1 a2 r (by rw [U_spec_l6expr] at h; exact h)
/-- What is left of so many parts behind an expression. -/
noncomputable def okX (d : Nat) (left : Int) (v : GExpr) : Int := if frX d v = true ∧ (ptX v : Int) ≤ left then left - ptX v else -1
theorem arity_eq (k : Int) : S_spec_l6arity k = some (arI k) := by
  have h := arI_all k
  have hd : Dec (some (arI k)) none True (S_spec_l6arity k) := by
    unfold S_spec_l6arity
    repeat' (refine Dec.ite (fun _ => ?_) (fun _ => ?_))
    all_goals (refine .inl ⟨?_, trivial⟩; congr 1; omega)
  rcases hd with h | h
  · exact h.1
  · exact (h.2 trivial).elim
theorem nameOk_eq {a : List UInt8} (h : a.length ≤ 2 ^ 20) : S_spec_NameOk a = some (nameB a) := if_pos h
theorem l2text_eq {a : List UInt8} (h : a.length ≤ 2 ^ 20) : S_spec_l2text a = some (textB a) := if_pos h
theorem l6kept_eq (a : List UInt8) : S_spec_l6kept a = some (keptB a) := rfl
theorem l6free_eq {a : List UInt8} (h : a.length ≤ 2 ^ 20) : S_spec_l6free a = some (nameB a && !keptB a) := by
  unfold S_spec_l6free
  rw [nameOk_eq h, Option.bind_some]
  cases nameB a <;> rfl
theorem l6expr_loop {G : GExpr → Int → Int → Option Int} {v : GExpr} {dd : Nat} {deep : Int} (hdd : deep + dd = 10) (h1d : 1 ≤ deep) (hs : xsz v ≤ 2 ^ 20) (hk : ¬ v.Kind = 5 ∨ (v.Kind = 5 ∧ v.K.length = v.Kids.length))
    (hG : ∀ x ∈ v.Kids, ∀ r : Int, 0 ≤ r → r ≤ 150 → G x (deep + 1) r = some (okX dd r x)) : ∀ (d i m : Nat) (r : Int), i + d = v.Kids.length → d < m → 0 ≤ r → r ≤ 150 →
    ∃ z, L_spec_l6expr_l0 G deep v m r (i : Int) = some (if ((v.Kind = 5 → kAll v.K i d = true) ∧ (v.Kids.drop i).all (frX dd) = true) ∧ (ptXs (v.Kids.drop i) : Int) ≤ r then .inr (r - ptXs (v.Kids.drop i), z) else .inl (-1)) := by
  have he := xsz_eq v
  have hl := xszs_len v.Kids
  intro d
  induction d with
  | zero =>
    intro i m r hi hm h0 h1
    obtain ⟨m, rfl, _⟩ := fuel hm
    refine ⟨(i : Int), ?_⟩
    rw [L_spec_l6expr_l0, if_neg (by omega), List.drop_eq_nil_of_le (by omega), if_pos ⟨⟨fun _ => rfl, rfl⟩, by simpa [ptXs] using h0⟩]
    simp [ptXs]
  | succ d ih =>
    intro i m r hi hm h0 h1
    obtain ⟨m, rfl, hm'⟩ := fuel hm
    have hil : i < v.Kids.length := by omega
    have hp : ptXs (v.Kids.drop i) = ptX v.Kids[i] + ptXs (v.Kids.drop (i + 1)) := by rw [drop_cons hil]; simp only [ptXs]
    have ha : (v.Kids.drop i).all (frX dd) = (frX dd v.Kids[i] && (v.Kids.drop (i + 1)).all (frX dd)) := by rw [drop_cons hil, List.all_cons]
    have hd1 : w64 (deep + 1) = deep + 1 := w64_id (by omega) (by omega)
    have tail : (v.Kind = 5 → kOk v.K i = true) → ∃ z, ((G v.Kids[i] (w64 (deep + 1)) r).bind fun r12 => if r12 < 0 then some (.inl (-1)) else L_spec_l6expr_l0 G deep v m r12 (w64 ((i : Int) + 1))) =
        some (if ((v.Kind = 5 → kAll v.K i (d + 1) = true) ∧ (v.Kids.drop i).all (frX dd) = true) ∧ (ptXs (v.Kids.drop i) : Int) ≤ r then .inr (r - ptXs (v.Kids.drop i), z) else .inl (-1)) := by
      intro hki
      rw [hd1, hG _ (List.getElem_mem hil) r h0 h1, Option.bind_some, w64_succ (by omega), hp, ha]
      unfold okX
      by_cases hc : frX dd v.Kids[i] = true ∧ (ptX v.Kids[i] : Int) ≤ r
      · rw [if_pos hc, if_neg (by omega)]
        obtain ⟨z, hz⟩ := ih (i + 1) m (r - ptX v.Kids[i]) (by omega) (by omega) (by omega) (by omega)
        refine ⟨z, ?_⟩
        rw [hz, hc.1, Bool.true_and]
        have hcond : (((v.Kind = 5 → kAll v.K (i + 1) d = true) ∧ (v.Kids.drop (i + 1)).all (frX dd) = true) ∧ (ptXs (v.Kids.drop (i + 1)) : Int) ≤ r - ptX v.Kids[i]) ↔
            (((v.Kind = 5 → kAll v.K i (d + 1) = true) ∧ (v.Kids.drop (i + 1)).all (frX dd) = true) ∧ ((ptX v.Kids[i] + ptXs (v.Kids.drop (i + 1)) : Nat) : Int) ≤ r) := by
          have hka : (v.Kind = 5 → kAll v.K (i + 1) d = true) ↔ (v.Kind = 5 → kAll v.K i (d + 1) = true) := by
            constructor
            · intro h hk; rw [kAll_succ, hki hk, h hk]; rfl
            · intro h hk; have := h hk; rw [kAll_succ, hki hk, Bool.true_and] at this; exact this
          rw [hka]
          constructor
          · rintro ⟨h1, h2⟩; exact ⟨h1, by omega⟩
          · rintro ⟨h1, h2⟩; exact ⟨h1, by omega⟩
        by_cases hd : ((v.Kind = 5 → kAll v.K (i + 1) d = true) ∧ (v.Kids.drop (i + 1)).all (frX dd) = true) ∧ (ptXs (v.Kids.drop (i + 1)) : Int) ≤ r - ptX v.Kids[i]
        · rw [if_pos hd, if_pos (hcond.1 hd)]; congr 3; omega
        · rw [if_neg hd, if_neg (fun h => hd (hcond.2 h))]
      · refine ⟨0, ?_⟩
        rw [if_neg hc, if_pos (by omega), if_neg]
        rintro ⟨⟨_, h2⟩, h3⟩
        rw [Bool.and_eq_true] at h2
        exact hc ⟨h2.1, by omega⟩
    have bad : v.Kind = 5 → kOk v.K i = false → ∃ z, (some (.inl (-1)) : Option (Int ⊕ (Int × Int))) = some (if ((v.Kind = 5 → kAll v.K i (d + 1) = true) ∧ (v.Kids.drop i).all (frX dd) = true) ∧ (ptXs (v.Kids.drop i) : Int) ≤ r then .inr (r - ptXs (v.Kids.drop i), z) else .inl (-1)) := by
      intro hk hki
      refine ⟨0, ?_⟩
      rw [if_neg]
      rintro ⟨⟨h1, _⟩, _⟩
      have := h1 hk
      rw [kAll_succ, hki] at this
      cases this
    rw [L_spec_l6expr_l0, if_pos (by omega)]
    rcases hk with hk | ⟨hk, hkl⟩
    · rw [if_neg hk, natO_nat, Option.bind_some, get_some hil, Option.bind_some]
      exact tail fun h => (hk h).elim
    · have hik : i < v.K.length := by omega
      have hx := bsz_mem (List.getElem_mem hik)
      rw [if_pos hk, natO_nat, Option.bind_some, get_some hik, Option.bind_some, nameOk_eq (by omega), Option.bind_some]
      cases hnm : nameB v.K[i] with
      | false =>
        dsimp only
        refine bad hk ?_
        by_cases h0 : i = 0
        · subst h0; rw [kOk_zero hik, hnm]
        · rw [kOk_eq hik (by omega), hnm]; rfl
      | true =>
        dsimp only
        by_cases h0 : 0 < i
        · rw [if_pos (by omega), w64_pred (by omega) h0, natO_nat, Option.bind_some, get_some (show i - 1 < v.K.length by omega), Option.bind_some]
          by_cases hb : Op.bytesLess (v.K[i - 1]'(by omega)) v.K[i] = true
          · rw [if_pos hb, get_some hil, Option.bind_some]
            exact tail fun _ => by rw [kOk_eq hik h0, hnm, hb]; rfl
          · rw [if_neg hb]
            refine bad hk ?_
            rw [kOk_eq hik h0, hnm]; simpa using hb
        · have : i = 0 := by omega
          subst this
          rw [if_neg (by omega), get_some hil, Option.bind_some]
          exact tail fun _ => by rw [kOk_zero hik, hnm]
theorem l6expr_dec {G : GExpr → Int → Int → Option Int} {v : GExpr} {n : Nat} {a1 a2 : Int} {X : Option Int} (hs : v.S.length ≤ 2 ^ 20) (h1 : ¬ w64 (a2 - 1) < 0) (h2 : ¬ 10 < a1)
    (hX : ((L_spec_l6expr_l0 G a1 v n (w64 (a2 - 1)) 0).bind fun o11 => match o11 with | .inl o11_0 => some o11_0 | .inr (⟨o11_1_0, o11_1_1⟩) => some o11_1_0) = X) : Dec X (some (-1)) (LocX v) (T_spec_l6expr G n v a1 a2) := by
  have har := arI_all v.Kind
  have hw := bi_and (nameB v.S) (keptB v.S)
  unfold T_spec_l6expr
  rw [if_neg h1, if_neg h2]
  repeat' first
    | refine Dec.ite (fun _ => ?_) (fun _ => ?_)
    | refine Dec.bnd (arity_eq _) ?_
    | refine Dec.bndB (l2text_eq hs) (fun _ => ?_) (fun _ => ?_)
    | refine Dec.bndB (nameOk_eq hs) (fun _ => ?_) (fun _ => ?_)
    | refine Dec.bndB (l6free_eq hs) (fun _ => ?_) (fun _ => ?_)
    | refine Dec.bndB (l6kept_eq _) (fun _ => ?_) (fun _ => ?_)
  all_goals first
    | exact .inl ⟨hX, by unfold LocX LocA; omega⟩
    | exact .inr ⟨rfl, by unfold LocX LocA; omega⟩
theorem frX_succ (d : Nat) (v : GExpr) : frX (d + 1) v = (locX v && v.Kids.all (frX d)) := rfl
open Classical in
theorem locX_false {v : GExpr} (h : ¬ LocX v) : locX v = false := by unfold locX; rw [decide_eq_false (fun h' => h h'.1)]; rfl
open Classical in
theorem locX_true {v : GExpr} (h : LocX v) (hk : v.Kids.length ≤ 150) (h5 : v.Kind = 5 → kAll v.K 0 v.K.length = true) : locX v = true := by
  unfold locX
  rw [decide_eq_true ⟨h, hk⟩, Bool.true_and]
  by_cases k : v.Kind = 5
  · rw [h5 k, Bool.or_true]
  · rw [decide_eq_true k, Bool.true_or]
open Classical in
theorem locX_inv {v : GExpr} (h : locX v = true) : LocX v ∧ v.Kids.length ≤ 150 ∧ (v.Kind = 5 → kAll v.K 0 v.K.length = true) := by
  unfold locX at h
  rw [Bool.and_eq_true] at h
  have h1 := of_decide_eq_true h.1
  refine ⟨h1.1, h1.2, fun k => ?_⟩
  have h2 := h.2
  rw [decide_eq_false (fun hh => hh k), Bool.false_or] at h2
  exact h2
theorem l6expr_T {G : GExpr → Int → Int → Option Int} {v : GExpr} {f dd : Nat} {deep left : Int} (hdd : deep + dd = 10 ∨ (deep = 11 ∧ dd = 0)) (h1d : 1 ≤ deep) (hs : xsz v ≤ 2 ^ 20) (hf : v.Kids.length < f) (h0 : 0 ≤ left) (h1 : left ≤ 150)
    (hG : deep ≤ 10 → ∀ x ∈ v.Kids, ∀ r : Int, 0 ≤ r → r ≤ 150 → G x (deep + 1) r = some (okX dd r x)) : T_spec_l6expr G f v deep left = some (okX (if deep ≤ 10 then dd + 1 else 0) left v) := by
  have he := xsz_eq v
  have hl := xszs_len v.Kids
  have hpt := ptX_eq v
  have hpl := ptXs_len v.Kids
  have hw : w64 (left - 1) = left - 1 := w64_id (by omega) (by omega)
  by_cases hleft : left - 1 < 0
  · unfold T_spec_l6expr
    rw [hw, if_pos hleft]
    unfold okX; rw [if_neg (by rintro ⟨_, h⟩; omega)]
  by_cases hdeep : 10 < deep
  · unfold T_spec_l6expr
    rw [hw, if_neg hleft, if_pos hdeep, if_neg (show ¬ deep ≤ 10 by omega)]
    unfold okX; rw [if_neg (by rintro ⟨h, _⟩; simp [frX] at h)]
  rw [if_pos (show deep ≤ 10 by omega)]
  have hdd : deep + dd = 10 := by omega
  have hG := hG (by omega)
  rcases l6expr_dec (G := G) (n := f) (v := v) (a1 := deep) (a2 := left) (by omega) (by rw [hw]; exact hleft) hdeep rfl with ⟨h, hL⟩ | ⟨h, hL⟩
  · rw [h, hw]
    have hk : ¬ v.Kind = 5 ∨ (v.Kind = 5 ∧ v.K.length = v.Kids.length) := by
      have := hL.2.2.1
      omega
    obtain ⟨z, hz⟩ := l6expr_loop (G := G) hdd h1d hs hk hG v.Kids.length 0 f (left - 1) (by omega) (by omega) (by omega) (by omega)
    rw [show ((0 : Nat) : Int) = 0 from rfl, List.drop_zero] at hz
    rw [hz, Option.bind_some]
    by_cases hc : ((v.Kind = 5 → kAll v.K 0 v.Kids.length = true) ∧ v.Kids.all (frX dd) = true) ∧ (ptXs v.Kids : Int) ≤ left - 1
    · have h2 : okX (dd + 1) left v = left - ptX v := if_pos ⟨by rw [frX_succ, locX_true hL (by omega) (fun k => by have := hc.1.1 k; rw [show v.K.length = v.Kids.length by omega]; exact this), hc.1.2]; rfl, by omega⟩
      rw [if_pos hc, h2, hpt]
      dsimp only
      congr 1; omega
    · have h2 : okX (dd + 1) left v = -1 := if_neg (by
        rintro ⟨h2, h3⟩
        rw [frX_succ, Bool.and_eq_true] at h2
        have hi := locX_inv h2.1
        exact hc ⟨⟨fun k => by have := hi.2.2 k; rw [show v.K.length = v.Kids.length by omega] at this; exact this, h2.2⟩, by omega⟩)
      rw [if_neg hc, h2]
  · rw [h]
    have h2 : okX (dd + 1) left v = -1 := if_neg (by
      rintro ⟨h2, _⟩
      rw [frX_succ, locX_false hL] at h2
      cases h2)
    rw [h2]
theorem l6expr_U : ∀ (N : Nat) (v : GExpr), xsz v < N → xsz v ≤ 2 ^ 20 → ∀ (f : Nat) (deep left : Int), xsz v + 2 ≤ f → 1 ≤ deep → deep ≤ 11 → 0 ≤ left → left ≤ 150 → U_spec_l6expr f v deep left = some (okX (11 - deep).toNat left v) := by
  intro N
  induction N with
  | zero => intro v hv; omega
  | succ N ih =>
    intro v hv hs f deep left hf h1 h2 h3 h4
    obtain ⟨f, rfl, _⟩ := fuel (show 0 < f by omega)
    have he := xsz_eq v
    have hl := xszs_len v.Kids
    rw [U_spec_l6expr]
    have := l6expr_T (G := U_spec_l6expr f) (f := f) (dd := (10 - deep).toNat) (deep := deep) (left := left) (v := v) (by omega) h1 hs (by omega) h3 h4 fun hd x hx r g0 g1 => by
      have hm := xszs_mem hx
      have := ih x (by omega) (by omega) f (deep + 1) r (by omega) (by omega) (by omega) g0 g1
      rw [show (11 - (deep + 1)).toNat = (10 - deep).toNat by omega] at this
      exact this
    rw [this]
    congr 2
    by_cases hd : deep ≤ 10
    · rw [if_pos hd]; omega
    · rw [if_neg hd]; omega
noncomputable def S_spec_l6expr (a0 : GExpr) (a1 : Int) (a2 : Int) : Option Int := if xsz a0 ≤ 2 ^ 20 ∧ (1 ≤ a1 ∧ a1 ≤ 11) ∧ 0 ≤ a2 ∧ a2 ≤ 150 then some (okX (11 - a1).toNat a2 a0) else none
theorem spec_spec_l6expr (a0 : GExpr) (a1 : Int) (a2 : Int) (r : Int) (h : S_spec_l6expr a0 a1 a2 = some r) : ∃ n, U_spec_l6expr n a0 a1 a2 = some r := by
  unfold S_spec_l6expr at h
  obtain ⟨⟨hs, ⟨h1, h2⟩, h3, h4⟩, h⟩ := need_c h
  exact ⟨xsz a0 + 2, by rw [← h]; exact l6expr_U _ a0 (Nat.lt_succ_self _) hs _ a1 a2 (Nat.le_refl _) h1 h2 h3 h4⟩
theorem ok_spec_l6expr (a0 : GExpr) (a1 : Int) (a2 : Int) (r : Int) (h : S_spec_l6expr a0 a1 a2 = some r) : (mach cfg).call 78 [] [.val true [.int .i64 a0.Kind, .int .i64 a0.N, .seq (eL e_u8 a0.S), .seq (eL (e_sl e_u8) a0.K), .seq (eL e_GExpr a0.Kids)], .val false [.int .i64 a1], .val false [.int .i64 a2]] = some (.val false [.int .i64 r], []) := by
  obtain ⟨n, hn⟩ := spec_spec_l6expr a0 a1 a2 r h
  exact (rec_spec_l6expr n) a0 a1 a2 r hn
end
end Go.Am.Try
