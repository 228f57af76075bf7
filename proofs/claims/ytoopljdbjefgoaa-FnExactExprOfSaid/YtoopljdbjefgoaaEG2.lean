/- The functions of the program in plain Lean, and that the machine answers as they do; conditions at each theorem. -/
import Derived.Test.YtoopljdbjefgoaaEG1
set_option linter.unusedVariables false
set_option linter.unusedSimpArgs false
namespace Go.Am.Try
open Go.Am Go.Proofs
set_option linter.unusedVariables false
set_option maxRecDepth 20000
set_option maxHeartbeats 2000000
noncomputable section
def L_spec_l2ok_l0 (G_spec_l2ok : GValue → Int → Int → Option Int) (a1 : Int) (a0 : GValue) : Nat → Int → Int → Option (Int ⊕ (Int × Int))
  | 0, _, _ => none
  | m + 1, v1, v2 =>
    if v2 < ((a0.L.length : Nat) : Int) then
      if a0.Kind = 5 then
        (natO v2).bind fun i3 =>
        (a0.K[i3]?).bind fun x4 =>
        (S_spec_NameOk x4).bind fun r5 =>
        match r5 with
        | true =>
          if 0 < v2 then
            (natO (w64 (v2 - 1))).bind fun i8 =>
            (a0.K[i8]?).bind fun x9 =>
            if Op.bytesLess x9 x4 = true then
              (a0.L[i3]?).bind fun x11 =>
              (G_spec_l2ok x11 (w64 (a1 + 1)) v1).bind fun r12 =>
              if r12 < 0 then
                some (.inl (-1))
              else
                L_spec_l2ok_l0 G_spec_l2ok a1 a0 m r12 (w64 (v2 + 1))
            else
              some (.inl (-1))
          else
            (a0.L[i3]?).bind fun x8 =>
            (G_spec_l2ok x8 (w64 (a1 + 1)) v1).bind fun r9 =>
            if r9 < 0 then
              some (.inl (-1))
            else
              L_spec_l2ok_l0 G_spec_l2ok a1 a0 m r9 (w64 (v2 + 1))
        | false =>
          some (.inl (-1))
      else
        (natO v2).bind fun i3 =>
        (a0.L[i3]?).bind fun x4 =>
        (G_spec_l2ok x4 (w64 (a1 + 1)) v1).bind fun r5 =>
        if r5 < 0 then
          some (.inl (-1))
        else
          L_spec_l2ok_l0 G_spec_l2ok a1 a0 m r5 (w64 (v2 + 1))
    else
      some (.inr (v1, v2))

theorem gl_spec_l2ok_l0 (G_spec_l2ok : GValue → Int → Int → Option Int) (H_spec_l2ok : ∀ (a0 : GValue) (a1 : Int) (a2 : Int) (r : Int), G_spec_l2ok a0 a1 a2 = some r → (mach cfg).call 71 [] [.val true [.int .i64 a0.Kind, .int .i64 a0.N, .seq (eL e_u8 a0.S), .seq (eL (e_sl e_u8) a0.K), .seq (eL e_GValue a0.L)], .val false [.int .i64 a1], .val false [.int .i64 a2]] = some (.val false [.int .i64 r], [])) (a1 : Int) (a0 : GValue) (m : Nat) : ∀ (v1 : Int) (v2 : Int) (o : (Int ⊕ (Int × Int))), L_spec_l2ok_l0 G_spec_l2ok a1 a0 m v1 v2 = some o → (mach cfg).loop 71 (loopB Try.f71 0) ⟨[(1, .val false [.int .i64 a1]), (2, .val false [.int .i64 v1]), (3, .val false [.ptr 0 0]), (7, .val false [.int .i64 v2])], [.var [.int .i64 a0.Kind, .int .i64 a0.N, .seq (eL e_u8 a0.S), .seq (eL (e_sl e_u8) a0.K), .seq (eL e_GValue a0.L)]], 0⟩ = some (match o with | .inl o_0 => (.ret, (⟨[(6, .val false [.int .i64 o_0])], [], 0⟩ : S)) | .inr (⟨o_1_0, o_1_1⟩) => (.exit 1, (⟨[(1, .val false [.int .i64 a1]), (2, .val false [.int .i64 o_1_0]), (3, .val false [.ptr 0 0]), (7, .val false [.int .i64 o_1_1]), (117, .val false [.bool false])], [.var [.int .i64 a0.Kind, .int .i64 a0.N, .seq (eL e_u8 a0.S), .seq (eL (e_sl e_u8) a0.K), .seq (eL e_GValue a0.L)]], 0⟩ : S))) := by
  induction m with
  | zero => intro v1 v2 o h; cases h
  | succ m ih =>
    intro v1 v2 o h
    rw [L_spec_l2ok_l0] at h
    by_cases c1 : v2 < ((a0.L.length : Nat) : Int)
    · rw [if_pos c1] at h
      by_cases c2 : a0.Kind = 5
      · rw [if_pos c2] at h
        obtain ⟨i3, hi3, h⟩ := Option.bind_eq_some_iff.1 h
        obtain ⟨x4, hx4, h⟩ := Option.bind_eq_some_iff.1 h
        obtain ⟨r5, hr5, h⟩ := Option.bind_eq_some_iff.1 h
        cases r5 with
        | true =>
          try dsimp only at h
          by_cases c7 : 0 < v2
          · rw [if_pos c7] at h
            obtain ⟨i8, hi8, h⟩ := Option.bind_eq_some_iff.1 h
            obtain ⟨x9, hx9, h⟩ := Option.bind_eq_some_iff.1 h
            by_cases c10 : Op.bytesLess x9 x4 = true
            · rw [if_pos c10] at h
              obtain ⟨x11, hx11, h⟩ := Option.bind_eq_some_iff.1 h
              obtain ⟨r12, hr12, h⟩ := Option.bind_eq_some_iff.1 h
              by_cases c13 : r12 < 0
              · rw [if_pos c13] at h
                obtain rfl := Option.some.inj h
                exact loop_end cfg [(.len (eL e_GValue a0.L), .i ((a0.L.length : Nat) : Int)), (.ltI v2 ((a0.L.length : Nat) : Int), .b true), (.eqI a0.Kind 5, .b true), (.nat v2, .n i3), (.idx (eL (e_sl e_u8) a0.K) i3, .e [.seq (eL e_u8 x4)]), (.call 54 [] [.val false [.seq (eL e_u8 x4)]], .r (.val false [.bool true]) []), (.notB true, .b false), (.ltI 0 v2, .b true), (.sub .i64 v2 1, .i (w64 (v2 - 1))), (.nat (w64 (v2 - 1)), .n i8), (.idx (eL (e_sl e_u8) a0.K) i8, .e [.seq (eL e_u8 x9)]), (.bytes (eL e_u8 x9), .s x9), (.nat v2, .n i3), (.idx (eL (e_sl e_u8) a0.K) i3, .e [.seq (eL e_u8 x4)]), (.bytes (eL e_u8 x4), .s x4), (.ltS x9 x4, .b true), (.notB true, .b false), (.nat v2, .n i3), (.idx (eL e_GValue a0.L) i3, .e [.int .i64 x11.Kind, .int .i64 x11.N, .seq (eL e_u8 x11.S), .seq (eL (e_sl e_u8) x11.K), .seq (eL e_GValue x11.L)]), (.add .i64 a1 1, .i (w64 (a1 + 1))), (.call 71 [] [.val true [.int .i64 x11.Kind, .int .i64 x11.N, .seq (eL e_u8 x11.S), .seq (eL (e_sl e_u8) x11.K), .seq (eL e_GValue x11.L)], .val false [.int .i64 (w64 (a1 + 1))], .val false [.int .i64 v1]], .r (.val false [.int .i64 r12]) []), (.ltI r12 0, .b true)] (by kernel_rfl) ⟨A.len, (A.ltI_t c1), (A.eqI_t c2), (A.nat hi3), (A.idx hx4 rfl), (A.call (ok_spec_NameOk x4 _ hr5)), rfl, (A.ltI_t c7), rfl, (A.nat hi8), (A.idx hx9 rfl), A.bytes, (A.nat hi3), (A.idx hx4 rfl), A.bytes, (A.ltS_t c10), rfl, (A.nat hi3), (A.idx hx11 (eq_GValue x11)), rfl, (A.call (H_spec_l2ok x11 (w64 (a1 + 1)) v1 _ hr12)), (A.ltI_t c13), trivial⟩ (by intro h; cases h)
              · rw [if_neg c13] at h
                exact loop_on cfg [(.len (eL e_GValue a0.L), .i ((a0.L.length : Nat) : Int)), (.ltI v2 ((a0.L.length : Nat) : Int), .b true), (.eqI a0.Kind 5, .b true), (.nat v2, .n i3), (.idx (eL (e_sl e_u8) a0.K) i3, .e [.seq (eL e_u8 x4)]), (.call 54 [] [.val false [.seq (eL e_u8 x4)]], .r (.val false [.bool true]) []), (.notB true, .b false), (.ltI 0 v2, .b true), (.sub .i64 v2 1, .i (w64 (v2 - 1))), (.nat (w64 (v2 - 1)), .n i8), (.idx (eL (e_sl e_u8) a0.K) i8, .e [.seq (eL e_u8 x9)]), (.bytes (eL e_u8 x9), .s x9), (.nat v2, .n i3), (.idx (eL (e_sl e_u8) a0.K) i3, .e [.seq (eL e_u8 x4)]), (.bytes (eL e_u8 x4), .s x4), (.ltS x9 x4, .b true), (.notB true, .b false), (.nat v2, .n i3), (.idx (eL e_GValue a0.L) i3, .e [.int .i64 x11.Kind, .int .i64 x11.N, .seq (eL e_u8 x11.S), .seq (eL (e_sl e_u8) x11.K), .seq (eL e_GValue x11.L)]), (.add .i64 a1 1, .i (w64 (a1 + 1))), (.call 71 [] [.val true [.int .i64 x11.Kind, .int .i64 x11.N, .seq (eL e_u8 x11.S), .seq (eL (e_sl e_u8) x11.K), .seq (eL e_GValue x11.L)], .val false [.int .i64 (w64 (a1 + 1))], .val false [.int .i64 v1]], .r (.val false [.int .i64 r12]) []), (.ltI r12 0, .b false), (.add .i64 v2 1, .i (w64 (v2 + 1)))] (by kernel_rfl) ⟨A.len, (A.ltI_t c1), (A.eqI_t c2), (A.nat hi3), (A.idx hx4 rfl), (A.call (ok_spec_NameOk x4 _ hr5)), rfl, (A.ltI_t c7), rfl, (A.nat hi8), (A.idx hx9 rfl), A.bytes, (A.nat hi3), (A.idx hx4 rfl), A.bytes, (A.ltS_t c10), rfl, (A.nat hi3), (A.idx hx11 (eq_GValue x11)), rfl, (A.call (H_spec_l2ok x11 (w64 (a1 + 1)) v1 _ hr12)), (A.ltI_f c13), rfl, trivial⟩ (ih r12 (w64 (v2 + 1)) o h)
            · rw [if_neg c10] at h
              obtain rfl := Option.some.inj h
              exact loop_end cfg [(.len (eL e_GValue a0.L), .i ((a0.L.length : Nat) : Int)), (.ltI v2 ((a0.L.length : Nat) : Int), .b true), (.eqI a0.Kind 5, .b true), (.nat v2, .n i3), (.idx (eL (e_sl e_u8) a0.K) i3, .e [.seq (eL e_u8 x4)]), (.call 54 [] [.val false [.seq (eL e_u8 x4)]], .r (.val false [.bool true]) []), (.notB true, .b false), (.ltI 0 v2, .b true), (.sub .i64 v2 1, .i (w64 (v2 - 1))), (.nat (w64 (v2 - 1)), .n i8), (.idx (eL (e_sl e_u8) a0.K) i8, .e [.seq (eL e_u8 x9)]), (.bytes (eL e_u8 x9), .s x9), (.nat v2, .n i3), (.idx (eL (e_sl e_u8) a0.K) i3, .e [.seq (eL e_u8 x4)]), (.bytes (eL e_u8 x4), .s x4), (.ltS x9 x4, .b false), (.notB false, .b true)] (by kernel_rfl) ⟨A.len, (A.ltI_t c1), (A.eqI_t c2), (A.nat hi3), (A.idx hx4 rfl), (A.call (ok_spec_NameOk x4 _ hr5)), rfl, (A.ltI_t c7), rfl, (A.nat hi8), (A.idx hx9 rfl), A.bytes, (A.nat hi3), (A.idx hx4 rfl), A.bytes, (A.ltS_f c10), rfl, trivial⟩ (by intro h; cases h)
          · rw [if_neg c7] at h
            obtain ⟨x8, hx8, h⟩ := Option.bind_eq_some_iff.1 h
            obtain ⟨r9, hr9, h⟩ := Option.bind_eq_some_iff.1 h
            by_cases c10 : r9 < 0
            · rw [if_pos c10] at h
              obtain rfl := Option.some.inj h
              exact loop_end cfg [(.len (eL e_GValue a0.L), .i ((a0.L.length : Nat) : Int)), (.ltI v2 ((a0.L.length : Nat) : Int), .b true), (.eqI a0.Kind 5, .b true), (.nat v2, .n i3), (.idx (eL (e_sl e_u8) a0.K) i3, .e [.seq (eL e_u8 x4)]), (.call 54 [] [.val false [.seq (eL e_u8 x4)]], .r (.val false [.bool true]) []), (.notB true, .b false), (.ltI 0 v2, .b false), (.nat v2, .n i3), (.idx (eL e_GValue a0.L) i3, .e [.int .i64 x8.Kind, .int .i64 x8.N, .seq (eL e_u8 x8.S), .seq (eL (e_sl e_u8) x8.K), .seq (eL e_GValue x8.L)]), (.add .i64 a1 1, .i (w64 (a1 + 1))), (.call 71 [] [.val true [.int .i64 x8.Kind, .int .i64 x8.N, .seq (eL e_u8 x8.S), .seq (eL (e_sl e_u8) x8.K), .seq (eL e_GValue x8.L)], .val false [.int .i64 (w64 (a1 + 1))], .val false [.int .i64 v1]], .r (.val false [.int .i64 r9]) []), (.ltI r9 0, .b true)] (by kernel_rfl) ⟨A.len, (A.ltI_t c1), (A.eqI_t c2), (A.nat hi3), (A.idx hx4 rfl), (A.call (ok_spec_NameOk x4 _ hr5)), rfl, (A.ltI_f c7), (A.nat hi3), (A.idx hx8 (eq_GValue x8)), rfl, (A.call (H_spec_l2ok x8 (w64 (a1 + 1)) v1 _ hr9)), (A.ltI_t c10), trivial⟩ (by intro h; cases h)
            · rw [if_neg c10] at h
              exact loop_on cfg [(.len (eL e_GValue a0.L), .i ((a0.L.length : Nat) : Int)), (.ltI v2 ((a0.L.length : Nat) : Int), .b true), (.eqI a0.Kind 5, .b true), (.nat v2, .n i3), (.idx (eL (e_sl e_u8) a0.K) i3, .e [.seq (eL e_u8 x4)]), (.call 54 [] [.val false [.seq (eL e_u8 x4)]], .r (.val false [.bool true]) []), (.notB true, .b false), (.ltI 0 v2, .b false), (.nat v2, .n i3), (.idx (eL e_GValue a0.L) i3, .e [.int .i64 x8.Kind, .int .i64 x8.N, .seq (eL e_u8 x8.S), .seq (eL (e_sl e_u8) x8.K), .seq (eL e_GValue x8.L)]), (.add .i64 a1 1, .i (w64 (a1 + 1))), (.call 71 [] [.val true [.int .i64 x8.Kind, .int .i64 x8.N, .seq (eL e_u8 x8.S), .seq (eL (e_sl e_u8) x8.K), .seq (eL e_GValue x8.L)], .val false [.int .i64 (w64 (a1 + 1))], .val false [.int .i64 v1]], .r (.val false [.int .i64 r9]) []), (.ltI r9 0, .b false), (.add .i64 v2 1, .i (w64 (v2 + 1)))] (by kernel_rfl) ⟨A.len, (A.ltI_t c1), (A.eqI_t c2), (A.nat hi3), (A.idx hx4 rfl), (A.call (ok_spec_NameOk x4 _ hr5)), rfl, (A.ltI_f c7), (A.nat hi3), (A.idx hx8 (eq_GValue x8)), rfl, (A.call (H_spec_l2ok x8 (w64 (a1 + 1)) v1 _ hr9)), (A.ltI_f c10), rfl, trivial⟩ (ih r9 (w64 (v2 + 1)) o h)
        | false =>
          try dsimp only at h
          obtain rfl := Option.some.inj h
          exact loop_end cfg [(.len (eL e_GValue a0.L), .i ((a0.L.length : Nat) : Int)), (.ltI v2 ((a0.L.length : Nat) : Int), .b true), (.eqI a0.Kind 5, .b true), (.nat v2, .n i3), (.idx (eL (e_sl e_u8) a0.K) i3, .e [.seq (eL e_u8 x4)]), (.call 54 [] [.val false [.seq (eL e_u8 x4)]], .r (.val false [.bool false]) []), (.notB false, .b true)] (by kernel_rfl) ⟨A.len, (A.ltI_t c1), (A.eqI_t c2), (A.nat hi3), (A.idx hx4 rfl), (A.call (ok_spec_NameOk x4 _ hr5)), rfl, trivial⟩ (by intro h; cases h)
      · rw [if_neg c2] at h
        obtain ⟨i3, hi3, h⟩ := Option.bind_eq_some_iff.1 h
        obtain ⟨x4, hx4, h⟩ := Option.bind_eq_some_iff.1 h
        obtain ⟨r5, hr5, h⟩ := Option.bind_eq_some_iff.1 h
        by_cases c6 : r5 < 0
        · rw [if_pos c6] at h
          obtain rfl := Option.some.inj h
          exact loop_end cfg [(.len (eL e_GValue a0.L), .i ((a0.L.length : Nat) : Int)), (.ltI v2 ((a0.L.length : Nat) : Int), .b true), (.eqI a0.Kind 5, .b false), (.nat v2, .n i3), (.idx (eL e_GValue a0.L) i3, .e [.int .i64 x4.Kind, .int .i64 x4.N, .seq (eL e_u8 x4.S), .seq (eL (e_sl e_u8) x4.K), .seq (eL e_GValue x4.L)]), (.add .i64 a1 1, .i (w64 (a1 + 1))), (.call 71 [] [.val true [.int .i64 x4.Kind, .int .i64 x4.N, .seq (eL e_u8 x4.S), .seq (eL (e_sl e_u8) x4.K), .seq (eL e_GValue x4.L)], .val false [.int .i64 (w64 (a1 + 1))], .val false [.int .i64 v1]], .r (.val false [.int .i64 r5]) []), (.ltI r5 0, .b true)] (by kernel_rfl) ⟨A.len, (A.ltI_t c1), (A.eqI_f c2), (A.nat hi3), (A.idx hx4 (eq_GValue x4)), rfl, (A.call (H_spec_l2ok x4 (w64 (a1 + 1)) v1 _ hr5)), (A.ltI_t c6), trivial⟩ (by intro h; cases h)
        · rw [if_neg c6] at h
          exact loop_on cfg [(.len (eL e_GValue a0.L), .i ((a0.L.length : Nat) : Int)), (.ltI v2 ((a0.L.length : Nat) : Int), .b true), (.eqI a0.Kind 5, .b false), (.nat v2, .n i3), (.idx (eL e_GValue a0.L) i3, .e [.int .i64 x4.Kind, .int .i64 x4.N, .seq (eL e_u8 x4.S), .seq (eL (e_sl e_u8) x4.K), .seq (eL e_GValue x4.L)]), (.add .i64 a1 1, .i (w64 (a1 + 1))), (.call 71 [] [.val true [.int .i64 x4.Kind, .int .i64 x4.N, .seq (eL e_u8 x4.S), .seq (eL (e_sl e_u8) x4.K), .seq (eL e_GValue x4.L)], .val false [.int .i64 (w64 (a1 + 1))], .val false [.int .i64 v1]], .r (.val false [.int .i64 r5]) []), (.ltI r5 0, .b false), (.add .i64 v2 1, .i (w64 (v2 + 1)))] (by kernel_rfl) ⟨A.len, (A.ltI_t c1), (A.eqI_f c2), (A.nat hi3), (A.idx hx4 (eq_GValue x4)), rfl, (A.call (H_spec_l2ok x4 (w64 (a1 + 1)) v1 _ hr5)), (A.ltI_f c6), rfl, trivial⟩ (ih r5 (w64 (v2 + 1)) o h)
    · rw [if_neg c1] at h
      obtain rfl := Option.some.inj h
      exact loop_end cfg [(.len (eL e_GValue a0.L), .i ((a0.L.length : Nat) : Int)), (.ltI v2 ((a0.L.length : Nat) : Int), .b false)] (by kernel_rfl) ⟨A.len, (A.ltI_f c1), trivial⟩ (by intro h; cases h)

def T_spec_l2ok (G_spec_l2ok : GValue → Int → Int → Option Int) (n : Nat) (a0 : GValue) (a1 : Int) (a2 : Int) : Option Int :=
  if (w64 (a2 - 1)) < 0 then
    some (-1)
  else
    if 5 < a1 then
      some (-1)
    else
      if a0.Kind = 3 then
        if 0 < ((a0.K.length : Nat) : Int) then
          some (-1)
        else
          if a0.N = 0 then
            if 0 < ((a0.L.length : Nat) : Int) then
              some (-1)
            else
              (S_spec_l2text a0.S).bind fun r7 =>
              match r7 with
              | true =>
                some (w64 (a2 - 1))
              | false =>
                some (-1)
          else
            some (-1)
      else
        if 0 < ((a0.S.length : Nat) : Int) then
          some (-1)
        else
          if a0.Kind = 5 then
            if a0.N = 0 then
              if ((a0.K.length : Nat) : Int) = ((a0.L.length : Nat) : Int) then
                (L_spec_l2ok_l0 G_spec_l2ok a1 a0 n (w64 (a2 - 1)) 0).bind fun o8 =>
                match o8 with
                | .inl o8_0 =>
                  some o8_0
                | .inr (⟨o8_1_0, o8_1_1⟩) =>
                  some o8_1_0
              else
                some (-1)
            else
              some (-1)
          else
            if 0 < ((a0.K.length : Nat) : Int) then
              some (-1)
            else
              if a0.Kind = 1 then
                if 0 < ((a0.L.length : Nat) : Int) then
                  some (-1)
                else
                  if a0.N < 0 then
                    some (-1)
                  else
                    if 1 < a0.N then
                      some (-1)
                    else
                      some (w64 (a2 - 1))
              else
                if a0.Kind = 2 then
                  if 0 < ((a0.L.length : Nat) : Int) then
                    some (-1)
                  else
                    (S_spec_l2int a0.N).bind fun r10 =>
                    match r10 with
                    | true =>
                      some (w64 (a2 - 1))
                    | false =>
                      some (-1)
                else
                  if a0.N = 0 then
                    if a0.Kind = 4 then
                      (L_spec_l2ok_l0 G_spec_l2ok a1 a0 n (w64 (a2 - 1)) 0).bind fun o11 =>
                      match o11 with
                      | .inl o11_0 =>
                        some o11_0
                      | .inr (⟨o11_1_0, o11_1_1⟩) =>
                        some o11_1_0
                    else
                      if 0 < ((a0.L.length : Nat) : Int) then
                        some (-1)
                      else
                        if a0.Kind = 0 then
                          some (w64 (a2 - 1))
                        else
                          if a0.Kind = 6 then
                            some (w64 (a2 - 1))
                          else
                            some (-1)
                  else
                    some (-1)

set_option maxRecDepth 100000 in
theorem fd_71 : cfg.funcs 71 = some (bodyOf Try.f71, Try.f71.ntmps, Try.f71.results.toList) := fn_of Try.func71 (by kernel_rfl) (by kernel_rfl)
theorem g_spec_l2ok (G_spec_l2ok : GValue → Int → Int → Option Int) (H_spec_l2ok : ∀ (a0 : GValue) (a1 : Int) (a2 : Int) (r : Int), G_spec_l2ok a0 a1 a2 = some r → (mach cfg).call 71 [] [.val true [.int .i64 a0.Kind, .int .i64 a0.N, .seq (eL e_u8 a0.S), .seq (eL (e_sl e_u8) a0.K), .seq (eL e_GValue a0.L)], .val false [.int .i64 a1], .val false [.int .i64 a2]] = some (.val false [.int .i64 r], [])) (n : Nat) (a0 : GValue) (a1 : Int) (a2 : Int) (r : Int) (h : T_spec_l2ok G_spec_l2ok n a0 a1 a2 = some r) : (mach cfg).call 71 [] [.val true [.int .i64 a0.Kind, .int .i64 a0.N, .seq (eL e_u8 a0.S), .seq (eL (e_sl e_u8) a0.K), .seq (eL e_GValue a0.L)], .val false [.int .i64 a1], .val false [.int .i64 a2]] = some (.val false [.int .i64 r], []) := by
  unfold T_spec_l2ok at h
  by_cases c1 : (w64 (a2 - 1)) < 0
  · rw [if_pos c1] at h
    obtain rfl := Option.some.inj h
    exact call_way cfg [(.sub .i64 a2 1, .i (w64 (a2 - 1))), (.ltI (w64 (a2 - 1)) 0, .b true)] rfl fd_71 (by kernel_rfl) ⟨rfl, (A.ltI_t c1), trivial⟩
  · rw [if_neg c1] at h
    by_cases c2 : 5 < a1
    · rw [if_pos c2] at h
      obtain rfl := Option.some.inj h
      exact call_way cfg [(.sub .i64 a2 1, .i (w64 (a2 - 1))), (.ltI (w64 (a2 - 1)) 0, .b false), (.ltI 5 a1, .b true)] rfl fd_71 (by kernel_rfl) ⟨rfl, (A.ltI_f c1), (A.ltI_t c2), trivial⟩
    · rw [if_neg c2] at h
      by_cases c3 : a0.Kind = 3
      · rw [if_pos c3] at h
        by_cases c4 : 0 < ((a0.K.length : Nat) : Int)
        · rw [if_pos c4] at h
          obtain rfl := Option.some.inj h
          exact call_way cfg [(.sub .i64 a2 1, .i (w64 (a2 - 1))), (.ltI (w64 (a2 - 1)) 0, .b false), (.ltI 5 a1, .b false), (.eqI a0.Kind 3, .b true), (.notB true, .b false), (.eqI a0.Kind 5, .b false), (.notB false, .b true), (.len (eL (e_sl e_u8) a0.K), .i ((a0.K.length : Nat) : Int)), (.ltI 0 ((a0.K.length : Nat) : Int), .b true)] rfl fd_71 (by kernel_rfl) ⟨rfl, (A.ltI_f c1), (A.ltI_f c2), (A.eqI_t c3), rfl, (A.eqI_f (by omega)), rfl, A.len, (A.ltI_t c4), trivial⟩
        · rw [if_neg c4] at h
          by_cases c5 : a0.N = 0
          · rw [if_pos c5] at h
            by_cases c6 : 0 < ((a0.L.length : Nat) : Int)
            · rw [if_pos c6] at h
              obtain rfl := Option.some.inj h
              exact call_way cfg [(.sub .i64 a2 1, .i (w64 (a2 - 1))), (.ltI (w64 (a2 - 1)) 0, .b false), (.ltI 5 a1, .b false), (.eqI a0.Kind 3, .b true), (.notB true, .b false), (.eqI a0.Kind 5, .b false), (.notB false, .b true), (.len (eL (e_sl e_u8) a0.K), .i ((a0.K.length : Nat) : Int)), (.ltI 0 ((a0.K.length : Nat) : Int), .b false), (.eqI a0.Kind 1, .b false), (.notB false, .b true), (.eqI a0.Kind 2, .b false), (.notB false, .b true), (.eqI a0.N 0, .b true), (.notB true, .b false), (.eqI a0.Kind 4, .b false), (.notB false, .b true), (.eqI a0.Kind 5, .b false), (.notB false, .b true), (.len (eL e_GValue a0.L), .i ((a0.L.length : Nat) : Int)), (.ltI 0 ((a0.L.length : Nat) : Int), .b true)] rfl fd_71 (by kernel_rfl) ⟨rfl, (A.ltI_f c1), (A.ltI_f c2), (A.eqI_t c3), rfl, (A.eqI_f (by omega)), rfl, A.len, (A.ltI_f c4), (A.eqI_f (by omega)), rfl, (A.eqI_f (by omega)), rfl, (A.eqI_t c5), rfl, (A.eqI_f (by omega)), rfl, (A.eqI_f (by omega)), rfl, A.len, (A.ltI_t c6), trivial⟩
            · rw [if_neg c6] at h
              obtain ⟨r7, hr7, h⟩ := Option.bind_eq_some_iff.1 h
              cases r7 with
              | true =>
                try dsimp only at h
                obtain rfl := Option.some.inj h
                exact call_way cfg [(.sub .i64 a2 1, .i (w64 (a2 - 1))), (.ltI (w64 (a2 - 1)) 0, .b false), (.ltI 5 a1, .b false), (.eqI a0.Kind 3, .b true), (.notB true, .b false), (.eqI a0.Kind 5, .b false), (.notB false, .b true), (.len (eL (e_sl e_u8) a0.K), .i ((a0.K.length : Nat) : Int)), (.ltI 0 ((a0.K.length : Nat) : Int), .b false), (.eqI a0.Kind 1, .b false), (.notB false, .b true), (.eqI a0.Kind 2, .b false), (.notB false, .b true), (.eqI a0.N 0, .b true), (.notB true, .b false), (.eqI a0.Kind 4, .b false), (.notB false, .b true), (.eqI a0.Kind 5, .b false), (.notB false, .b true), (.len (eL e_GValue a0.L), .i ((a0.L.length : Nat) : Int)), (.ltI 0 ((a0.L.length : Nat) : Int), .b false), (.eqI a0.Kind 0, .b false), (.eqI a0.Kind 6, .b false), (.eqI a0.Kind 1, .b false), (.eqI a0.Kind 2, .b false), (.eqI a0.Kind 3, .b true), (.call 108 [] [.val false [.seq (eL e_u8 a0.S)]], .r (.val false [.bool true]) []), (.notB true, .b false)] rfl fd_71 (by kernel_rfl) ⟨rfl, (A.ltI_f c1), (A.ltI_f c2), (A.eqI_t c3), rfl, (A.eqI_f (by omega)), rfl, A.len, (A.ltI_f c4), (A.eqI_f (by omega)), rfl, (A.eqI_f (by omega)), rfl, (A.eqI_t c5), rfl, (A.eqI_f (by omega)), rfl, (A.eqI_f (by omega)), rfl, A.len, (A.ltI_f c6), (A.eqI_f (by omega)), (A.eqI_f (by omega)), (A.eqI_f (by omega)), (A.eqI_f (by omega)), (A.eqI_t c3), (A.call (ok_spec_l2text a0.S _ hr7)), rfl, trivial⟩
              | false =>
                try dsimp only at h
                obtain rfl := Option.some.inj h
                exact call_way cfg [(.sub .i64 a2 1, .i (w64 (a2 - 1))), (.ltI (w64 (a2 - 1)) 0, .b false), (.ltI 5 a1, .b false), (.eqI a0.Kind 3, .b true), (.notB true, .b false), (.eqI a0.Kind 5, .b false), (.notB false, .b true), (.len (eL (e_sl e_u8) a0.K), .i ((a0.K.length : Nat) : Int)), (.ltI 0 ((a0.K.length : Nat) : Int), .b false), (.eqI a0.Kind 1, .b false), (.notB false, .b true), (.eqI a0.Kind 2, .b false), (.notB false, .b true), (.eqI a0.N 0, .b true), (.notB true, .b false), (.eqI a0.Kind 4, .b false), (.notB false, .b true), (.eqI a0.Kind 5, .b false), (.notB false, .b true), (.len (eL e_GValue a0.L), .i ((a0.L.length : Nat) : Int)), (.ltI 0 ((a0.L.length : Nat) : Int), .b false), (.eqI a0.Kind 0, .b false), (.eqI a0.Kind 6, .b false), (.eqI a0.Kind 1, .b false), (.eqI a0.Kind 2, .b false), (.eqI a0.Kind 3, .b true), (.call 108 [] [.val false [.seq (eL e_u8 a0.S)]], .r (.val false [.bool false]) []), (.notB false, .b true)] rfl fd_71 (by kernel_rfl) ⟨rfl, (A.ltI_f c1), (A.ltI_f c2), (A.eqI_t c3), rfl, (A.eqI_f (by omega)), rfl, A.len, (A.ltI_f c4), (A.eqI_f (by omega)), rfl, (A.eqI_f (by omega)), rfl, (A.eqI_t c5), rfl, (A.eqI_f (by omega)), rfl, (A.eqI_f (by omega)), rfl, A.len, (A.ltI_f c6), (A.eqI_f (by omega)), (A.eqI_f (by omega)), (A.eqI_f (by omega)), (A.eqI_f (by omega)), (A.eqI_t c3), (A.call (ok_spec_l2text a0.S _ hr7)), rfl, trivial⟩
          · rw [if_neg c5] at h
            obtain rfl := Option.some.inj h
            exact call_way cfg [(.sub .i64 a2 1, .i (w64 (a2 - 1))), (.ltI (w64 (a2 - 1)) 0, .b false), (.ltI 5 a1, .b false), (.eqI a0.Kind 3, .b true), (.notB true, .b false), (.eqI a0.Kind 5, .b false), (.notB false, .b true), (.len (eL (e_sl e_u8) a0.K), .i ((a0.K.length : Nat) : Int)), (.ltI 0 ((a0.K.length : Nat) : Int), .b false), (.eqI a0.Kind 1, .b false), (.notB false, .b true), (.eqI a0.Kind 2, .b false), (.notB false, .b true), (.eqI a0.N 0, .b false), (.notB false, .b true)] rfl fd_71 (by kernel_rfl) ⟨rfl, (A.ltI_f c1), (A.ltI_f c2), (A.eqI_t c3), rfl, (A.eqI_f (by omega)), rfl, A.len, (A.ltI_f c4), (A.eqI_f (by omega)), rfl, (A.eqI_f (by omega)), rfl, (A.eqI_f c5), rfl, trivial⟩
      · rw [if_neg c3] at h
        by_cases c4 : 0 < ((a0.S.length : Nat) : Int)
        · rw [if_pos c4] at h
          obtain rfl := Option.some.inj h
          exact call_way cfg [(.sub .i64 a2 1, .i (w64 (a2 - 1))), (.ltI (w64 (a2 - 1)) 0, .b false), (.ltI 5 a1, .b false), (.eqI a0.Kind 3, .b false), (.notB false, .b true), (.len (eL e_u8 a0.S), .i ((a0.S.length : Nat) : Int)), (.ltI 0 ((a0.S.length : Nat) : Int), .b true)] rfl fd_71 (by kernel_rfl) ⟨rfl, (A.ltI_f c1), (A.ltI_f c2), (A.eqI_f c3), rfl, A.len, (A.ltI_t c4), trivial⟩
        · rw [if_neg c4] at h
          by_cases c5 : a0.Kind = 5
          · rw [if_pos c5] at h
            by_cases c6 : a0.N = 0
            · rw [if_pos c6] at h
              by_cases c7 : ((a0.K.length : Nat) : Int) = ((a0.L.length : Nat) : Int)
              · rw [if_pos c7] at h
                obtain ⟨o8, ho8, h⟩ := Option.bind_eq_some_iff.1 h
                rcases o8 with o8_0 | ⟨o8_1_0, o8_1_1⟩
                · try dsimp only at h
                  obtain rfl := Option.some.inj h
                  exact call_way cfg [(.sub .i64 a2 1, .i (w64 (a2 - 1))), (.ltI (w64 (a2 - 1)) 0, .b false), (.ltI 5 a1, .b false), (.eqI a0.Kind 3, .b false), (.notB false, .b true), (.len (eL e_u8 a0.S), .i ((a0.S.length : Nat) : Int)), (.ltI 0 ((a0.S.length : Nat) : Int), .b false), (.eqI a0.Kind 5, .b true), (.notB true, .b false), (.eqI a0.Kind 1, .b false), (.notB false, .b true), (.eqI a0.Kind 2, .b false), (.notB false, .b true), (.eqI a0.N 0, .b true), (.notB true, .b false), (.eqI a0.Kind 4, .b false), (.notB false, .b true), (.eqI a0.Kind 5, .b true), (.notB true, .b false), (.eqI a0.Kind 0, .b false), (.eqI a0.Kind 6, .b false), (.eqI a0.Kind 1, .b false), (.eqI a0.Kind 2, .b false), (.eqI a0.Kind 3, .b false), (.eqI a0.Kind 4, .b false), (.eqI a0.Kind 5, .b true), (.eqI a0.Kind 5, .b true), (.len (eL (e_sl e_u8) a0.K), .i ((a0.K.length : Nat) : Int)), (.len (eL e_GValue a0.L), .i ((a0.L.length : Nat) : Int)), (.eqI ((a0.K.length : Nat) : Int) ((a0.L.length : Nat) : Int), .b true), (.notB true, .b false), (.loop 71 (loopB Try.f71 0) ⟨[(1, .val false [.int .i64 a1]), (2, .val false [.int .i64 (w64 (a2 - 1))]), (3, .val false [.ptr 0 0]), (7, .val false [.int .i64 0])], [.var [.int .i64 a0.Kind, .int .i64 a0.N, .seq (eL e_u8 a0.S), .seq (eL (e_sl e_u8) a0.K), .seq (eL e_GValue a0.L)]], 0⟩, .x (.ret) ⟨[(6, .val false [.int .i64 o8_0])], [], 0⟩)] rfl fd_71 (by kernel_rfl) ⟨rfl, (A.ltI_f c1), (A.ltI_f c2), (A.eqI_f c3), rfl, A.len, (A.ltI_f c4), (A.eqI_t c5), rfl, (A.eqI_f (by omega)), rfl, (A.eqI_f (by omega)), rfl, (A.eqI_t c6), rfl, (A.eqI_f (by omega)), rfl, (A.eqI_t c5), rfl, (A.eqI_f (by omega)), (A.eqI_f (by omega)), (A.eqI_f (by omega)), (A.eqI_f (by omega)), (A.eqI_f c3), (A.eqI_f (by omega)), (A.eqI_t c5), (A.eqI_t c5), A.len, A.len, (A.eqI_t c7), rfl, (A.loop (gl_spec_l2ok_l0 G_spec_l2ok H_spec_l2ok a1 a0 _ (w64 (a2 - 1)) 0 _ ho8)), trivial⟩
                · try dsimp only at h
                  obtain rfl := Option.some.inj h
                  exact call_way cfg [(.sub .i64 a2 1, .i (w64 (a2 - 1))), (.ltI (w64 (a2 - 1)) 0, .b false), (.ltI 5 a1, .b false), (.eqI a0.Kind 3, .b false), (.notB false, .b true), (.len (eL e_u8 a0.S), .i ((a0.S.length : Nat) : Int)), (.ltI 0 ((a0.S.length : Nat) : Int), .b false), (.eqI a0.Kind 5, .b true), (.notB true, .b false), (.eqI a0.Kind 1, .b false), (.notB false, .b true), (.eqI a0.Kind 2, .b false), (.notB false, .b true), (.eqI a0.N 0, .b true), (.notB true, .b false), (.eqI a0.Kind 4, .b false), (.notB false, .b true), (.eqI a0.Kind 5, .b true), (.notB true, .b false), (.eqI a0.Kind 0, .b false), (.eqI a0.Kind 6, .b false), (.eqI a0.Kind 1, .b false), (.eqI a0.Kind 2, .b false), (.eqI a0.Kind 3, .b false), (.eqI a0.Kind 4, .b false), (.eqI a0.Kind 5, .b true), (.eqI a0.Kind 5, .b true), (.len (eL (e_sl e_u8) a0.K), .i ((a0.K.length : Nat) : Int)), (.len (eL e_GValue a0.L), .i ((a0.L.length : Nat) : Int)), (.eqI ((a0.K.length : Nat) : Int) ((a0.L.length : Nat) : Int), .b true), (.notB true, .b false), (.loop 71 (loopB Try.f71 0) ⟨[(1, .val false [.int .i64 a1]), (2, .val false [.int .i64 (w64 (a2 - 1))]), (3, .val false [.ptr 0 0]), (7, .val false [.int .i64 0])], [.var [.int .i64 a0.Kind, .int .i64 a0.N, .seq (eL e_u8 a0.S), .seq (eL (e_sl e_u8) a0.K), .seq (eL e_GValue a0.L)]], 0⟩, .x (.exit 1) ⟨[(1, .val false [.int .i64 a1]), (2, .val false [.int .i64 o8_1_0]), (3, .val false [.ptr 0 0]), (7, .val false [.int .i64 o8_1_1]), (117, .val false [.bool false])], [.var [.int .i64 a0.Kind, .int .i64 a0.N, .seq (eL e_u8 a0.S), .seq (eL (e_sl e_u8) a0.K), .seq (eL e_GValue a0.L)]], 0⟩)] rfl fd_71 (by kernel_rfl) ⟨rfl, (A.ltI_f c1), (A.ltI_f c2), (A.eqI_f c3), rfl, A.len, (A.ltI_f c4), (A.eqI_t c5), rfl, (A.eqI_f (by omega)), rfl, (A.eqI_f (by omega)), rfl, (A.eqI_t c6), rfl, (A.eqI_f (by omega)), rfl, (A.eqI_t c5), rfl, (A.eqI_f (by omega)), (A.eqI_f (by omega)), (A.eqI_f (by omega)), (A.eqI_f (by omega)), (A.eqI_f c3), (A.eqI_f (by omega)), (A.eqI_t c5), (A.eqI_t c5), A.len, A.len, (A.eqI_t c7), rfl, (A.loop (gl_spec_l2ok_l0 G_spec_l2ok H_spec_l2ok a1 a0 _ (w64 (a2 - 1)) 0 _ ho8)), trivial⟩
              · rw [if_neg c7] at h
                obtain rfl := Option.some.inj h
                exact call_way cfg [(.sub .i64 a2 1, .i (w64 (a2 - 1))), (.ltI (w64 (a2 - 1)) 0, .b false), (.ltI 5 a1, .b false), (.eqI a0.Kind 3, .b false), (.notB false, .b true), (.len (eL e_u8 a0.S), .i ((a0.S.length : Nat) : Int)), (.ltI 0 ((a0.S.length : Nat) : Int), .b false), (.eqI a0.Kind 5, .b true), (.notB true, .b false), (.eqI a0.Kind 1, .b false), (.notB false, .b true), (.eqI a0.Kind 2, .b false), (.notB false, .b true), (.eqI a0.N 0, .b true), (.notB true, .b false), (.eqI a0.Kind 4, .b false), (.notB false, .b true), (.eqI a0.Kind 5, .b true), (.notB true, .b false), (.eqI a0.Kind 0, .b false), (.eqI a0.Kind 6, .b false), (.eqI a0.Kind 1, .b false), (.eqI a0.Kind 2, .b false), (.eqI a0.Kind 3, .b false), (.eqI a0.Kind 4, .b false), (.eqI a0.Kind 5, .b true), (.eqI a0.Kind 5, .b true), (.len (eL (e_sl e_u8) a0.K), .i ((a0.K.length : Nat) : Int)), (.len (eL e_GValue a0.L), .i ((a0.L.length : Nat) : Int)), (.eqI ((a0.K.length : Nat) : Int) ((a0.L.length : Nat) : Int), .b false), (.notB false, .b true)] rfl fd_71 (by kernel_rfl) ⟨rfl, (A.ltI_f c1), (A.ltI_f c2), (A.eqI_f c3), rfl, A.len, (A.ltI_f c4), (A.eqI_t c5), rfl, (A.eqI_f (by omega)), rfl, (A.eqI_f (by omega)), rfl, (A.eqI_t c6), rfl, (A.eqI_f (by omega)), rfl, (A.eqI_t c5), rfl, (A.eqI_f (by omega)), (A.eqI_f (by omega)), (A.eqI_f (by omega)), (A.eqI_f (by omega)), (A.eqI_f c3), (A.eqI_f (by omega)), (A.eqI_t c5), (A.eqI_t c5), A.len, A.len, (A.eqI_f c7), rfl, trivial⟩
            · rw [if_neg c6] at h
              obtain rfl := Option.some.inj h
              exact call_way cfg [(.sub .i64 a2 1, .i (w64 (a2 - 1))), (.ltI (w64 (a2 - 1)) 0, .b false), (.ltI 5 a1, .b false), (.eqI a0.Kind 3, .b false), (.notB false, .b true), (.len (eL e_u8 a0.S), .i ((a0.S.length : Nat) : Int)), (.ltI 0 ((a0.S.length : Nat) : Int), .b false), (.eqI a0.Kind 5, .b true), (.notB true, .b false), (.eqI a0.Kind 1, .b false), (.notB false, .b true), (.eqI a0.Kind 2, .b false), (.notB false, .b true), (.eqI a0.N 0, .b false), (.notB false, .b true)] rfl fd_71 (by kernel_rfl) ⟨rfl, (A.ltI_f c1), (A.ltI_f c2), (A.eqI_f c3), rfl, A.len, (A.ltI_f c4), (A.eqI_t c5), rfl, (A.eqI_f (by omega)), rfl, (A.eqI_f (by omega)), rfl, (A.eqI_f c6), rfl, trivial⟩
          · rw [if_neg c5] at h
            by_cases c6 : 0 < ((a0.K.length : Nat) : Int)
            · rw [if_pos c6] at h
              obtain rfl := Option.some.inj h
              exact call_way cfg [(.sub .i64 a2 1, .i (w64 (a2 - 1))), (.ltI (w64 (a2 - 1)) 0, .b false), (.ltI 5 a1, .b false), (.eqI a0.Kind 3, .b false), (.notB false, .b true), (.len (eL e_u8 a0.S), .i ((a0.S.length : Nat) : Int)), (.ltI 0 ((a0.S.length : Nat) : Int), .b false), (.eqI a0.Kind 5, .b false), (.notB false, .b true), (.len (eL (e_sl e_u8) a0.K), .i ((a0.K.length : Nat) : Int)), (.ltI 0 ((a0.K.length : Nat) : Int), .b true)] rfl fd_71 (by kernel_rfl) ⟨rfl, (A.ltI_f c1), (A.ltI_f c2), (A.eqI_f c3), rfl, A.len, (A.ltI_f c4), (A.eqI_f c5), rfl, A.len, (A.ltI_t c6), trivial⟩
            · rw [if_neg c6] at h
              by_cases c7 : a0.Kind = 1
              · rw [if_pos c7] at h
                by_cases c8 : 0 < ((a0.L.length : Nat) : Int)
                · rw [if_pos c8] at h
                  obtain rfl := Option.some.inj h
                  exact call_way cfg [(.sub .i64 a2 1, .i (w64 (a2 - 1))), (.ltI (w64 (a2 - 1)) 0, .b false), (.ltI 5 a1, .b false), (.eqI a0.Kind 3, .b false), (.notB false, .b true), (.len (eL e_u8 a0.S), .i ((a0.S.length : Nat) : Int)), (.ltI 0 ((a0.S.length : Nat) : Int), .b false), (.eqI a0.Kind 5, .b false), (.notB false, .b true), (.len (eL (e_sl e_u8) a0.K), .i ((a0.K.length : Nat) : Int)), (.ltI 0 ((a0.K.length : Nat) : Int), .b false), (.eqI a0.Kind 1, .b true), (.notB true, .b false), (.eqI a0.Kind 4, .b false), (.notB false, .b true), (.eqI a0.Kind 5, .b false), (.notB false, .b true), (.len (eL e_GValue a0.L), .i ((a0.L.length : Nat) : Int)), (.ltI 0 ((a0.L.length : Nat) : Int), .b true)] rfl fd_71 (by kernel_rfl) ⟨rfl, (A.ltI_f c1), (A.ltI_f c2), (A.eqI_f c3), rfl, A.len, (A.ltI_f c4), (A.eqI_f c5), rfl, A.len, (A.ltI_f c6), (A.eqI_t c7), rfl, (A.eqI_f (by omega)), rfl, (A.eqI_f c5), rfl, A.len, (A.ltI_t c8), trivial⟩
                · rw [if_neg c8] at h
                  by_cases c9 : a0.N < 0
                  · rw [if_pos c9] at h
                    obtain rfl := Option.some.inj h
                    exact call_way cfg [(.sub .i64 a2 1, .i (w64 (a2 - 1))), (.ltI (w64 (a2 - 1)) 0, .b false), (.ltI 5 a1, .b false), (.eqI a0.Kind 3, .b false), (.notB false, .b true), (.len (eL e_u8 a0.S), .i ((a0.S.length : Nat) : Int)), (.ltI 0 ((a0.S.length : Nat) : Int), .b false), (.eqI a0.Kind 5, .b false), (.notB false, .b true), (.len (eL (e_sl e_u8) a0.K), .i ((a0.K.length : Nat) : Int)), (.ltI 0 ((a0.K.length : Nat) : Int), .b false), (.eqI a0.Kind 1, .b true), (.notB true, .b false), (.eqI a0.Kind 4, .b false), (.notB false, .b true), (.eqI a0.Kind 5, .b false), (.notB false, .b true), (.len (eL e_GValue a0.L), .i ((a0.L.length : Nat) : Int)), (.ltI 0 ((a0.L.length : Nat) : Int), .b false), (.eqI a0.Kind 0, .b false), (.eqI a0.Kind 6, .b false), (.eqI a0.Kind 1, .b true), (.ltI a0.N 0, .b true)] rfl fd_71 (by kernel_rfl) ⟨rfl, (A.ltI_f c1), (A.ltI_f c2), (A.eqI_f c3), rfl, A.len, (A.ltI_f c4), (A.eqI_f c5), rfl, A.len, (A.ltI_f c6), (A.eqI_t c7), rfl, (A.eqI_f (by omega)), rfl, (A.eqI_f c5), rfl, A.len, (A.ltI_f c8), (A.eqI_f (by omega)), (A.eqI_f (by omega)), (A.eqI_t c7), (A.ltI_t c9), trivial⟩
                  · rw [if_neg c9] at h
                    by_cases c10 : 1 < a0.N
                    · rw [if_pos c10] at h
                      obtain rfl := Option.some.inj h
                      exact call_way cfg [(.sub .i64 a2 1, .i (w64 (a2 - 1))), (.ltI (w64 (a2 - 1)) 0, .b false), (.ltI 5 a1, .b false), (.eqI a0.Kind 3, .b false), (.notB false, .b true), (.len (eL e_u8 a0.S), .i ((a0.S.length : Nat) : Int)), (.ltI 0 ((a0.S.length : Nat) : Int), .b false), (.eqI a0.Kind 5, .b false), (.notB false, .b true), (.len (eL (e_sl e_u8) a0.K), .i ((a0.K.length : Nat) : Int)), (.ltI 0 ((a0.K.length : Nat) : Int), .b false), (.eqI a0.Kind 1, .b true), (.notB true, .b false), (.eqI a0.Kind 4, .b false), (.notB false, .b true), (.eqI a0.Kind 5, .b false), (.notB false, .b true), (.len (eL e_GValue a0.L), .i ((a0.L.length : Nat) : Int)), (.ltI 0 ((a0.L.length : Nat) : Int), .b false), (.eqI a0.Kind 0, .b false), (.eqI a0.Kind 6, .b false), (.eqI a0.Kind 1, .b true), (.ltI a0.N 0, .b false), (.ltI 1 a0.N, .b true)] rfl fd_71 (by kernel_rfl) ⟨rfl, (A.ltI_f c1), (A.ltI_f c2), (A.eqI_f c3), rfl, A.len, (A.ltI_f c4), (A.eqI_f c5), rfl, A.len, (A.ltI_f c6), (A.eqI_t c7), rfl, (A.eqI_f (by omega)), rfl, (A.eqI_f c5), rfl, A.len, (A.ltI_f c8), (A.eqI_f (by omega)), (A.eqI_f (by omega)), (A.eqI_t c7), (A.ltI_f c9), (A.ltI_t c10), trivial⟩
                    · rw [if_neg c10] at h
                      obtain rfl := Option.some.inj h
                      exact call_way cfg [(.sub .i64 a2 1, .i (w64 (a2 - 1))), (.ltI (w64 (a2 - 1)) 0, .b false), (.ltI 5 a1, .b false), (.eqI a0.Kind 3, .b false), (.notB false, .b true), (.len (eL e_u8 a0.S), .i ((a0.S.length : Nat) : Int)), (.ltI 0 ((a0.S.length : Nat) : Int), .b false), (.eqI a0.Kind 5, .b false), (.notB false, .b true), (.len (eL (e_sl e_u8) a0.K), .i ((a0.K.length : Nat) : Int)), (.ltI 0 ((a0.K.length : Nat) : Int), .b false), (.eqI a0.Kind 1, .b true), (.notB true, .b false), (.eqI a0.Kind 4, .b false), (.notB false, .b true), (.eqI a0.Kind 5, .b false), (.notB false, .b true), (.len (eL e_GValue a0.L), .i ((a0.L.length : Nat) : Int)), (.ltI 0 ((a0.L.length : Nat) : Int), .b false), (.eqI a0.Kind 0, .b false), (.eqI a0.Kind 6, .b false), (.eqI a0.Kind 1, .b true), (.ltI a0.N 0, .b false), (.ltI 1 a0.N, .b false)] rfl fd_71 (by kernel_rfl) ⟨rfl, (A.ltI_f c1), (A.ltI_f c2), (A.eqI_f c3), rfl, A.len, (A.ltI_f c4), (A.eqI_f c5), rfl, A.len, (A.ltI_f c6), (A.eqI_t c7), rfl, (A.eqI_f (by omega)), rfl, (A.eqI_f c5), rfl, A.len, (A.ltI_f c8), (A.eqI_f (by omega)), (A.eqI_f (by omega)), (A.eqI_t c7), (A.ltI_f c9), (A.ltI_f c10), trivial⟩
              · rw [if_neg c7] at h
                by_cases c8 : a0.Kind = 2
                · rw [if_pos c8] at h
                  by_cases c9 : 0 < ((a0.L.length : Nat) : Int)
                  · rw [if_pos c9] at h
                    obtain rfl := Option.some.inj h
                    exact call_way cfg [(.sub .i64 a2 1, .i (w64 (a2 - 1))), (.ltI (w64 (a2 - 1)) 0, .b false), (.ltI 5 a1, .b false), (.eqI a0.Kind 3, .b false), (.notB false, .b true), (.len (eL e_u8 a0.S), .i ((a0.S.length : Nat) : Int)), (.ltI 0 ((a0.S.length : Nat) : Int), .b false), (.eqI a0.Kind 5, .b false), (.notB false, .b true), (.len (eL (e_sl e_u8) a0.K), .i ((a0.K.length : Nat) : Int)), (.ltI 0 ((a0.K.length : Nat) : Int), .b false), (.eqI a0.Kind 1, .b false), (.notB false, .b true), (.eqI a0.Kind 2, .b true), (.notB true, .b false), (.eqI a0.Kind 4, .b false), (.notB false, .b true), (.eqI a0.Kind 5, .b false), (.notB false, .b true), (.len (eL e_GValue a0.L), .i ((a0.L.length : Nat) : Int)), (.ltI 0 ((a0.L.length : Nat) : Int), .b true)] rfl fd_71 (by kernel_rfl) ⟨rfl, (A.ltI_f c1), (A.ltI_f c2), (A.eqI_f c3), rfl, A.len, (A.ltI_f c4), (A.eqI_f c5), rfl, A.len, (A.ltI_f c6), (A.eqI_f c7), rfl, (A.eqI_t c8), rfl, (A.eqI_f (by omega)), rfl, (A.eqI_f c5), rfl, A.len, (A.ltI_t c9), trivial⟩
                  · rw [if_neg c9] at h
                    obtain ⟨r10, hr10, h⟩ := Option.bind_eq_some_iff.1 h
                    cases r10 with
                    | true =>
                      try dsimp only at h
                      obtain rfl := Option.some.inj h
                      exact call_way cfg [(.sub .i64 a2 1, .i (w64 (a2 - 1))), (.ltI (w64 (a2 - 1)) 0, .b false), (.ltI 5 a1, .b false), (.eqI a0.Kind 3, .b false), (.notB false, .b true), (.len (eL e_u8 a0.S), .i ((a0.S.length : Nat) : Int)), (.ltI 0 ((a0.S.length : Nat) : Int), .b false), (.eqI a0.Kind 5, .b false), (.notB false, .b true), (.len (eL (e_sl e_u8) a0.K), .i ((a0.K.length : Nat) : Int)), (.ltI 0 ((a0.K.length : Nat) : Int), .b false), (.eqI a0.Kind 1, .b false), (.notB false, .b true), (.eqI a0.Kind 2, .b true), (.notB true, .b false), (.eqI a0.Kind 4, .b false), (.notB false, .b true), (.eqI a0.Kind 5, .b false), (.notB false, .b true), (.len (eL e_GValue a0.L), .i ((a0.L.length : Nat) : Int)), (.ltI 0 ((a0.L.length : Nat) : Int), .b false), (.eqI a0.Kind 0, .b false), (.eqI a0.Kind 6, .b false), (.eqI a0.Kind 1, .b false), (.eqI a0.Kind 2, .b true), (.call 107 [] [.val false [.int .i64 a0.N]], .r (.val false [.bool true]) []), (.notB true, .b false)] rfl fd_71 (by kernel_rfl) ⟨rfl, (A.ltI_f c1), (A.ltI_f c2), (A.eqI_f c3), rfl, A.len, (A.ltI_f c4), (A.eqI_f c5), rfl, A.len, (A.ltI_f c6), (A.eqI_f c7), rfl, (A.eqI_t c8), rfl, (A.eqI_f (by omega)), rfl, (A.eqI_f c5), rfl, A.len, (A.ltI_f c9), (A.eqI_f (by omega)), (A.eqI_f (by omega)), (A.eqI_f c7), (A.eqI_t c8), (A.call (ok_spec_l2int a0.N _ hr10)), rfl, trivial⟩
                    | false =>
                      try dsimp only at h
                      obtain rfl := Option.some.inj h
                      exact call_way cfg [(.sub .i64 a2 1, .i (w64 (a2 - 1))), (.ltI (w64 (a2 - 1)) 0, .b false), (.ltI 5 a1, .b false), (.eqI a0.Kind 3, .b false), (.notB false, .b true), (.len (eL e_u8 a0.S), .i ((a0.S.length : Nat) : Int)), (.ltI 0 ((a0.S.length : Nat) : Int), .b false), (.eqI a0.Kind 5, .b false), (.notB false, .b true), (.len (eL (e_sl e_u8) a0.K), .i ((a0.K.length : Nat) : Int)), (.ltI 0 ((a0.K.length : Nat) : Int), .b false), (.eqI a0.Kind 1, .b false), (.notB false, .b true), (.eqI a0.Kind 2, .b true), (.notB true, .b false), (.eqI a0.Kind 4, .b false), (.notB false, .b true), (.eqI a0.Kind 5, .b false), (.notB false, .b true), (.len (eL e_GValue a0.L), .i ((a0.L.length : Nat) : Int)), (.ltI 0 ((a0.L.length : Nat) : Int), .b false), (.eqI a0.Kind 0, .b false), (.eqI a0.Kind 6, .b false), (.eqI a0.Kind 1, .b false), (.eqI a0.Kind 2, .b true), (.call 107 [] [.val false [.int .i64 a0.N]], .r (.val false [.bool false]) []), (.notB false, .b true)] rfl fd_71 (by kernel_rfl) ⟨rfl, (A.ltI_f c1), (A.ltI_f c2), (A.eqI_f c3), rfl, A.len, (A.ltI_f c4), (A.eqI_f c5), rfl, A.len, (A.ltI_f c6), (A.eqI_f c7), rfl, (A.eqI_t c8), rfl, (A.eqI_f (by omega)), rfl, (A.eqI_f c5), rfl, A.len, (A.ltI_f c9), (A.eqI_f (by omega)), (A.eqI_f (by omega)), (A.eqI_f c7), (A.eqI_t c8), (A.call (ok_spec_l2int a0.N _ hr10)), rfl, trivial⟩
                · rw [if_neg c8] at h
                  by_cases c9 : a0.N = 0
                  · rw [if_pos c9] at h
                    by_cases c10 : a0.Kind = 4
                    · rw [if_pos c10] at h
                      obtain ⟨o11, ho11, h⟩ := Option.bind_eq_some_iff.1 h
                      rcases o11 with o11_0 | ⟨o11_1_0, o11_1_1⟩
                      · try dsimp only at h
                        obtain rfl := Option.some.inj h
                        exact call_way cfg [(.sub .i64 a2 1, .i (w64 (a2 - 1))), (.ltI (w64 (a2 - 1)) 0, .b false), (.ltI 5 a1, .b false), (.eqI a0.Kind 3, .b false), (.notB false, .b true), (.len (eL e_u8 a0.S), .i ((a0.S.length : Nat) : Int)), (.ltI 0 ((a0.S.length : Nat) : Int), .b false), (.eqI a0.Kind 5, .b false), (.notB false, .b true), (.len (eL (e_sl e_u8) a0.K), .i ((a0.K.length : Nat) : Int)), (.ltI 0 ((a0.K.length : Nat) : Int), .b false), (.eqI a0.Kind 1, .b false), (.notB false, .b true), (.eqI a0.Kind 2, .b false), (.notB false, .b true), (.eqI a0.N 0, .b true), (.notB true, .b false), (.eqI a0.Kind 4, .b true), (.notB true, .b false), (.eqI a0.Kind 0, .b false), (.eqI a0.Kind 6, .b false), (.eqI a0.Kind 1, .b false), (.eqI a0.Kind 2, .b false), (.eqI a0.Kind 3, .b false), (.eqI a0.Kind 4, .b true), (.eqI a0.Kind 5, .b false), (.loop 71 (loopB Try.f71 0) ⟨[(1, .val false [.int .i64 a1]), (2, .val false [.int .i64 (w64 (a2 - 1))]), (3, .val false [.ptr 0 0]), (7, .val false [.int .i64 0])], [.var [.int .i64 a0.Kind, .int .i64 a0.N, .seq (eL e_u8 a0.S), .seq (eL (e_sl e_u8) a0.K), .seq (eL e_GValue a0.L)]], 0⟩, .x (.ret) ⟨[(6, .val false [.int .i64 o11_0])], [], 0⟩)] rfl fd_71 (by kernel_rfl) ⟨rfl, (A.ltI_f c1), (A.ltI_f c2), (A.eqI_f c3), rfl, A.len, (A.ltI_f c4), (A.eqI_f c5), rfl, A.len, (A.ltI_f c6), (A.eqI_f c7), rfl, (A.eqI_f c8), rfl, (A.eqI_t c9), rfl, (A.eqI_t c10), rfl, (A.eqI_f (by omega)), (A.eqI_f (by omega)), (A.eqI_f c7), (A.eqI_f c8), (A.eqI_f c3), (A.eqI_t c10), (A.eqI_f c5), (A.loop (gl_spec_l2ok_l0 G_spec_l2ok H_spec_l2ok a1 a0 _ (w64 (a2 - 1)) 0 _ ho11)), trivial⟩
                      · try dsimp only at h
                        obtain rfl := Option.some.inj h
                        exact call_way cfg [(.sub .i64 a2 1, .i (w64 (a2 - 1))), (.ltI (w64 (a2 - 1)) 0, .b false), (.ltI 5 a1, .b false), (.eqI a0.Kind 3, .b false), (.notB false, .b true), (.len (eL e_u8 a0.S), .i ((a0.S.length : Nat) : Int)), (.ltI 0 ((a0.S.length : Nat) : Int), .b false), (.eqI a0.Kind 5, .b false), (.notB false, .b true), (.len (eL (e_sl e_u8) a0.K), .i ((a0.K.length : Nat) : Int)), (.ltI 0 ((a0.K.length : Nat) : Int), .b false), (.eqI a0.Kind 1, .b false), (.notB false, .b true), (.eqI a0.Kind 2, .b false), (.notB false, .b true), (.eqI a0.N 0, .b true), (.notB true, .b false), (.eqI a0.Kind 4, .b true), (.notB true, .b false), (.eqI a0.Kind 0, .b false), (.eqI a0.Kind 6, .b false), (.eqI a0.Kind 1, .b false), (.eqI a0.Kind 2, .b false), (.eqI a0.Kind 3, .b false), (.eqI a0.Kind 4, .b true), (.eqI a0.Kind 5, .b false), (.loop 71 (loopB Try.f71 0) ⟨[(1, .val false [.int .i64 a1]), (2, .val false [.int .i64 (w64 (a2 - 1))]), (3, .val false [.ptr 0 0]), (7, .val false [.int .i64 0])], [.var [.int .i64 a0.Kind, .int .i64 a0.N, .seq (eL e_u8 a0.S), .seq (eL (e_sl e_u8) a0.K), .seq (eL e_GValue a0.L)]], 0⟩, .x (.exit 1) ⟨[(1, .val false [.int .i64 a1]), (2, .val false [.int .i64 o11_1_0]), (3, .val false [.ptr 0 0]), (7, .val false [.int .i64 o11_1_1]), (117, .val false [.bool false])], [.var [.int .i64 a0.Kind, .int .i64 a0.N, .seq (eL e_u8 a0.S), .seq (eL (e_sl e_u8) a0.K), .seq (eL e_GValue a0.L)]], 0⟩)] rfl fd_71 (by kernel_rfl) ⟨rfl, (A.ltI_f c1), (A.ltI_f c2), (A.eqI_f c3), rfl, A.len, (A.ltI_f c4), (A.eqI_f c5), rfl, A.len, (A.ltI_f c6), (A.eqI_f c7), rfl, (A.eqI_f c8), rfl, (A.eqI_t c9), rfl, (A.eqI_t c10), rfl, (A.eqI_f (by omega)), (A.eqI_f (by omega)), (A.eqI_f c7), (A.eqI_f c8), (A.eqI_f c3), (A.eqI_t c10), (A.eqI_f c5), (A.loop (gl_spec_l2ok_l0 G_spec_l2ok H_spec_l2ok a1 a0 _ (w64 (a2 - 1)) 0 _ ho11)), trivial⟩
                    · rw [if_neg c10] at h
                      by_cases c11 : 0 < ((a0.L.length : Nat) : Int)
                      · rw [if_pos c11] at h
                        obtain rfl := Option.some.inj h
                        exact call_way cfg [(.sub .i64 a2 1, .i (w64 (a2 - 1))), (.ltI (w64 (a2 - 1)) 0, .b false), (.ltI 5 a1, .b false), (.eqI a0.Kind 3, .b false), (.notB false, .b true), (.len (eL e_u8 a0.S), .i ((a0.S.length : Nat) : Int)), (.ltI 0 ((a0.S.length : Nat) : Int), .b false), (.eqI a0.Kind 5, .b false), (.notB false, .b true), (.len (eL (e_sl e_u8) a0.K), .i ((a0.K.length : Nat) : Int)), (.ltI 0 ((a0.K.length : Nat) : Int), .b false), (.eqI a0.Kind 1, .b false), (.notB false, .b true), (.eqI a0.Kind 2, .b false), (.notB false, .b true), (.eqI a0.N 0, .b true), (.notB true, .b false), (.eqI a0.Kind 4, .b false), (.notB false, .b true), (.eqI a0.Kind 5, .b false), (.notB false, .b true), (.len (eL e_GValue a0.L), .i ((a0.L.length : Nat) : Int)), (.ltI 0 ((a0.L.length : Nat) : Int), .b true)] rfl fd_71 (by kernel_rfl) ⟨rfl, (A.ltI_f c1), (A.ltI_f c2), (A.eqI_f c3), rfl, A.len, (A.ltI_f c4), (A.eqI_f c5), rfl, A.len, (A.ltI_f c6), (A.eqI_f c7), rfl, (A.eqI_f c8), rfl, (A.eqI_t c9), rfl, (A.eqI_f c10), rfl, (A.eqI_f c5), rfl, A.len, (A.ltI_t c11), trivial⟩
                      · rw [if_neg c11] at h
                        by_cases c12 : a0.Kind = 0
                        · rw [if_pos c12] at h
                          obtain rfl := Option.some.inj h
                          exact call_way cfg [(.sub .i64 a2 1, .i (w64 (a2 - 1))), (.ltI (w64 (a2 - 1)) 0, .b false), (.ltI 5 a1, .b false), (.eqI a0.Kind 3, .b false), (.notB false, .b true), (.len (eL e_u8 a0.S), .i ((a0.S.length : Nat) : Int)), (.ltI 0 ((a0.S.length : Nat) : Int), .b false), (.eqI a0.Kind 5, .b false), (.notB false, .b true), (.len (eL (e_sl e_u8) a0.K), .i ((a0.K.length : Nat) : Int)), (.ltI 0 ((a0.K.length : Nat) : Int), .b false), (.eqI a0.Kind 1, .b false), (.notB false, .b true), (.eqI a0.Kind 2, .b false), (.notB false, .b true), (.eqI a0.N 0, .b true), (.notB true, .b false), (.eqI a0.Kind 4, .b false), (.notB false, .b true), (.eqI a0.Kind 5, .b false), (.notB false, .b true), (.len (eL e_GValue a0.L), .i ((a0.L.length : Nat) : Int)), (.ltI 0 ((a0.L.length : Nat) : Int), .b false), (.eqI a0.Kind 0, .b true)] rfl fd_71 (by kernel_rfl) ⟨rfl, (A.ltI_f c1), (A.ltI_f c2), (A.eqI_f c3), rfl, A.len, (A.ltI_f c4), (A.eqI_f c5), rfl, A.len, (A.ltI_f c6), (A.eqI_f c7), rfl, (A.eqI_f c8), rfl, (A.eqI_t c9), rfl, (A.eqI_f c10), rfl, (A.eqI_f c5), rfl, A.len, (A.ltI_f c11), (A.eqI_t c12), trivial⟩
                        · rw [if_neg c12] at h
                          by_cases c13 : a0.Kind = 6
                          · rw [if_pos c13] at h
                            obtain rfl := Option.some.inj h
                            exact call_way cfg [(.sub .i64 a2 1, .i (w64 (a2 - 1))), (.ltI (w64 (a2 - 1)) 0, .b false), (.ltI 5 a1, .b false), (.eqI a0.Kind 3, .b false), (.notB false, .b true), (.len (eL e_u8 a0.S), .i ((a0.S.length : Nat) : Int)), (.ltI 0 ((a0.S.length : Nat) : Int), .b false), (.eqI a0.Kind 5, .b false), (.notB false, .b true), (.len (eL (e_sl e_u8) a0.K), .i ((a0.K.length : Nat) : Int)), (.ltI 0 ((a0.K.length : Nat) : Int), .b false), (.eqI a0.Kind 1, .b false), (.notB false, .b true), (.eqI a0.Kind 2, .b false), (.notB false, .b true), (.eqI a0.N 0, .b true), (.notB true, .b false), (.eqI a0.Kind 4, .b false), (.notB false, .b true), (.eqI a0.Kind 5, .b false), (.notB false, .b true), (.len (eL e_GValue a0.L), .i ((a0.L.length : Nat) : Int)), (.ltI 0 ((a0.L.length : Nat) : Int), .b false), (.eqI a0.Kind 0, .b false), (.eqI a0.Kind 6, .b true)] rfl fd_71 (by kernel_rfl) ⟨rfl, (A.ltI_f c1), (A.ltI_f c2), (A.eqI_f c3), rfl, A.len, (A.ltI_f c4), (A.eqI_f c5), rfl, A.len, (A.ltI_f c6), (A.eqI_f c7), rfl, (A.eqI_f c8), rfl, (A.eqI_t c9), rfl, (A.eqI_f c10), rfl, (A.eqI_f c5), rfl, A.len, (A.ltI_f c11), (A.eqI_f c12), (A.eqI_t c13), trivial⟩
                          · rw [if_neg c13] at h
                            obtain rfl := Option.some.inj h
                            exact call_way cfg [(.sub .i64 a2 1, .i (w64 (a2 - 1))), (.ltI (w64 (a2 - 1)) 0, .b false), (.ltI 5 a1, .b false), (.eqI a0.Kind 3, .b false), (.notB false, .b true), (.len (eL e_u8 a0.S), .i ((a0.S.length : Nat) : Int)), (.ltI 0 ((a0.S.length : Nat) : Int), .b false), (.eqI a0.Kind 5, .b false), (.notB false, .b true), (.len (eL (e_sl e_u8) a0.K), .i ((a0.K.length : Nat) : Int)), (.ltI 0 ((a0.K.length : Nat) : Int), .b false), (.eqI a0.Kind 1, .b false), (.notB false, .b true), (.eqI a0.Kind 2, .b false), (.notB false, .b true), (.eqI a0.N 0, .b true), (.notB true, .b false), (.eqI a0.Kind 4, .b false), (.notB false, .b true), (.eqI a0.Kind 5, .b false), (.notB false, .b true), (.len (eL e_GValue a0.L), .i ((a0.L.length : Nat) : Int)), (.ltI 0 ((a0.L.length : Nat) : Int), .b false), (.eqI a0.Kind 0, .b false), (.eqI a0.Kind 6, .b false), (.eqI a0.Kind 1, .b false), (.eqI a0.Kind 2, .b false), (.eqI a0.Kind 3, .b false), (.eqI a0.Kind 4, .b false), (.eqI a0.Kind 5, .b false)] rfl fd_71 (by kernel_rfl) ⟨rfl, (A.ltI_f c1), (A.ltI_f c2), (A.eqI_f c3), rfl, A.len, (A.ltI_f c4), (A.eqI_f c5), rfl, A.len, (A.ltI_f c6), (A.eqI_f c7), rfl, (A.eqI_f c8), rfl, (A.eqI_t c9), rfl, (A.eqI_f c10), rfl, (A.eqI_f c5), rfl, A.len, (A.ltI_f c11), (A.eqI_f c12), (A.eqI_f c13), (A.eqI_f c7), (A.eqI_f c8), (A.eqI_f c3), (A.eqI_f c10), (A.eqI_f c5), trivial⟩
                  · rw [if_neg c9] at h
                    obtain rfl := Option.some.inj h
                    exact call_way cfg [(.sub .i64 a2 1, .i (w64 (a2 - 1))), (.ltI (w64 (a2 - 1)) 0, .b false), (.ltI 5 a1, .b false), (.eqI a0.Kind 3, .b false), (.notB false, .b true), (.len (eL e_u8 a0.S), .i ((a0.S.length : Nat) : Int)), (.ltI 0 ((a0.S.length : Nat) : Int), .b false), (.eqI a0.Kind 5, .b false), (.notB false, .b true), (.len (eL (e_sl e_u8) a0.K), .i ((a0.K.length : Nat) : Int)), (.ltI 0 ((a0.K.length : Nat) : Int), .b false), (.eqI a0.Kind 1, .b false), (.notB false, .b true), (.eqI a0.Kind 2, .b false), (.notB false, .b true), (.eqI a0.N 0, .b false), (.notB false, .b true)] rfl fd_71 (by kernel_rfl) ⟨rfl, (A.ltI_f c1), (A.ltI_f c2), (A.eqI_f c3), rfl, A.len, (A.ltI_f c4), (A.eqI_f c5), rfl, A.len, (A.ltI_f c6), (A.eqI_f c7), rfl, (A.eqI_f c8), rfl, (A.eqI_f c9), rfl, trivial⟩

def U_spec_l2ok : Nat → GValue → Int → Int → Option Int
  | 0, _, _, _ => none
  | n + 1, a0, a1, a2 => T_spec_l2ok (U_spec_l2ok n) n a0 a1 a2
theorem rec_spec_l2ok (n : Nat) : (∀ (a0 : GValue) (a1 : Int) (a2 : Int) (r : Int), U_spec_l2ok n a0 a1 a2 = some r → (mach cfg).call 71 [] [.val true [.int .i64 a0.Kind, .int .i64 a0.N, .seq (eL e_u8 a0.S), .seq (eL (e_sl e_u8) a0.K), .seq (eL e_GValue a0.L)], .val false [.int .i64 a1], .val false [.int .i64 a2]] = some (.val false [.int .i64 r], [])) := by
  induction n with
  | zero => exact fun _ _ _ _ h => (by rw [U_spec_l2ok] at h; cases h)
  | succ n ih =>
    have ih_spec_l2ok := ih
    exact fun a0 a1 a2 r h => g_spec_l2ok (U_spec_l2ok n) ih_spec_l2ok n a0 a1 a2 r (by rw [U_spec_l2ok] at h; exact h)
/-- What is left of so many parts behind a value. -/
def okV (d : Nat) (left : Int) (v : GValue) : Int := if shV d v = true ∧ (ptV v : Int) ≤ left then left - ptV v else -1
theorem nameOk_eq {a : List UInt8} (h : a.length ≤ 2 ^ 20) : S_spec_NameOk a = some (nameB a) := if_pos h
theorem l2text_eq {a : List UInt8} (h : a.length ≤ 2 ^ 20) : S_spec_l2text a = some (textB a) := if_pos h
theorem l2int_eq (n : Int) : S_spec_l2int n = some (decide (-1000000000000 ≤ n ∧ n ≤ 1000000000000)) := by
  unfold S_spec_l2int
  by_cases h : (-1000000000000 : Int) ≤ n
  · rw [if_pos h]; simp [h]
  · rw [if_neg h]; simp [h]
theorem l2ok_loop {G : GValue → Int → Int → Option Int} {v : GValue} {dd : Nat} {deep : Int} (hdd : deep + dd = 5) (h1d : 1 ≤ deep) (hs : vsz v ≤ 2 ^ 20) (hk : v.Kind = 4 ∨ (v.Kind = 5 ∧ v.K.length = v.L.length))
    (hG : ∀ x ∈ v.L, ∀ r : Int, 0 ≤ r → r ≤ 40 → G x (deep + 1) r = some (okV dd r x)) : ∀ (d i m : Nat) (r : Int), i + d = v.L.length → d < m → 0 ≤ r → r ≤ 40 →
    ∃ z, L_spec_l2ok_l0 G deep v m r (i : Int) = some (if ((v.Kind = 5 → kAll v.K i d = true) ∧ (v.L.drop i).all (shV dd) = true) ∧ (ptVs (v.L.drop i) : Int) ≤ r then .inr (r - ptVs (v.L.drop i), z) else .inl (-1)) := by
  have he := vsz_eq v
  have hl := vszs_len v.L
  intro d
  induction d with
  | zero =>
    intro i m r hi hm h0 h1
    obtain ⟨m, rfl, _⟩ := fuel hm
    refine ⟨(i : Int), ?_⟩
    rw [L_spec_l2ok_l0, if_neg (by omega), List.drop_eq_nil_of_le (by omega), if_pos ⟨⟨fun _ => rfl, rfl⟩, by simpa [ptVs] using h0⟩]
    simp [ptVs]
  | succ d ih =>
    intro i m r hi hm h0 h1
    obtain ⟨m, rfl, hm'⟩ := fuel hm
    have hil : i < v.L.length := by omega
    have hp : ptVs (v.L.drop i) = ptV v.L[i] + ptVs (v.L.drop (i + 1)) := by rw [drop_cons hil]; simp only [ptVs]
    have ha : (v.L.drop i).all (shV dd) = (shV dd v.L[i] && (v.L.drop (i + 1)).all (shV dd)) := by rw [drop_cons hil, List.all_cons]
    have hd1 : w64 (deep + 1) = deep + 1 := w64_id (by omega) (by omega)
    have tail : (v.Kind = 5 → kOk v.K i = true) → ∃ z, ((G v.L[i] (w64 (deep + 1)) r).bind fun r12 => if r12 < 0 then some (.inl (-1)) else L_spec_l2ok_l0 G deep v m r12 (w64 ((i : Int) + 1))) =
        some (if ((v.Kind = 5 → kAll v.K i (d + 1) = true) ∧ (v.L.drop i).all (shV dd) = true) ∧ (ptVs (v.L.drop i) : Int) ≤ r then .inr (r - ptVs (v.L.drop i), z) else .inl (-1)) := by
      intro hki
      rw [hd1, hG _ (List.getElem_mem hil) r h0 h1, Option.bind_some, w64_succ (by omega), hp, ha]
      unfold okV
      by_cases hc : shV dd v.L[i] = true ∧ (ptV v.L[i] : Int) ≤ r
      · rw [if_pos hc, if_neg (by omega)]
        obtain ⟨z, hz⟩ := ih (i + 1) m (r - ptV v.L[i]) (by omega) (by omega) (by omega) (by omega)
        refine ⟨z, ?_⟩
        rw [hz, hc.1, Bool.true_and]
        have hcond : (((v.Kind = 5 → kAll v.K (i + 1) d = true) ∧ (v.L.drop (i + 1)).all (shV dd) = true) ∧ (ptVs (v.L.drop (i + 1)) : Int) ≤ r - ptV v.L[i]) ↔
            (((v.Kind = 5 → kAll v.K i (d + 1) = true) ∧ (v.L.drop (i + 1)).all (shV dd) = true) ∧ ((ptV v.L[i] + ptVs (v.L.drop (i + 1)) : Nat) : Int) ≤ r) := by
          have hka : (v.Kind = 5 → kAll v.K (i + 1) d = true) ↔ (v.Kind = 5 → kAll v.K i (d + 1) = true) := by
            constructor
            · intro h hk; rw [kAll_succ, hki hk, h hk]; rfl
            · intro h hk; have := h hk; rw [kAll_succ, hki hk, Bool.true_and] at this; exact this
          rw [hka]
          constructor
          · rintro ⟨h1, h2⟩; exact ⟨h1, by omega⟩
          · rintro ⟨h1, h2⟩; exact ⟨h1, by omega⟩
        by_cases hd : ((v.Kind = 5 → kAll v.K (i + 1) d = true) ∧ (v.L.drop (i + 1)).all (shV dd) = true) ∧ (ptVs (v.L.drop (i + 1)) : Int) ≤ r - ptV v.L[i]
        · rw [if_pos hd, if_pos (hcond.1 hd)]; congr 3; omega
        · rw [if_neg hd, if_neg (fun h => hd (hcond.2 h))]
      · refine ⟨0, ?_⟩
        rw [if_neg hc, if_pos (by omega), if_neg]
        rintro ⟨⟨_, h2⟩, h3⟩
        rw [Bool.and_eq_true] at h2
        exact hc ⟨h2.1, by omega⟩
    have bad : v.Kind = 5 → kOk v.K i = false → ∃ z, (some (.inl (-1)) : Option (Int ⊕ (Int × Int))) = some (if ((v.Kind = 5 → kAll v.K i (d + 1) = true) ∧ (v.L.drop i).all (shV dd) = true) ∧ (ptVs (v.L.drop i) : Int) ≤ r then .inr (r - ptVs (v.L.drop i), z) else .inl (-1)) := by
      intro hk hki
      refine ⟨0, ?_⟩
      rw [if_neg]
      rintro ⟨⟨h1, _⟩, _⟩
      have := h1 hk
      rw [kAll_succ, hki] at this
      cases this
    rw [L_spec_l2ok_l0, if_pos (by omega)]
    rcases hk with hk | ⟨hk, hkl⟩
    · rw [if_neg (by omega), natO_nat, Option.bind_some, get_some hil, Option.bind_some]
      exact tail fun h => by omega
    · have hik : i < v.K.length := by omega
      have hx := bsz_mem (List.getElem_mem hik)
      rw [if_pos hk, natO_nat, Option.bind_some, get_some hik, Option.bind_some, nameOk_eq (by omega), Option.bind_some]
      cases hnm : nameB v.K[i] with
      | false =>
        dsimp only
        refine bad hk ?_
        by_cases h0 : i = 0
        · subst h0; rw [kOk_zero hik, hnm]
        · rw [kOk_eq hik (by omega), hnm]; rfl
      | true =>
        dsimp only
        by_cases h0 : 0 < i
        · rw [if_pos (by omega), w64_pred (by omega) h0, natO_nat, Option.bind_some, get_some (show i - 1 < v.K.length by omega), Option.bind_some]
          by_cases hb : Op.bytesLess (v.K[i - 1]'(by omega)) v.K[i] = true
          · rw [if_pos hb, get_some hil, Option.bind_some]
            exact tail fun _ => by rw [kOk_eq hik h0, hnm, hb]; rfl
          · rw [if_neg hb]
            refine bad hk ?_
            rw [kOk_eq hik h0, hnm]; simpa using hb
        · have : i = 0 := by omega
          subst this
          rw [if_neg (by omega), get_some hil, Option.bind_some]
          exact tail fun _ => by rw [kOk_zero hik, hnm]
theorem l2ok_T {G : GValue → Int → Int → Option Int} {v : GValue} {f dd : Nat} {deep left : Int} (hdd : deep + dd = 5 ∨ (deep = 6 ∧ dd = 0)) (h1d : 1 ≤ deep) (hs : vsz v ≤ 2 ^ 20) (hf : v.L.length < f) (h0 : 0 ≤ left) (h1 : left ≤ 40)
    (hG : deep ≤ 5 → ∀ x ∈ v.L, ∀ r : Int, 0 ≤ r → r ≤ 40 → G x (deep + 1) r = some (okV dd r x)) : T_spec_l2ok G f v deep left = some (okV (if deep ≤ 5 then dd + 1 else 0) left v) := by
  have he := vsz_eq v
  have hl := vszs_len v.L
  have hpt := ptV_eq v
  have hpl := ptVs_len v.L
  unfold T_spec_l2ok
  rw [w64_id (by omega) (by omega)]
  by_cases hleft : left - 1 < 0
  · rw [if_pos hleft]
    unfold okV; rw [if_neg (by rintro ⟨_, h⟩; omega)]
  rw [if_neg hleft]
  by_cases hdeep : 5 < deep
  · rw [if_pos hdeep, if_neg (show ¬ deep ≤ 5 by omega)]
    unfold okV; rw [if_neg (by rintro ⟨h, _⟩; simp [shV] at h)]
  rw [if_neg hdeep, if_pos (show deep ≤ 5 by omega)]
  have hdd : deep + dd = 5 := by omega
  have hG := hG (by omega)
  unfold okV
  simp only [shV]
  have fin0 : v.L.length = 0 → (v.L.all (shV dd) = true ∧ ptV v = 1) := fun h => by
    have : v.L = [] := List.eq_nil_of_length_eq_zero h
    rw [hpt, this]; exact ⟨rfl, rfl⟩
  have yes : locV v = true → v.L.length = 0 → some (left - 1) = some (if (locV v && v.L.all (shV dd)) = true ∧ (ptV v : Int) ≤ left then left - ptV v else -1) := fun h1 h2 => by
    obtain ⟨a1, a2⟩ := fin0 h2
    rw [h1, a1, a2, if_pos ⟨rfl, by omega⟩]; rfl
  have no : locV v = false → some (-1) = some (if (locV v && v.L.all (shV dd)) = true ∧ (ptV v : Int) ≤ left then left - ptV v else -1) := fun h1 => by
    rw [h1, if_neg (by rintro ⟨h, _⟩; cases h)]
  have lp : v.Kind = 4 ∨ (v.Kind = 5 ∧ v.K.length = v.L.length) → (∀ b : Bool, v.L.length ≤ 40 → ((v.Kind = 5 → kAll v.K 0 v.L.length = true) ↔ b = true) → locV v = b) → ((L_spec_l2ok_l0 G deep v f (left - 1) 0).bind fun o8 => match o8 with | .inl o8_0 => some o8_0 | .inr (⟨o8_1_0, o8_1_1⟩) => some o8_1_0) =
      some (if (locV v && v.L.all (shV dd)) = true ∧ (ptV v : Int) ≤ left then left - ptV v else -1) := fun hk hloc => by
    obtain ⟨z, hz⟩ := l2ok_loop (G := G) hdd h1d hs hk hG v.L.length 0 f (left - 1) (by omega) (by omega) (by omega) (by omega)
    rw [show ((0 : Nat) : Int) = 0 from rfl, List.drop_zero] at hz
    rw [hz, Option.bind_some]
    by_cases hc : ((v.Kind = 5 → kAll v.K 0 v.L.length = true) ∧ v.L.all (shV dd) = true) ∧ (ptVs v.L : Int) ≤ left - 1
    · rw [if_pos hc]
      have h40 : v.L.length ≤ 40 := by omega
      have := hloc true h40 ⟨fun _ => rfl, fun _ => hc.1.1⟩
      rw [this, hc.1.2, if_pos ⟨rfl, by omega⟩, hpt]
      dsimp only
      congr 1; omega
    · rw [if_neg hc, if_neg]
      rintro ⟨h2, h3⟩
      rw [Bool.and_eq_true] at h2
      refine hc ⟨⟨?_, h2.2⟩, by omega⟩
      by_cases h40 : v.L.length ≤ 40
      · by_cases hb : (v.Kind = 5 → kAll v.K 0 v.L.length = true)
        · exact hb
        · have := hloc false h40 ⟨fun h => (hb h).elim, fun h => by cases h⟩
          rw [this] at h2; cases h2.1
      · omega
  have hloc : ∀ k, v.Kind = k → locV v = (if k = 0 ∨ k = 6 then decide (v.N = 0 ∧ v.S.length = 0 ∧ v.K.length = 0 ∧ v.L.length = 0)
      else if k = 1 then decide ((0 ≤ v.N ∧ v.N ≤ 1) ∧ v.S.length = 0 ∧ v.K.length = 0 ∧ v.L.length = 0)
      else if k = 2 then decide ((-1000000000000 ≤ v.N ∧ v.N ≤ 1000000000000) ∧ v.S.length = 0 ∧ v.K.length = 0 ∧ v.L.length = 0)
      else if k = 3 then textB v.S && decide (v.N = 0 ∧ v.K.length = 0 ∧ v.L.length = 0)
      else if k = 4 then decide (v.N = 0 ∧ v.S.length = 0 ∧ v.K.length = 0 ∧ v.L.length ≤ 40)
      else if k = 5 then decide (v.K.length = v.L.length ∧ v.N = 0 ∧ v.S.length = 0 ∧ v.L.length ≤ 40) && kAll v.K 0 v.K.length
      else false) := fun k hk => by unfold locV; rw [hk]
  by_cases k3 : v.Kind = 3
  · have hv := hloc 3 k3
    simp only [show ¬ ((3 : Int) = 0 ∨ (3 : Int) = 6) by omega, if_false, show ¬ ((3 : Int) = 1) by omega, show ¬ ((3 : Int) = 2) by omega, if_true] at hv
    rw [if_pos k3]
    by_cases a1 : 0 < ((v.K.length : Nat) : Int)
    · rw [if_pos a1]; exact no (by rw [hv, decide_eq_false (by omega)]; simp)
    · rw [if_neg a1]
      by_cases a2 : v.N = 0
      · rw [if_pos a2]
        by_cases a3 : 0 < ((v.L.length : Nat) : Int)
        · rw [if_pos a3]; exact no (by rw [hv, decide_eq_false (by omega)]; simp)
        · rw [if_neg a3, l2text_eq (by omega), Option.bind_some]
          rw [decide_eq_true (by omega), Bool.and_true] at hv
          cases ht : textB v.S with
          | true => exact yes (by rw [hv, ht]) (by omega)
          | false => exact no (by rw [hv, ht])
      · rw [if_neg a2]; exact no (by rw [hv, decide_eq_false (by omega)]; simp)
  rw [if_neg k3]
  by_cases hS : 0 < ((v.S.length : Nat) : Int)
  · rw [if_pos hS]
    refine no ?_
    unfold locV
    simp only [k3, if_false]
    repeat' split
    all_goals first | rfl | (rw [decide_eq_false (by omega)]; try rfl)
  rw [if_neg hS]
  by_cases k5 : v.Kind = 5
  · have hv := hloc 5 k5
    simp only [show ¬ ((5 : Int) = 0 ∨ (5 : Int) = 6) by omega, if_false, show ¬ ((5 : Int) = 1) by omega, show ¬ ((5 : Int) = 2) by omega, show ¬ ((5 : Int) = 3) by omega, show ¬ ((5 : Int) = 4) by omega, if_true] at hv
    rw [if_pos k5]
    by_cases a2 : v.N = 0
    · rw [if_pos a2]
      by_cases a3 : ((v.K.length : Nat) : Int) = ((v.L.length : Nat) : Int)
      · rw [if_pos a3]
        refine lp (.inr ⟨k5, by omega⟩) fun b h40 hb => ?_
        rw [hv, decide_eq_true (by omega), Bool.true_and, show v.K.length = v.L.length by omega, Bool.eq_iff_iff, ← hb]
        exact ⟨fun h _ => h, fun h => h k5⟩
      · rw [if_neg a3]; exact no (by rw [hv, decide_eq_false (by omega)]; rfl)
    · rw [if_neg a2]; exact no (by rw [hv, decide_eq_false (by omega)]; rfl)
  rw [if_neg k5]
  by_cases hK : 0 < ((v.K.length : Nat) : Int)
  · rw [if_pos hK]
    refine no ?_
    unfold locV
    simp only [k3, k5, if_false]
    repeat' split
    all_goals first | rfl | (rw [decide_eq_false (by omega)]; try rfl)
  rw [if_neg hK]
  by_cases k1 : v.Kind = 1
  · have hv := hloc 1 k1
    simp only [show ¬ ((1 : Int) = 0 ∨ (1 : Int) = 6) by omega, if_false, if_true] at hv
    rw [if_pos k1]
    by_cases a3 : 0 < ((v.L.length : Nat) : Int)
    · rw [if_pos a3]; exact no (by rw [hv, decide_eq_false (by omega)])
    · rw [if_neg a3]
      by_cases a4 : v.N < 0
      · rw [if_pos a4]; exact no (by rw [hv, decide_eq_false (by omega)])
      · rw [if_neg a4]
        by_cases a5 : 1 < v.N
        · rw [if_pos a5]; exact no (by rw [hv, decide_eq_false (by omega)])
        · rw [if_neg a5]; exact yes (by rw [hv, decide_eq_true (by omega)]) (by omega)
  rw [if_neg k1]
  by_cases k2 : v.Kind = 2
  · have hv := hloc 2 k2
    simp only [show ¬ ((2 : Int) = 0 ∨ (2 : Int) = 6) by omega, if_false, show ¬ ((2 : Int) = 1) by omega, if_true] at hv
    rw [if_pos k2]
    by_cases a3 : 0 < ((v.L.length : Nat) : Int)
    · rw [if_pos a3]; exact no (by rw [hv, decide_eq_false (by omega)])
    · rw [if_neg a3, l2int_eq, Option.bind_some]
      by_cases a4 : -1000000000000 ≤ v.N ∧ v.N ≤ 1000000000000
      · rw [decide_eq_true a4]; exact yes (by rw [hv, decide_eq_true (by omega)]) (by omega)
      · rw [decide_eq_false a4]; exact no (by rw [hv, decide_eq_false (by omega)])
  rw [if_neg k2]
  by_cases a2 : v.N = 0
  · rw [if_pos a2]
    by_cases k4 : v.Kind = 4
    · have hv := hloc 4 k4
      simp only [show ¬ ((4 : Int) = 0 ∨ (4 : Int) = 6) by omega, if_false, show ¬ ((4 : Int) = 1) by omega, show ¬ ((4 : Int) = 2) by omega, show ¬ ((4 : Int) = 3) by omega, if_true] at hv
      rw [if_pos k4]
      refine lp (.inl k4) fun b h40 hb => ?_
      rw [hv, decide_eq_true (by omega)]
      exact (hb.1 fun h => by omega).symm
    · rw [if_neg k4]
      by_cases a3 : 0 < ((v.L.length : Nat) : Int)
      · rw [if_pos a3]
        refine no ?_
        unfold locV
        simp only [k1, k2, k3, k4, k5, if_false]
        repeat' split
        all_goals first | rfl | (rw [decide_eq_false (by omega)])
      · rw [if_neg a3]
        by_cases k0 : v.Kind = 0
        · rw [if_pos k0]; exact yes (by unfold locV; rw [if_pos (.inl k0), decide_eq_true (by omega)]) (by omega)
        · rw [if_neg k0]
          by_cases k6 : v.Kind = 6
          · rw [if_pos k6]; exact yes (by unfold locV; rw [if_pos (.inr k6), decide_eq_true (by omega)]) (by omega)
          · rw [if_neg k6]
            exact no (by unfold locV; simp only [k0, k1, k2, k3, k4, k5, k6, or_self, if_false])
  · rw [if_neg a2]
    refine no ?_
    unfold locV
    simp only [k1, k2, k3, k5, if_false]
    repeat' split
    all_goals first | rfl | (rw [decide_eq_false (by omega)])
theorem l2ok_U : ∀ (N : Nat) (v : GValue), vsz v < N → vsz v ≤ 2 ^ 20 → ∀ (f : Nat) (deep left : Int), vsz v + 2 ≤ f → 1 ≤ deep → deep ≤ 6 → 0 ≤ left → left ≤ 40 → U_spec_l2ok f v deep left = some (okV (6 - deep).toNat left v) := by
  intro N
  induction N with
  | zero => intro v hv; omega
  | succ N ih =>
    intro v hv hs f deep left hf h1 h2 h3 h4
    obtain ⟨f, rfl, _⟩ := fuel (show 0 < f by omega)
    have he := vsz_eq v
    have hl := vszs_len v.L
    rw [U_spec_l2ok]
    have := l2ok_T (G := U_spec_l2ok f) (f := f) (dd := (5 - deep).toNat) (deep := deep) (left := left) (by omega) h1 hs (by omega) h3 h4 fun hd x hx r g0 g1 => by
      have hm := vszs_mem hx
      have := ih x (by omega) (by omega) f (deep + 1) r (by omega) (by omega) (by omega) g0 g1
      rw [show (6 - (deep + 1)).toNat = (5 - deep).toNat by omega] at this
      exact this
    rw [this]
    congr 2
    by_cases hd : deep ≤ 5
    · rw [if_pos hd]; omega
    · rw [if_neg hd]; omega
def S_spec_l2ok (a0 : GValue) (a1 : Int) (a2 : Int) : Option Int := if vsz a0 ≤ 2 ^ 20 ∧ (1 ≤ a1 ∧ a1 ≤ 6) ∧ 0 ≤ a2 ∧ a2 ≤ 40 then some (okV (6 - a1).toNat a2 a0) else none
theorem spec_spec_l2ok (a0 : GValue) (a1 : Int) (a2 : Int) (r : Int) (h : S_spec_l2ok a0 a1 a2 = some r) : ∃ n, U_spec_l2ok n a0 a1 a2 = some r := by
  unfold S_spec_l2ok at h
  obtain ⟨⟨hs, ⟨h1, h2⟩, h3, h4⟩, h⟩ := need_c h
  exact ⟨vsz a0 + 2, by rw [← h]; exact l2ok_U _ a0 (Nat.lt_succ_self _) hs _ a1 a2 (Nat.le_refl _) h1 h2 h3 h4⟩
theorem ok_spec_l2ok (a0 : GValue) (a1 : Int) (a2 : Int) (r : Int) (h : S_spec_l2ok a0 a1 a2 = some r) : (mach cfg).call 71 [] [.val true [.int .i64 a0.Kind, .int .i64 a0.N, .seq (eL e_u8 a0.S), .seq (eL (e_sl e_u8) a0.K), .seq (eL e_GValue a0.L)], .val false [.int .i64 a1], .val false [.int .i64 a2]] = some (.val false [.int .i64 r], []) := by
  obtain ⟨n, hn⟩ := spec_spec_l2ok a0 a1 a2 r h
  exact (rec_spec_l2ok n) a0 a1 a2 r hn
def S_spec_ValOk (a0 : GValue) : Option Bool :=
  (S_spec_l2ok a0 1 40).bind fun r1 =>
  some (decide (0 ≤ r1))

set_option maxRecDepth 100000 in
theorem fd_38 : cfg.funcs 38 = some (bodyOf Try.f38, Try.f38.ntmps, Try.f38.results.toList) := fn_of Try.func38 (by kernel_rfl) (by kernel_rfl)
theorem ok_spec_ValOk (a0 : GValue) (r : Bool) (h : S_spec_ValOk a0 = some r) : (mach cfg).call 38 [] [.val true [.int .i64 a0.Kind, .int .i64 a0.N, .seq (eL e_u8 a0.S), .seq (eL (e_sl e_u8) a0.K), .seq (eL e_GValue a0.L)]] = some (.val false [.bool r], []) := by
  unfold S_spec_ValOk at h
  obtain ⟨r1, hr1, h⟩ := Option.bind_eq_some_iff.1 h
  obtain rfl := Option.some.inj h
  exact call_way cfg [(.call 71 [] [.val true [.int .i64 a0.Kind, .int .i64 a0.N, .seq (eL e_u8 a0.S), .seq (eL (e_sl e_u8) a0.K), .seq (eL e_GValue a0.L)], .val false [.int .i64 1], .val false [.int .i64 40]], .r (.val false [.int .i64 r1]) []), (.leI 0 r1, .b (decide (0 ≤ r1)))] rfl fd_38 (by kernel_rfl) ⟨(A.call (ok_spec_l2ok a0 1 40 _ hr1)), A.leI_d, trivial⟩

def L_spec_l7of_l0 (G_spec_l7of : GValue → Option (GExpr × Bool)) (a0 : GValue) (v2 : Int) (v3 : Int) (v4 : Int) (v5 : Int) (v6 : (List (List UInt8))) (v7 : (List UInt8)) (v8 : (List (List UInt8))) (v9 : (List GExpr)) (v10 : (List UInt8)) : Nat → Int → (List GExpr) → Option ((Bool × Int × (List UInt8) × (List (List UInt8)) × (List GExpr)) ⊕ (Int × (List GExpr)))
  | 0, _, _ => none
  | m + 1, v0, v11 =>
    if v0 < ((a0.L.length : Nat) : Int) then
      (natO v0).bind fun i2 =>
      (a0.L[i2]?).bind fun x3 =>
      (G_spec_l7of x3).bind fun ⟨r4_0, r4_1⟩ =>
      match r4_1 with
      | true =>
        if roomP 88 (v11.length + [r4_0].length) then
        L_spec_l7of_l0 G_spec_l7of a0 v2 v3 v4 v5 v6 v7 v8 v9 v10 m (w64 (v0 + 1)) (v11 ++ [r4_0])
        else none
      | false =>
        some (.inl (false, 0, [], [], []))
    else
      some (.inr (v0, v11))

theorem gl_spec_l7of_l0 (G_spec_l7of : GValue → Option (GExpr × Bool)) (H_spec_l7of : ∀ (a0 : GValue) (r : (GExpr × Bool)), G_spec_l7of a0 = some r → (mach cfg).call 39 [] [.val true [.int .i64 a0.Kind, .int .i64 a0.N, .seq (eL e_u8 a0.S), .seq (eL (e_sl e_u8) a0.K), .seq (eL e_GValue a0.L)]] = some (.tup [(true, [.int .i64 r.1.Kind, .int .i64 r.1.N, .seq (eL e_u8 r.1.S), .seq (eL (e_sl e_u8) r.1.K), .seq (eL e_GExpr r.1.Kids)]), (false, [.bool r.2])], [])) (a0 : GValue) (v2 : Int) (v3 : Int) (v4 : Int) (v5 : Int) (v6 : (List (List UInt8))) (v7 : (List UInt8)) (v8 : (List (List UInt8))) (v9 : (List GExpr)) (v10 : (List UInt8)) (m : Nat) : ∀ (v0 : Int) (v11 : (List GExpr)) (o : ((Bool × Int × (List UInt8) × (List (List UInt8)) × (List GExpr)) ⊕ (Int × (List GExpr)))), L_spec_l7of_l0 G_spec_l7of a0 v2 v3 v4 v5 v6 v7 v8 v9 v10 m v0 v11 = some o → (mach cfg).loop 39 (loopB Try.f39 0) ⟨[(1, .val false [.ptr 0 0]), (2, .val false [.ptr 1 0]), (4, .val false [.ptr 2 0]), (5, .val false [.int .i64 v0])], [.var [.int .i64 a0.Kind, .int .i64 a0.N, .seq (eL e_u8 a0.S), .seq (eL (e_sl e_u8) a0.K), .seq (eL e_GValue a0.L)], .var [.int .i64 v2, .int .i64 v3, .ref 3, .ref 4, .ref 5], .var [.int .i64 v4, .int .i64 v5, .ref 6, .seq (eL (e_sl e_u8) v6), .ref 7], .obj 1 (eL e_u8 v7), .obj 1 (eL (e_sl e_u8) v8), .obj 5 (eL e_GExpr v9), .obj 1 (eL e_u8 v10), .obj 5 (eL e_GExpr v11)], 0⟩ = some (match o with | .inl ⟨o_0_0, o_0_1, o_0_2, o_0_3, o_0_4⟩ => (.ret, (⟨[(2, .val false [.ptr 0 0]), (3, .val false [.bool o_0_0])], [.var [.int .i64 o_0_1, .int .i64 o_0_1, .ref 1, .ref 2, .ref 3], .obj 1 (eL e_u8 o_0_2), .obj 1 (eL (e_sl e_u8) o_0_3), .obj 5 (eL e_GExpr o_0_4)], 0⟩ : S)) | .inr (⟨o_1_0, o_1_1⟩) => (.exit 1, (⟨[(1, .val false [.ptr 0 0]), (2, .val false [.ptr 1 0]), (4, .val false [.ptr 2 0]), (5, .val false [.int .i64 o_1_0]), (51, .val false [.bool false])], [.var [.int .i64 a0.Kind, .int .i64 a0.N, .seq (eL e_u8 a0.S), .seq (eL (e_sl e_u8) a0.K), .seq (eL e_GValue a0.L)], .var [.int .i64 v2, .int .i64 v3, .ref 3, .ref 4, .ref 5], .var [.int .i64 v4, .int .i64 v5, .ref 6, .seq (eL (e_sl e_u8) v6), .ref 7], .obj 1 (eL e_u8 v7), .obj 1 (eL (e_sl e_u8) v8), .obj 5 (eL e_GExpr v9), .obj 1 (eL e_u8 v10), .obj 5 (eL e_GExpr o_1_1)], 0⟩ : S))) := by
  induction m with
  | zero => intro v0 v11 o h; cases h
  | succ m ih =>
    intro v0 v11 o h
    rw [L_spec_l7of_l0] at h
    by_cases c1 : v0 < ((a0.L.length : Nat) : Int)
    · rw [if_pos c1] at h
      obtain ⟨i2, hi2, h⟩ := Option.bind_eq_some_iff.1 h
      obtain ⟨x3, hx3, h⟩ := Option.bind_eq_some_iff.1 h
      obtain ⟨⟨r4_0, r4_1⟩, hr4, h⟩ := Option.bind_eq_some_iff.1 h
      try dsimp only at h
      cases r4_1 with
      | true =>
        try dsimp only at h
        obtain ⟨n6, h⟩ := need_some h
        exact loop_on cfg [(.len (eL e_GValue a0.L), .i ((a0.L.length : Nat) : Int)), (.ltI v0 ((a0.L.length : Nat) : Int), .b true), (.nat v0, .n i2), (.idx (eL e_GValue a0.L) i2, .e [.int .i64 x3.Kind, .int .i64 x3.N, .seq (eL e_u8 x3.S), .seq (eL (e_sl e_u8) x3.K), .seq (eL e_GValue x3.L)]), (.call 39 [] [.val true [.int .i64 x3.Kind, .int .i64 x3.N, .seq (eL e_u8 x3.S), .seq (eL (e_sl e_u8) x3.K), .seq (eL e_GValue x3.L)]], .r (.tup [(true, [.int .i64 r4_0.Kind, .int .i64 r4_0.N, .seq (eL e_u8 r4_0.S), .seq (eL (e_sl e_u8) r4_0.K), .seq (eL e_GExpr r4_0.Kids)]), (false, [.bool true])]) []), (.notB true, .b false), (.pl ([[.int .i64 r4_0.Kind, .int .i64 r4_0.N, .seq (eL e_u8 r4_0.S), .seq (eL (e_sl e_u8) r4_0.K), .seq (eL e_GExpr r4_0.Kids)]] : List (List C)), .b true), (.room 88 (eL e_GExpr v11) ([[.int .i64 r4_0.Kind, .int .i64 r4_0.N, .seq (eL e_u8 r4_0.S), .seq (eL (e_sl e_u8) r4_0.K), .seq (eL e_GExpr r4_0.Kids)]] : List (List C)), .b true), (.uni 5 ([[.int .i64 r4_0.Kind, .int .i64 r4_0.N, .seq (eL e_u8 r4_0.S), .seq (eL (e_sl e_u8) r4_0.K), .seq (eL e_GExpr r4_0.Kids)]] : List (List C)), .b true), (.app (eL e_GExpr v11) ([[.int .i64 r4_0.Kind, .int .i64 r4_0.N, .seq (eL e_u8 r4_0.S), .seq (eL (e_sl e_u8) r4_0.K), .seq (eL e_GExpr r4_0.Kids)]] : List (List C)), .l (eL e_GExpr (v11 ++ [r4_0]))), (.add .i64 v0 1, .i (w64 (v0 + 1)))] (by kernel_rfl) ⟨A.len, (A.ltI_t c1), (A.nat hi2), (A.idx hx3 (eq_GValue x3)), (A.call (H_spec_l7of x3 _ hr4)), rfl, (by rw [(show ([[.int .i64 r4_0.Kind, .int .i64 r4_0.N, .seq (eL e_u8 r4_0.S), .seq (eL (e_sl e_u8) r4_0.K), .seq (eL e_GExpr r4_0.Kids)]] : List (List C)) = eL e_GExpr [r4_0] from (raw_cons (eq_GExpr r4_0) raw_nil))]; exact (A.pl E_GExpr)), (by rw [(show ([[.int .i64 r4_0.Kind, .int .i64 r4_0.N, .seq (eL e_u8 r4_0.S), .seq (eL (e_sl e_u8) r4_0.K), .seq (eL e_GExpr r4_0.Kids)]] : List (List C)) = eL e_GExpr [r4_0] from (raw_cons (eq_GExpr r4_0) raw_nil))]; exact (A.room n6)), (by rw [(show ([[.int .i64 r4_0.Kind, .int .i64 r4_0.N, .seq (eL e_u8 r4_0.S), .seq (eL (e_sl e_u8) r4_0.K), .seq (eL e_GExpr r4_0.Kids)]] : List (List C)) = eL e_GExpr [r4_0] from (raw_cons (eq_GExpr r4_0) raw_nil))]; exact (A.uni E_GExpr)), (by rw [(show ([[.int .i64 r4_0.Kind, .int .i64 r4_0.N, .seq (eL e_u8 r4_0.S), .seq (eL (e_sl e_u8) r4_0.K), .seq (eL e_GExpr r4_0.Kids)]] : List (List C)) = eL e_GExpr [r4_0] from (raw_cons (eq_GExpr r4_0) raw_nil))]; exact A.app), rfl, trivial⟩ (ih (w64 (v0 + 1)) (v11 ++ [r4_0]) o h)
      | false =>
        try dsimp only at h
        obtain rfl := Option.some.inj h
        exact loop_end cfg [(.len (eL e_GValue a0.L), .i ((a0.L.length : Nat) : Int)), (.ltI v0 ((a0.L.length : Nat) : Int), .b true), (.nat v0, .n i2), (.idx (eL e_GValue a0.L) i2, .e [.int .i64 x3.Kind, .int .i64 x3.N, .seq (eL e_u8 x3.S), .seq (eL (e_sl e_u8) x3.K), .seq (eL e_GValue x3.L)]), (.call 39 [] [.val true [.int .i64 x3.Kind, .int .i64 x3.N, .seq (eL e_u8 x3.S), .seq (eL (e_sl e_u8) x3.K), .seq (eL e_GValue x3.L)]], .r (.tup [(true, [.int .i64 r4_0.Kind, .int .i64 r4_0.N, .seq (eL e_u8 r4_0.S), .seq (eL (e_sl e_u8) r4_0.K), .seq (eL e_GExpr r4_0.Kids)]), (false, [.bool false])]) []), (.notB false, .b true)] (by kernel_rfl) ⟨A.len, (A.ltI_t c1), (A.nat hi2), (A.idx hx3 (eq_GValue x3)), (A.call (H_spec_l7of x3 _ hr4)), rfl, trivial⟩ (by intro h; cases h)
    · rw [if_neg c1] at h
      obtain rfl := Option.some.inj h
      exact loop_end cfg [(.len (eL e_GValue a0.L), .i ((a0.L.length : Nat) : Int)), (.ltI v0 ((a0.L.length : Nat) : Int), .b false)] (by kernel_rfl) ⟨A.len, (A.ltI_f c1), trivial⟩ (by intro h; cases h)

def L_spec_l7of_l0a (G_spec_l7of : GValue → Option (GExpr × Bool)) (a0 : GValue) (v2 : Int) (v3 : Int) (v4 : Int) (v5 : Int) (v6 : (List UInt8)) (v7 : (List (List UInt8))) (v8 : (List GExpr)) (v9 : (List UInt8)) (v10 : (List (List UInt8))) : Nat → Int → (List GExpr) → Option ((Bool × Int × (List UInt8) × (List (List UInt8)) × (List GExpr)) ⊕ (Int × (List GExpr)))
  | 0, _, _ => none
  | m + 1, v0, v11 =>
    if v0 < ((a0.L.length : Nat) : Int) then
      (natO v0).bind fun i2 =>
      (a0.L[i2]?).bind fun x3 =>
      (G_spec_l7of x3).bind fun ⟨r4_0, r4_1⟩ =>
      match r4_1 with
      | true =>
        if roomP 88 (v11.length + [r4_0].length) then
        L_spec_l7of_l0a G_spec_l7of a0 v2 v3 v4 v5 v6 v7 v8 v9 v10 m (w64 (v0 + 1)) (v11 ++ [r4_0])
        else none
      | false =>
        some (.inl (false, 0, [], [], []))
    else
      some (.inr (v0, v11))

theorem gl_spec_l7of_l0a (G_spec_l7of : GValue → Option (GExpr × Bool)) (H_spec_l7of : ∀ (a0 : GValue) (r : (GExpr × Bool)), G_spec_l7of a0 = some r → (mach cfg).call 39 [] [.val true [.int .i64 a0.Kind, .int .i64 a0.N, .seq (eL e_u8 a0.S), .seq (eL (e_sl e_u8) a0.K), .seq (eL e_GValue a0.L)]] = some (.tup [(true, [.int .i64 r.1.Kind, .int .i64 r.1.N, .seq (eL e_u8 r.1.S), .seq (eL (e_sl e_u8) r.1.K), .seq (eL e_GExpr r.1.Kids)]), (false, [.bool r.2])], [])) (a0 : GValue) (v2 : Int) (v3 : Int) (v4 : Int) (v5 : Int) (v6 : (List UInt8)) (v7 : (List (List UInt8))) (v8 : (List GExpr)) (v9 : (List UInt8)) (v10 : (List (List UInt8))) (m : Nat) : ∀ (v0 : Int) (v11 : (List GExpr)) (o : ((Bool × Int × (List UInt8) × (List (List UInt8)) × (List GExpr)) ⊕ (Int × (List GExpr)))), L_spec_l7of_l0a G_spec_l7of a0 v2 v3 v4 v5 v6 v7 v8 v9 v10 m v0 v11 = some o → (mach cfg).loop 39 (loopB Try.f39 0) ⟨[(1, .val false [.ptr 0 0]), (2, .val false [.ptr 1 0]), (4, .val false [.ptr 2 0]), (5, .val false [.int .i64 v0])], [.var [.int .i64 a0.Kind, .int .i64 a0.N, .seq (eL e_u8 a0.S), .seq (eL (e_sl e_u8) a0.K), .seq (eL e_GValue a0.L)], .var [.int .i64 v2, .int .i64 v3, .ref 3, .ref 4, .ref 5], .var [.int .i64 v4, .int .i64 v5, .ref 6, .ref 7, .ref 8], .obj 1 (eL e_u8 v6), .obj 1 (eL (e_sl e_u8) v7), .obj 5 (eL e_GExpr v8), .obj 1 (eL e_u8 v9), .obj 1 (eL (e_sl e_u8) v10), .obj 5 (eL e_GExpr v11)], 0⟩ = some (match o with | .inl ⟨o_0_0, o_0_1, o_0_2, o_0_3, o_0_4⟩ => (.ret, (⟨[(2, .val false [.ptr 0 0]), (3, .val false [.bool o_0_0])], [.var [.int .i64 o_0_1, .int .i64 o_0_1, .ref 1, .ref 2, .ref 3], .obj 1 (eL e_u8 o_0_2), .obj 1 (eL (e_sl e_u8) o_0_3), .obj 5 (eL e_GExpr o_0_4)], 0⟩ : S)) | .inr (⟨o_1_0, o_1_1⟩) => (.exit 1, (⟨[(1, .val false [.ptr 0 0]), (2, .val false [.ptr 1 0]), (4, .val false [.ptr 2 0]), (5, .val false [.int .i64 o_1_0]), (51, .val false [.bool false])], [.var [.int .i64 a0.Kind, .int .i64 a0.N, .seq (eL e_u8 a0.S), .seq (eL (e_sl e_u8) a0.K), .seq (eL e_GValue a0.L)], .var [.int .i64 v2, .int .i64 v3, .ref 3, .ref 4, .ref 5], .var [.int .i64 v4, .int .i64 v5, .ref 6, .ref 7, .ref 8], .obj 1 (eL e_u8 v6), .obj 1 (eL (e_sl e_u8) v7), .obj 5 (eL e_GExpr v8), .obj 1 (eL e_u8 v9), .obj 1 (eL (e_sl e_u8) v10), .obj 5 (eL e_GExpr o_1_1)], 0⟩ : S))) := by
  induction m with
  | zero => intro v0 v11 o h; cases h
  | succ m ih =>
    intro v0 v11 o h
    rw [L_spec_l7of_l0a] at h
    by_cases c1 : v0 < ((a0.L.length : Nat) : Int)
    · rw [if_pos c1] at h
      obtain ⟨i2, hi2, h⟩ := Option.bind_eq_some_iff.1 h
      obtain ⟨x3, hx3, h⟩ := Option.bind_eq_some_iff.1 h
      obtain ⟨⟨r4_0, r4_1⟩, hr4, h⟩ := Option.bind_eq_some_iff.1 h
      try dsimp only at h
      cases r4_1 with
      | true =>
        try dsimp only at h
        obtain ⟨n6, h⟩ := need_some h
        exact loop_on cfg [(.len (eL e_GValue a0.L), .i ((a0.L.length : Nat) : Int)), (.ltI v0 ((a0.L.length : Nat) : Int), .b true), (.nat v0, .n i2), (.idx (eL e_GValue a0.L) i2, .e [.int .i64 x3.Kind, .int .i64 x3.N, .seq (eL e_u8 x3.S), .seq (eL (e_sl e_u8) x3.K), .seq (eL e_GValue x3.L)]), (.call 39 [] [.val true [.int .i64 x3.Kind, .int .i64 x3.N, .seq (eL e_u8 x3.S), .seq (eL (e_sl e_u8) x3.K), .seq (eL e_GValue x3.L)]], .r (.tup [(true, [.int .i64 r4_0.Kind, .int .i64 r4_0.N, .seq (eL e_u8 r4_0.S), .seq (eL (e_sl e_u8) r4_0.K), .seq (eL e_GExpr r4_0.Kids)]), (false, [.bool true])]) []), (.notB true, .b false), (.pl ([[.int .i64 r4_0.Kind, .int .i64 r4_0.N, .seq (eL e_u8 r4_0.S), .seq (eL (e_sl e_u8) r4_0.K), .seq (eL e_GExpr r4_0.Kids)]] : List (List C)), .b true), (.room 88 (eL e_GExpr v11) ([[.int .i64 r4_0.Kind, .int .i64 r4_0.N, .seq (eL e_u8 r4_0.S), .seq (eL (e_sl e_u8) r4_0.K), .seq (eL e_GExpr r4_0.Kids)]] : List (List C)), .b true), (.uni 5 ([[.int .i64 r4_0.Kind, .int .i64 r4_0.N, .seq (eL e_u8 r4_0.S), .seq (eL (e_sl e_u8) r4_0.K), .seq (eL e_GExpr r4_0.Kids)]] : List (List C)), .b true), (.app (eL e_GExpr v11) ([[.int .i64 r4_0.Kind, .int .i64 r4_0.N, .seq (eL e_u8 r4_0.S), .seq (eL (e_sl e_u8) r4_0.K), .seq (eL e_GExpr r4_0.Kids)]] : List (List C)), .l (eL e_GExpr (v11 ++ [r4_0]))), (.add .i64 v0 1, .i (w64 (v0 + 1)))] (by kernel_rfl) ⟨A.len, (A.ltI_t c1), (A.nat hi2), (A.idx hx3 (eq_GValue x3)), (A.call (H_spec_l7of x3 _ hr4)), rfl, (by rw [(show ([[.int .i64 r4_0.Kind, .int .i64 r4_0.N, .seq (eL e_u8 r4_0.S), .seq (eL (e_sl e_u8) r4_0.K), .seq (eL e_GExpr r4_0.Kids)]] : List (List C)) = eL e_GExpr [r4_0] from (raw_cons (eq_GExpr r4_0) raw_nil))]; exact (A.pl E_GExpr)), (by rw [(show ([[.int .i64 r4_0.Kind, .int .i64 r4_0.N, .seq (eL e_u8 r4_0.S), .seq (eL (e_sl e_u8) r4_0.K), .seq (eL e_GExpr r4_0.Kids)]] : List (List C)) = eL e_GExpr [r4_0] from (raw_cons (eq_GExpr r4_0) raw_nil))]; exact (A.room n6)), (by rw [(show ([[.int .i64 r4_0.Kind, .int .i64 r4_0.N, .seq (eL e_u8 r4_0.S), .seq (eL (e_sl e_u8) r4_0.K), .seq (eL e_GExpr r4_0.Kids)]] : List (List C)) = eL e_GExpr [r4_0] from (raw_cons (eq_GExpr r4_0) raw_nil))]; exact (A.uni E_GExpr)), (by rw [(show ([[.int .i64 r4_0.Kind, .int .i64 r4_0.N, .seq (eL e_u8 r4_0.S), .seq (eL (e_sl e_u8) r4_0.K), .seq (eL e_GExpr r4_0.Kids)]] : List (List C)) = eL e_GExpr [r4_0] from (raw_cons (eq_GExpr r4_0) raw_nil))]; exact A.app), rfl, trivial⟩ (ih (w64 (v0 + 1)) (v11 ++ [r4_0]) o h)
      | false =>
        try dsimp only at h
        obtain rfl := Option.some.inj h
        exact loop_end cfg [(.len (eL e_GValue a0.L), .i ((a0.L.length : Nat) : Int)), (.ltI v0 ((a0.L.length : Nat) : Int), .b true), (.nat v0, .n i2), (.idx (eL e_GValue a0.L) i2, .e [.int .i64 x3.Kind, .int .i64 x3.N, .seq (eL e_u8 x3.S), .seq (eL (e_sl e_u8) x3.K), .seq (eL e_GValue x3.L)]), (.call 39 [] [.val true [.int .i64 x3.Kind, .int .i64 x3.N, .seq (eL e_u8 x3.S), .seq (eL (e_sl e_u8) x3.K), .seq (eL e_GValue x3.L)]], .r (.tup [(true, [.int .i64 r4_0.Kind, .int .i64 r4_0.N, .seq (eL e_u8 r4_0.S), .seq (eL (e_sl e_u8) r4_0.K), .seq (eL e_GExpr r4_0.Kids)]), (false, [.bool false])]) []), (.notB false, .b true)] (by kernel_rfl) ⟨A.len, (A.ltI_t c1), (A.nat hi2), (A.idx hx3 (eq_GValue x3)), (A.call (H_spec_l7of x3 _ hr4)), rfl, trivial⟩ (by intro h; cases h)
    · rw [if_neg c1] at h
      obtain rfl := Option.some.inj h
      exact loop_end cfg [(.len (eL e_GValue a0.L), .i ((a0.L.length : Nat) : Int)), (.ltI v0 ((a0.L.length : Nat) : Int), .b false)] (by kernel_rfl) ⟨A.len, (A.ltI_f c1), trivial⟩ (by intro h; cases h)

def T_spec_l7of (G_spec_l7of : GValue → Option (GExpr × Bool)) (n : Nat) (a0 : GValue) : Option (GExpr × Bool) :=
  if a0.Kind = 0 then
    some ((GExpr.mk 0 0 [] [] []), true)
  else
    if a0.Kind = 1 then
      some ((GExpr.mk 1 a0.N [] [] []), true)
    else
      if a0.Kind = 2 then
        if a0.N < 0 then
          some ((GExpr.mk 14 0 [] [] [(GExpr.mk 2 (w64 (0 - a0.N)) [] [] [])]), true)
        else
          some ((GExpr.mk 2 a0.N [] [] []), true)
      else
        if a0.Kind = 3 then
          some ((GExpr.mk 3 0 a0.S [] []), true)
        else
          if a0.Kind = 6 then
            some ((GExpr.mk 0 0 [] [] []), false)
          else
            if a0.Kind = 5 then
              (L_spec_l7of_l0 G_spec_l7of a0 0 0 5 0 a0.K [] [] [] [] n 0 []).bind fun o7 =>
              match o7 with
              | .inl ⟨o7_0_0, o7_0_1, o7_0_2, o7_0_3, o7_0_4⟩ =>
                some ((GExpr.mk o7_0_1 o7_0_1 o7_0_2 o7_0_3 o7_0_4), o7_0_0)
              | .inr (⟨o7_1_0, o7_1_1⟩) =>
                some ((GExpr.mk 5 0 [] a0.K o7_1_1), true)
            else
              (L_spec_l7of_l0a G_spec_l7of a0 0 0 4 0 [] [] [] [] [] n 0 []).bind fun o7 =>
              match o7 with
              | .inl ⟨o7_0_0, o7_0_1, o7_0_2, o7_0_3, o7_0_4⟩ =>
                some ((GExpr.mk o7_0_1 o7_0_1 o7_0_2 o7_0_3 o7_0_4), o7_0_0)
              | .inr (⟨o7_1_0, o7_1_1⟩) =>
                some ((GExpr.mk 4 0 [] [] o7_1_1), true)

set_option maxRecDepth 100000 in
theorem fd_39 : cfg.funcs 39 = some (bodyOf Try.f39, Try.f39.ntmps, Try.f39.results.toList) := fn_of Try.func39 (by kernel_rfl) (by kernel_rfl)
theorem g_spec_l7of (G_spec_l7of : GValue → Option (GExpr × Bool)) (H_spec_l7of : ∀ (a0 : GValue) (r : (GExpr × Bool)), G_spec_l7of a0 = some r → (mach cfg).call 39 [] [.val true [.int .i64 a0.Kind, .int .i64 a0.N, .seq (eL e_u8 a0.S), .seq (eL (e_sl e_u8) a0.K), .seq (eL e_GValue a0.L)]] = some (.tup [(true, [.int .i64 r.1.Kind, .int .i64 r.1.N, .seq (eL e_u8 r.1.S), .seq (eL (e_sl e_u8) r.1.K), .seq (eL e_GExpr r.1.Kids)]), (false, [.bool r.2])], [])) (n : Nat) (a0 : GValue) (r : (GExpr × Bool)) (h : T_spec_l7of G_spec_l7of n a0 = some r) : (mach cfg).call 39 [] [.val true [.int .i64 a0.Kind, .int .i64 a0.N, .seq (eL e_u8 a0.S), .seq (eL (e_sl e_u8) a0.K), .seq (eL e_GValue a0.L)]] = some (.tup [(true, [.int .i64 r.1.Kind, .int .i64 r.1.N, .seq (eL e_u8 r.1.S), .seq (eL (e_sl e_u8) r.1.K), .seq (eL e_GExpr r.1.Kids)]), (false, [.bool r.2])], []) := by
  unfold T_spec_l7of at h
  by_cases c1 : a0.Kind = 0
  · rw [if_pos c1] at h
    obtain rfl := Option.some.inj h
    exact (call_way cfg (r := (.tup [(true, [.int .i64 0, .int .i64 0, .seq (viewL (eL e_u8 [])), .seq (viewL (eL (e_sl e_u8) [])), .seq (viewL (eL e_GExpr []))]), (false, [.bool true])], [])) [(.eqI a0.Kind 0, .b true)] rfl fd_39 (by kernel_rfl) ⟨(A.eqI_t c1), trivial⟩).trans (by simp only [viewL_eL E_u8, viewL_eL (E_sl e_u8), viewL_eL E_GExpr] <;> rfl)
  · rw [if_neg c1] at h
    by_cases c2 : a0.Kind = 1
    · rw [if_pos c2] at h
      obtain rfl := Option.some.inj h
      exact (call_way cfg (r := (.tup [(true, [.int .i64 1, .int .i64 a0.N, .seq (viewL (eL e_u8 [])), .seq (viewL (eL (e_sl e_u8) [])), .seq (viewL (eL e_GExpr []))]), (false, [.bool true])], [])) [(.eqI a0.Kind 0, .b false), (.eqI a0.Kind 1, .b true)] rfl fd_39 (by kernel_rfl) ⟨(A.eqI_f c1), (A.eqI_t c2), trivial⟩).trans (by simp only [viewL_eL E_u8, viewL_eL (E_sl e_u8), viewL_eL E_GExpr] <;> rfl)
    · rw [if_neg c2] at h
      by_cases c3 : a0.Kind = 2
      · rw [if_pos c3] at h
        by_cases c4 : a0.N < 0
        · rw [if_pos c4] at h
          obtain rfl := Option.some.inj h
          exact (call_way cfg (r := (.tup [(true, [.int .i64 14, .int .i64 0, .seq (viewL (eL e_u8 [])), .seq (viewL (eL (e_sl e_u8) [])), .seq (viewL (eL o_GExpr [(GExpr.mk 2 (w64 (0 - a0.N)) [] [] [])]))]), (false, [.bool true])], [])) [(.eqI a0.Kind 0, .b false), (.eqI a0.Kind 1, .b false), (.eqI a0.Kind 2, .b true), (.ltI a0.N 0, .b true), (.neg .i64 a0.N, .i (w64 (0 - a0.N)))] rfl fd_39 (by kernel_rfl) ⟨(A.eqI_f c1), (A.eqI_f c2), (A.eqI_t c3), (A.ltI_t c4), rfl, trivial⟩).trans (by simp only [viewL_eL E_u8, viewL_eL (E_sl e_u8), viewL_oL O_GExpr] <;> rfl)
        · rw [if_neg c4] at h
          obtain rfl := Option.some.inj h
          exact (call_way cfg (r := (.tup [(true, [.int .i64 2, .int .i64 a0.N, .seq (viewL (eL e_u8 [])), .seq (viewL (eL (e_sl e_u8) [])), .seq (viewL (eL e_GExpr []))]), (false, [.bool true])], [])) [(.eqI a0.Kind 0, .b false), (.eqI a0.Kind 1, .b false), (.eqI a0.Kind 2, .b true), (.ltI a0.N 0, .b false)] rfl fd_39 (by kernel_rfl) ⟨(A.eqI_f c1), (A.eqI_f c2), (A.eqI_t c3), (A.ltI_f c4), trivial⟩).trans (by simp only [viewL_eL E_u8, viewL_eL (E_sl e_u8), viewL_eL E_GExpr] <;> rfl)
      · rw [if_neg c3] at h
        by_cases c4 : a0.Kind = 3
        · rw [if_pos c4] at h
          obtain rfl := Option.some.inj h
          exact (call_way cfg (r := (.tup [(true, [.int .i64 3, .int .i64 0, .seq (eL e_u8 a0.S), .seq (viewL (eL (e_sl e_u8) [])), .seq (viewL (eL e_GExpr []))]), (false, [.bool true])], [])) [(.eqI a0.Kind 0, .b false), (.eqI a0.Kind 1, .b false), (.eqI a0.Kind 2, .b false), (.eqI a0.Kind 3, .b true)] rfl fd_39 (by kernel_rfl) ⟨(A.eqI_f c1), (A.eqI_f c2), (A.eqI_f c3), (A.eqI_t c4), trivial⟩).trans (by simp only [viewL_eL (E_sl e_u8), viewL_eL E_GExpr] <;> rfl)
        · rw [if_neg c4] at h
          by_cases c5 : a0.Kind = 6
          · rw [if_pos c5] at h
            obtain rfl := Option.some.inj h
            exact (call_way cfg (r := (.tup [(true, [.int .i64 0, .int .i64 0, .seq (viewL (eL e_u8 [])), .seq (viewL (eL (e_sl e_u8) [])), .seq (viewL (eL e_GExpr []))]), (false, [.bool false])], [])) [(.eqI a0.Kind 0, .b false), (.eqI a0.Kind 1, .b false), (.eqI a0.Kind 2, .b false), (.eqI a0.Kind 3, .b false), (.eqI a0.Kind 6, .b true)] rfl fd_39 (by kernel_rfl) ⟨(A.eqI_f c1), (A.eqI_f c2), (A.eqI_f c3), (A.eqI_f c4), (A.eqI_t c5), trivial⟩).trans (by simp only [viewL_eL E_u8, viewL_eL (E_sl e_u8), viewL_eL E_GExpr] <;> rfl)
          · rw [if_neg c5] at h
            by_cases c6 : a0.Kind = 5
            · rw [if_pos c6] at h
              obtain ⟨o7, ho7, h⟩ := Option.bind_eq_some_iff.1 h
              rcases o7 with ⟨o7_0_0, o7_0_1, o7_0_2, o7_0_3, o7_0_4⟩ | ⟨o7_1_0, o7_1_1⟩
              · try dsimp only at h
                obtain rfl := Option.some.inj h
                exact (call_way cfg (r := (.tup [(true, [.int .i64 o7_0_1, .int .i64 o7_0_1, .seq (viewL (eL e_u8 o7_0_2)), .seq (viewL (eL (e_sl e_u8) o7_0_3)), .seq (viewL (eL e_GExpr o7_0_4))]), (false, [.bool o7_0_0])], [])) [(.eqI a0.Kind 0, .b false), (.eqI a0.Kind 1, .b false), (.eqI a0.Kind 2, .b false), (.eqI a0.Kind 3, .b false), (.eqI a0.Kind 6, .b false), (.eqI a0.Kind 5, .b true), (.loop 39 (loopB Try.f39 0) ⟨[(1, .val false [.ptr 0 0]), (2, .val false [.ptr 1 0]), (4, .val false [.ptr 2 0]), (5, .val false [.int .i64 0])], [.var [.int .i64 a0.Kind, .int .i64 a0.N, .seq (eL e_u8 a0.S), .seq (eL (e_sl e_u8) a0.K), .seq (eL e_GValue a0.L)], .var [.int .i64 0, .int .i64 0, .ref 3, .ref 4, .ref 5], .var [.int .i64 5, .int .i64 0, .ref 6, .seq (eL (e_sl e_u8) a0.K), .ref 7], .obj 1 (eL e_u8 []), .obj 1 (eL (e_sl e_u8) []), .obj 5 (eL e_GExpr []), .obj 1 (eL e_u8 []), .obj 5 (eL e_GExpr [])], 0⟩, .x (.ret) ⟨[(2, .val false [.ptr 0 0]), (3, .val false [.bool o7_0_0])], [.var [.int .i64 o7_0_1, .int .i64 o7_0_1, .ref 1, .ref 2, .ref 3], .obj 1 (eL e_u8 o7_0_2), .obj 1 (eL (e_sl e_u8) o7_0_3), .obj 5 (eL e_GExpr o7_0_4)], 0⟩)] rfl fd_39 (by kernel_rfl) ⟨(A.eqI_f c1), (A.eqI_f c2), (A.eqI_f c3), (A.eqI_f c4), (A.eqI_f c5), (A.eqI_t c6), (A.loop (gl_spec_l7of_l0 G_spec_l7of H_spec_l7of a0 0 0 5 0 a0.K [] [] [] [] _ 0 [] _ ho7)), trivial⟩).trans (by simp only [viewL_eL E_u8, viewL_eL (E_sl e_u8), viewL_eL E_GExpr] <;> rfl)
              · try dsimp only at h
                obtain rfl := Option.some.inj h
                exact (call_way cfg (r := (.tup [(true, [.int .i64 5, .int .i64 0, .seq (viewL (eL e_u8 [])), .seq (eL (e_sl e_u8) a0.K), .seq (viewL (eL e_GExpr o7_1_1))]), (false, [.bool true])], [])) [(.eqI a0.Kind 0, .b false), (.eqI a0.Kind 1, .b false), (.eqI a0.Kind 2, .b false), (.eqI a0.Kind 3, .b false), (.eqI a0.Kind 6, .b false), (.eqI a0.Kind 5, .b true), (.loop 39 (loopB Try.f39 0) ⟨[(1, .val false [.ptr 0 0]), (2, .val false [.ptr 1 0]), (4, .val false [.ptr 2 0]), (5, .val false [.int .i64 0])], [.var [.int .i64 a0.Kind, .int .i64 a0.N, .seq (eL e_u8 a0.S), .seq (eL (e_sl e_u8) a0.K), .seq (eL e_GValue a0.L)], .var [.int .i64 0, .int .i64 0, .ref 3, .ref 4, .ref 5], .var [.int .i64 5, .int .i64 0, .ref 6, .seq (eL (e_sl e_u8) a0.K), .ref 7], .obj 1 (eL e_u8 []), .obj 1 (eL (e_sl e_u8) []), .obj 5 (eL e_GExpr []), .obj 1 (eL e_u8 []), .obj 5 (eL e_GExpr [])], 0⟩, .x (.exit 1) ⟨[(1, .val false [.ptr 0 0]), (2, .val false [.ptr 1 0]), (4, .val false [.ptr 2 0]), (5, .val false [.int .i64 o7_1_0]), (51, .val false [.bool false])], [.var [.int .i64 a0.Kind, .int .i64 a0.N, .seq (eL e_u8 a0.S), .seq (eL (e_sl e_u8) a0.K), .seq (eL e_GValue a0.L)], .var [.int .i64 0, .int .i64 0, .ref 3, .ref 4, .ref 5], .var [.int .i64 5, .int .i64 0, .ref 6, .seq (eL (e_sl e_u8) a0.K), .ref 7], .obj 1 (eL e_u8 []), .obj 1 (eL (e_sl e_u8) []), .obj 5 (eL e_GExpr []), .obj 1 (eL e_u8 []), .obj 5 (eL e_GExpr o7_1_1)], 0⟩)] rfl fd_39 (by kernel_rfl) ⟨(A.eqI_f c1), (A.eqI_f c2), (A.eqI_f c3), (A.eqI_f c4), (A.eqI_f c5), (A.eqI_t c6), (A.loop (gl_spec_l7of_l0 G_spec_l7of H_spec_l7of a0 0 0 5 0 a0.K [] [] [] [] _ 0 [] _ ho7)), trivial⟩).trans (by simp only [viewL_eL E_u8, viewL_eL E_GExpr] <;> rfl)
            · rw [if_neg c6] at h
              obtain ⟨o7, ho7, h⟩ := Option.bind_eq_some_iff.1 h
              rcases o7 with ⟨o7_0_0, o7_0_1, o7_0_2, o7_0_3, o7_0_4⟩ | ⟨o7_1_0, o7_1_1⟩
              · try dsimp only at h
                obtain rfl := Option.some.inj h
                exact (call_way cfg (r := (.tup [(true, [.int .i64 o7_0_1, .int .i64 o7_0_1, .seq (viewL (eL e_u8 o7_0_2)), .seq (viewL (eL (e_sl e_u8) o7_0_3)), .seq (viewL (eL e_GExpr o7_0_4))]), (false, [.bool o7_0_0])], [])) [(.eqI a0.Kind 0, .b false), (.eqI a0.Kind 1, .b false), (.eqI a0.Kind 2, .b false), (.eqI a0.Kind 3, .b false), (.eqI a0.Kind 6, .b false), (.eqI a0.Kind 5, .b false), (.loop 39 (loopB Try.f39 0) ⟨[(1, .val false [.ptr 0 0]), (2, .val false [.ptr 1 0]), (4, .val false [.ptr 2 0]), (5, .val false [.int .i64 0])], [.var [.int .i64 a0.Kind, .int .i64 a0.N, .seq (eL e_u8 a0.S), .seq (eL (e_sl e_u8) a0.K), .seq (eL e_GValue a0.L)], .var [.int .i64 0, .int .i64 0, .ref 3, .ref 4, .ref 5], .var [.int .i64 4, .int .i64 0, .ref 6, .ref 7, .ref 8], .obj 1 (eL e_u8 []), .obj 1 (eL (e_sl e_u8) []), .obj 5 (eL e_GExpr []), .obj 1 (eL e_u8 []), .obj 1 (eL (e_sl e_u8) []), .obj 5 (eL e_GExpr [])], 0⟩, .x (.ret) ⟨[(2, .val false [.ptr 0 0]), (3, .val false [.bool o7_0_0])], [.var [.int .i64 o7_0_1, .int .i64 o7_0_1, .ref 1, .ref 2, .ref 3], .obj 1 (eL e_u8 o7_0_2), .obj 1 (eL (e_sl e_u8) o7_0_3), .obj 5 (eL e_GExpr o7_0_4)], 0⟩)] rfl fd_39 (by kernel_rfl) ⟨(A.eqI_f c1), (A.eqI_f c2), (A.eqI_f c3), (A.eqI_f c4), (A.eqI_f c5), (A.eqI_f c6), (A.loop (gl_spec_l7of_l0a G_spec_l7of H_spec_l7of a0 0 0 4 0 [] [] [] [] [] _ 0 [] _ ho7)), trivial⟩).trans (by simp only [viewL_eL E_u8, viewL_eL (E_sl e_u8), viewL_eL E_GExpr] <;> rfl)
              · try dsimp only at h
                obtain rfl := Option.some.inj h
                exact (call_way cfg (r := (.tup [(true, [.int .i64 4, .int .i64 0, .seq (viewL (eL e_u8 [])), .seq (viewL (eL (e_sl e_u8) [])), .seq (viewL (eL e_GExpr o7_1_1))]), (false, [.bool true])], [])) [(.eqI a0.Kind 0, .b false), (.eqI a0.Kind 1, .b false), (.eqI a0.Kind 2, .b false), (.eqI a0.Kind 3, .b false), (.eqI a0.Kind 6, .b false), (.eqI a0.Kind 5, .b false), (.loop 39 (loopB Try.f39 0) ⟨[(1, .val false [.ptr 0 0]), (2, .val false [.ptr 1 0]), (4, .val false [.ptr 2 0]), (5, .val false [.int .i64 0])], [.var [.int .i64 a0.Kind, .int .i64 a0.N, .seq (eL e_u8 a0.S), .seq (eL (e_sl e_u8) a0.K), .seq (eL e_GValue a0.L)], .var [.int .i64 0, .int .i64 0, .ref 3, .ref 4, .ref 5], .var [.int .i64 4, .int .i64 0, .ref 6, .ref 7, .ref 8], .obj 1 (eL e_u8 []), .obj 1 (eL (e_sl e_u8) []), .obj 5 (eL e_GExpr []), .obj 1 (eL e_u8 []), .obj 1 (eL (e_sl e_u8) []), .obj 5 (eL e_GExpr [])], 0⟩, .x (.exit 1) ⟨[(1, .val false [.ptr 0 0]), (2, .val false [.ptr 1 0]), (4, .val false [.ptr 2 0]), (5, .val false [.int .i64 o7_1_0]), (51, .val false [.bool false])], [.var [.int .i64 a0.Kind, .int .i64 a0.N, .seq (eL e_u8 a0.S), .seq (eL (e_sl e_u8) a0.K), .seq (eL e_GValue a0.L)], .var [.int .i64 0, .int .i64 0, .ref 3, .ref 4, .ref 5], .var [.int .i64 4, .int .i64 0, .ref 6, .ref 7, .ref 8], .obj 1 (eL e_u8 []), .obj 1 (eL (e_sl e_u8) []), .obj 5 (eL e_GExpr []), .obj 1 (eL e_u8 []), .obj 1 (eL (e_sl e_u8) []), .obj 5 (eL e_GExpr o7_1_1)], 0⟩)] rfl fd_39 (by kernel_rfl) ⟨(A.eqI_f c1), (A.eqI_f c2), (A.eqI_f c3), (A.eqI_f c4), (A.eqI_f c5), (A.eqI_f c6), (A.loop (gl_spec_l7of_l0a G_spec_l7of H_spec_l7of a0 0 0 4 0 [] [] [] [] [] _ 0 [] _ ho7)), trivial⟩).trans (by simp only [viewL_eL E_u8, viewL_eL (E_sl e_u8), viewL_eL E_GExpr] <;> rfl)

def U_spec_l7of : Nat → GValue → Option (GExpr × Bool)
  | 0, _ => none
  | n + 1, a0 => T_spec_l7of (U_spec_l7of n) n a0
theorem rec_spec_l7of (n : Nat) : (∀ (a0 : GValue) (r : (GExpr × Bool)), U_spec_l7of n a0 = some r → (mach cfg).call 39 [] [.val true [.int .i64 a0.Kind, .int .i64 a0.N, .seq (eL e_u8 a0.S), .seq (eL (e_sl e_u8) a0.K), .seq (eL e_GValue a0.L)]] = some (.tup [(true, [.int .i64 r.1.Kind, .int .i64 r.1.N, .seq (eL e_u8 r.1.S), .seq (eL (e_sl e_u8) r.1.K), .seq (eL e_GExpr r.1.Kids)]), (false, [.bool r.2])], [])) := by
  induction n with
  | zero => exact fun _ _ h => (by rw [U_spec_l7of] at h; cases h)
  | succ n ih =>
    have ih_spec_l7of := ih
    exact fun a0 r h => g_spec_l7of (U_spec_l7of n) ih_spec_l7of n a0 r (by rw [U_spec_l7of] at h; exact h)
theorem l7of_loop {G : GValue → Option (GExpr × Bool)} {a : GValue} {v2 v3 v4 v5 : Int} {v6 : List (List UInt8)} {v7 : List UInt8} {v8 : List (List UInt8)} {v9 : List GExpr} {v10 : List UInt8} (ha : a.L.length ≤ 2 ^ 39) : ∀ (l p : List GValue) (m : Nat), a.L = p ++ l → (∀ x ∈ l, G x = some (ofR x)) → l.length < m → ∃ z, L_spec_l7of_l0 G a v2 v3 v4 v5 v6 v7 v8 v9 v10 m ((p.length : Nat) : Int) (xOfs p) = some (if knVs l = true then .inr (z, xOfs a.L) else .inl (false, 0, [], [], [])) := by
  intro l
  induction l with
  | nil =>
    intro p m he _ hm
    obtain ⟨m, rfl, _⟩ := fuel hm
    exact ⟨_, by rw [L_spec_l7of_l0, he, if_neg (nlt_end p)]; simp [knVs]; rfl⟩
  | cons x l ih =>
    intro p m he hG hm
    obtain ⟨m, rfl, hm'⟩ := fuel hm
    have hlen : a.L.length = p.length + (l.length + 1) := by rw [he]; simp
    obtain ⟨z, hz⟩ := ih (p ++ [x]) m (by rw [he]; simp) (fun y hy => hG y (List.mem_cons_of_mem _ hy)) (by simp only [List.length_cons] at hm'; omega)
    refine ⟨z, ?_⟩
    rw [L_spec_l7of_l0, if_pos (by omega), natO_nat, Option.bind_some, show a.L[p.length]? = some x by rw [he]; exact get_mid p x l, Option.bind_some, hG x List.mem_cons_self, Option.bind_some, w64_len p x (by omega)]
    rw [show knVs (x :: l) = (knV x && knVs l) by simp only [knVs]]
    unfold ofR
    by_cases hk : knV x = true
    · rw [if_pos hk, hk]
      dsimp only
      rw [if_pos (room_ok (by decide) (by rw [xOfs_len]; simp only [List.length_cons, List.length_nil]; omega)), ← xOfs_snoc, hz, Bool.true_and]
    · rw [if_neg hk, Bool.eq_false_iff.2 hk]; rfl
theorem l7of_loop2 {G : GValue → Option (GExpr × Bool)} {a : GValue} {v2 v3 v4 v5 : Int} {v6 : List UInt8} {v7 : List (List UInt8)} {v8 : List GExpr} {v9 : List UInt8} {v10 : List (List UInt8)} (ha : a.L.length ≤ 2 ^ 39) : ∀ (l p : List GValue) (m : Nat), a.L = p ++ l → (∀ x ∈ l, G x = some (ofR x)) → l.length < m → ∃ z, L_spec_l7of_l0a G a v2 v3 v4 v5 v6 v7 v8 v9 v10 m ((p.length : Nat) : Int) (xOfs p) = some (if knVs l = true then .inr (z, xOfs a.L) else .inl (false, 0, [], [], [])) := by
  intro l
  induction l with
  | nil =>
    intro p m he _ hm
    obtain ⟨m, rfl, _⟩ := fuel hm
    exact ⟨_, by rw [L_spec_l7of_l0a, he, if_neg (nlt_end p)]; simp [knVs]; rfl⟩
  | cons x l ih =>
    intro p m he hG hm
    obtain ⟨m, rfl, hm'⟩ := fuel hm
    have hlen : a.L.length = p.length + (l.length + 1) := by rw [he]; simp
    obtain ⟨z, hz⟩ := ih (p ++ [x]) m (by rw [he]; simp) (fun y hy => hG y (List.mem_cons_of_mem _ hy)) (by simp only [List.length_cons] at hm'; omega)
    refine ⟨z, ?_⟩
    rw [L_spec_l7of_l0a, if_pos (by omega), natO_nat, Option.bind_some, show a.L[p.length]? = some x by rw [he]; exact get_mid p x l, Option.bind_some, hG x List.mem_cons_self, Option.bind_some, w64_len p x (by omega)]
    rw [show knVs (x :: l) = (knV x && knVs l) by simp only [knVs]]
    unfold ofR
    by_cases hk : knV x = true
    · rw [if_pos hk, hk]
      dsimp only
      rw [if_pos (room_ok (by decide) (by rw [xOfs_len]; simp only [List.length_cons, List.length_nil]; omega)), ← xOfs_snoc, hz, Bool.true_and]
    · rw [if_neg hk, Bool.eq_false_iff.2 hk]; rfl
theorem len0 {α : Type} {l : List α} (h : l.length = 0) : l = [] := List.length_eq_zero_iff.1 h
theorem l7of_U : ∀ (N : Nat) (v : GValue), vsz v < N → vsz v ≤ 2 ^ 39 → ∀ d : Nat, shV d v = true → ∀ f : Nat, vsz v + 2 ≤ f → U_spec_l7of f v = some (ofR v) := by
  intro N
  induction N with
  | zero => intro v hv; omega
  | succ N ih =>
    intro v hv hs d hd f hf
    obtain ⟨f, rfl, _⟩ := fuel (show 0 < f by omega)
    have he := vsz_eq v
    have hl := vszs_len v.L
    cases d with
    | zero => simp [shV] at hd
    | succ d =>
    rw [shV, Bool.and_eq_true, List.all_eq_true] at hd
    obtain ⟨hloc, hkids⟩ := hd
    rw [U_spec_l7of]
    have hG : ∀ x ∈ v.L, U_spec_l7of f x = some (ofR x) := fun x hx => by
      have := vszs_mem hx
      exact ih x (by omega) (by omega) d (hkids x hx) f (by omega)
    unfold T_spec_l7of
    obtain ⟨z1, h1⟩ := l7of_loop (G := U_spec_l7of f) (a := v) (v2 := 0) (v3 := 0) (v4 := 5) (v5 := 0) (v6 := v.K) (v7 := []) (v8 := []) (v9 := []) (v10 := []) (by omega) v.L [] f rfl hG (by omega)
    obtain ⟨z2, h2⟩ := l7of_loop2 (G := U_spec_l7of f) (a := v) (v2 := 0) (v3 := 0) (v4 := 4) (v5 := 0) (v6 := []) (v7 := []) (v8 := []) (v9 := []) (v10 := []) (by omega) v.L [] f rfl hG (by omega)
    simp only [List.length_nil, Int.natCast_zero, xOfs] at h1 h2
    rw [h1, h2]
    clear h1 h2 hG ih hkids hf he hl hv hs
    obtain ⟨k, n, s, kk, l⟩ := v
    unfold locV at hloc
    unfold ofR
    rw [knV_eq, xOf_eq]
    simp only [show ∀ (a b : Int) (c : List UInt8) (d : List (List UInt8)) (e : List GValue), (GValue.mk a b c d e).Kind = a from fun _ _ _ _ _ => rfl, show ∀ (a b : Int) (c : List UInt8) (d : List (List UInt8)) (e : List GValue), (GValue.mk a b c d e).N = b from fun _ _ _ _ _ => rfl,
      show ∀ (a b : Int) (c : List UInt8) (d : List (List UInt8)) (e : List GValue), (GValue.mk a b c d e).S = c from fun _ _ _ _ _ => rfl, show ∀ (a b : Int) (c : List UInt8) (d : List (List UInt8)) (e : List GValue), (GValue.mk a b c d e).K = d from fun _ _ _ _ _ => rfl, show ∀ (a b : Int) (c : List UInt8) (d : List (List UInt8)) (e : List GValue), (GValue.mk a b c d e).L = e from fun _ _ _ _ _ => rfl] at hloc ⊢
    by_cases k0 : k = 0
    · subst k0
      simp at hloc
      obtain ⟨rfl, rfl, rfl, rfl⟩ := hloc
      rfl
    by_cases k1 : k = 1
    · subst k1
      simp at hloc
      obtain ⟨_, rfl, rfl, rfl⟩ := hloc
      simp [knVs, xOfs]
    by_cases k2 : k = 2
    · subst k2
      simp at hloc
      obtain ⟨_, rfl, rfl, rfl⟩ := hloc
      by_cases hn : n < 0 <;> simp [knVs, xOfs, hn]
    by_cases k3 : k = 3
    · subst k3
      simp at hloc
      obtain ⟨_, rfl, rfl, rfl⟩ := hloc
      simp [knVs, xOfs]
    by_cases k6 : k = 6
    · subst k6
      simp
    by_cases k5 : k = 5
    · subst k5
      simp at hloc
      obtain ⟨⟨_, rfl, rfl, _⟩, _⟩ := hloc
      cases knVs l <;> simp
    by_cases k4 : k = 4
    · subst k4
      simp at hloc
      obtain ⟨rfl, rfl, rfl, _⟩ := hloc
      cases knVs l <;> simp
    · simp [k0, k1, k2, k3, k4, k5, k6] at hloc
def S_spec_l7of (a0 : GValue) : Option (GExpr × Bool) := if vsz a0 ≤ 2 ^ 39 ∧ shV 5 a0 = true then some (ofR a0) else none
theorem spec_spec_l7of (a0 : GValue) (r : (GExpr × Bool)) (h : S_spec_l7of a0 = some r) : ∃ n, U_spec_l7of n a0 = some r := by
  unfold S_spec_l7of at h
  obtain ⟨⟨ha, hd⟩, h⟩ := need_c h
  exact ⟨vsz a0 + 2, by rw [← h]; exact l7of_U _ a0 (Nat.lt_succ_self _) ha 5 hd _ (Nat.le_refl _)⟩
theorem ok_spec_l7of (a0 : GValue) (r : (GExpr × Bool)) (h : S_spec_l7of a0 = some r) : (mach cfg).call 39 [] [.val true [.int .i64 a0.Kind, .int .i64 a0.N, .seq (eL e_u8 a0.S), .seq (eL (e_sl e_u8) a0.K), .seq (eL e_GValue a0.L)]] = some (.tup [(true, [.int .i64 r.1.Kind, .int .i64 r.1.N, .seq (eL e_u8 r.1.S), .seq (eL (e_sl e_u8) r.1.K), .seq (eL e_GExpr r.1.Kids)]), (false, [.bool r.2])], []) := by
  obtain ⟨n, hn⟩ := spec_spec_l7of a0 r h
  exact (rec_spec_l7of n) a0 r hn
def L_spec_l4ownAddrs_l0 (a0 : (List (List UInt8))) : Nat → Int → (List (List UInt8)) → Option (Int × (List (List UInt8)))
  | 0, _, _ => none
  | m + 1, v1, v2 =>
    if v1 < ((a0.length : Nat) : Int) then
      (natO v1).bind fun i2 =>
      (a0[i2]?).bind fun x3 =>
      if roomP 1 (0 + x3.length) then
      if roomP 24 (v2.length + [x3].length) then
      L_spec_l4ownAddrs_l0 a0 m (w64 (v1 + 1)) (v2 ++ [x3])
      else none
      else none
    else
      some (v1, v2)

theorem gl_spec_l4ownAddrs_l0 (a0 : (List (List UInt8))) (m : Nat) : ∀ (v1 : Int) (v2 : (List (List UInt8))) (o : (Int × (List (List UInt8)))), L_spec_l4ownAddrs_l0 a0 m v1 v2 = some o → (mach cfg).loop 72 (loopB Try.f72 0) ⟨[(0, .val false [.seq (eL (e_sl e_u8) a0)]), (3, .val false [.ref 0]), (4, .val false [.int .i64 v1])], [.obj 1 (eL (o_sl 1 e_u8) v2)], 0⟩ = some (match o with | ⟨o_0, o_1⟩ => (.exit 0, (⟨[(0, .val false [.seq (eL (e_sl e_u8) a0)]), (3, .val false [.ref 0]), (4, .val false [.int .i64 o_0]), (8, .val false [.bool false])], [.obj 1 (eL (o_sl 1 e_u8) o_1)], 0⟩ : S))) := by
  induction m with
  | zero => intro v1 v2 o h; cases h
  | succ m ih =>
    intro v1 v2 o h
    rw [L_spec_l4ownAddrs_l0] at h
    by_cases c1 : v1 < ((a0.length : Nat) : Int)
    · rw [if_pos c1] at h
      obtain ⟨i2, hi2, h⟩ := Option.bind_eq_some_iff.1 h
      obtain ⟨x3, hx3, h⟩ := Option.bind_eq_some_iff.1 h
      obtain ⟨n4, h⟩ := need_some h
      obtain ⟨n5, h⟩ := need_some h
      exact loop_on cfg [(.len (eL (e_sl e_u8) a0), .i ((a0.length : Nat) : Int)), (.ltI v1 ((a0.length : Nat) : Int), .b true), (.nat v1, .n i2), (.idx (eL (e_sl e_u8) a0) i2, .e [.seq (eL e_u8 x3)]), (.room 1 (eL e_u8 []) (eL e_u8 x3), .b true), (.uni 1 (eL e_u8 x3), .b true), (.app (eL e_u8 []) (eL e_u8 x3), .l (eL e_u8 x3)), (.room 24 (eL (o_sl 1 e_u8) v2) (eL (o_sl 1 e_u8) [x3]), .b true), (.uni 1 (eL (o_sl 1 e_u8) [x3]), .b true), (.app (eL (o_sl 1 e_u8) v2) (eL (o_sl 1 e_u8) [x3]), .l (eL (o_sl 1 e_u8) (v2 ++ [x3]))), (.add .i64 v1 1, .i (w64 (v1 + 1)))] (by kernel_rfl) ⟨A.len, (A.ltI_t c1), (A.nat hi2), (A.idx hx3 rfl), (A.room n4), (A.uni E_u8), A.app0, (A.room n5), (A.uniO (O_sl 1 O_u8)), A.app, rfl, trivial⟩ (ih (w64 (v1 + 1)) (v2 ++ [x3]) o h)
    · rw [if_neg c1] at h
      obtain rfl := Option.some.inj h
      exact loop_end cfg [(.len (eL (e_sl e_u8) a0), .i ((a0.length : Nat) : Int)), (.ltI v1 ((a0.length : Nat) : Int), .b false)] (by kernel_rfl) ⟨A.len, (A.ltI_f c1), trivial⟩ (by intro h; cases h)

def T_spec_l4ownAddrs (n : Nat) (a0 : (List (List UInt8))) : Option (List (List UInt8)) :=
  (L_spec_l4ownAddrs_l0 a0 n 0 []).bind fun ⟨o1_0, o1_1⟩ =>
  some o1_1

set_option maxRecDepth 100000 in
theorem fd_72 : cfg.funcs 72 = some (bodyOf Try.f72, Try.f72.ntmps, Try.f72.results.toList) := fn_of Try.func72 (by kernel_rfl) (by kernel_rfl)
theorem g_spec_l4ownAddrs (n : Nat) (a0 : (List (List UInt8))) (r : (List (List UInt8))) (h : T_spec_l4ownAddrs n a0 = some r) : (mach cfg).call 72 [] [.val false [.seq (eL (e_sl e_u8) a0)]] = some (.val false [.own 1 (eL (o_sl 1 e_u8) r)], []) := by
  unfold T_spec_l4ownAddrs at h
  obtain ⟨⟨o1_0, o1_1⟩, ho1, h⟩ := Option.bind_eq_some_iff.1 h
  try dsimp only at h
  obtain rfl := Option.some.inj h
  exact call_way cfg [(.loop 72 (loopB Try.f72 0) ⟨[(0, .val false [.seq (eL (e_sl e_u8) a0)]), (3, .val false [.ref 0]), (4, .val false [.int .i64 0])], [.obj 1 (eL (o_sl 1 e_u8) [])], 0⟩, .x (.exit 0) ⟨[(0, .val false [.seq (eL (e_sl e_u8) a0)]), (3, .val false [.ref 0]), (4, .val false [.int .i64 o1_0]), (8, .val false [.bool false])], [.obj 1 (eL (o_sl 1 e_u8) o1_1)], 0⟩)] rfl fd_72 (by kernel_rfl) ⟨(A.loop (gl_spec_l4ownAddrs_l0 a0 _ 0 [] _ ho1)), trivial⟩

theorem l4own_loop {a : List (List UInt8)} (ha : bsz a ≤ 2 ^ 39) : ∀ (l p : List (List UInt8)) (m : Nat), a = p ++ l → l.length < m → ∃ z, L_spec_l4ownAddrs_l0 a m ((p.length : Nat) : Int) p = some (z, a) := by
  have hl := bsz_len a
  intro l
  induction l with
  | nil =>
    intro p m he hm
    subst he
    obtain ⟨m, rfl, _⟩ := fuel hm
    exact ⟨_, by rw [L_spec_l4ownAddrs_l0, if_neg (nlt_end p)]; simp; rfl⟩
  | cons x l ih =>
    intro p m he hm
    obtain ⟨m, rfl, hm'⟩ := fuel hm
    have hx : 1 + x.length ≤ bsz a := bsz_mem (by rw [he]; simp)
    have hlen : a.length = p.length + (l.length + 1) := by rw [he]; simp
    obtain ⟨z, hz⟩ := ih (p ++ [x]) m (by rw [he]; simp) (by simp only [List.length_cons] at hm'; omega)
    refine ⟨z, ?_⟩
    rw [L_spec_l4ownAddrs_l0, if_pos (by rw [he]; exact lt_mid p x l), natO_nat, Option.bind_some, show a[p.length]? = some x by rw [he]; exact get_mid p x l, Option.bind_some, if_pos (room_ok (by decide) (by omega)), if_pos (room_ok (by decide) (by simp only [List.length_cons, List.length_nil]; omega)), w64_len p x (by omega), hz]
def S_spec_l4ownAddrs (a0 : (List (List UInt8))) : Option (List (List UInt8)) := if bsz a0 ≤ 2 ^ 39 then some a0 else none
theorem spec_spec_l4ownAddrs (a0 : (List (List UInt8))) (r : (List (List UInt8))) (h : S_spec_l4ownAddrs a0 = some r) : ∃ n, T_spec_l4ownAddrs n a0 = some r := by
  unfold S_spec_l4ownAddrs at h
  obtain ⟨ha, h⟩ := need_c h
  obtain ⟨z, hz⟩ := l4own_loop ha a0 [] (a0.length + 1) rfl (by omega)
  refine ⟨a0.length + 1, ?_⟩
  unfold T_spec_l4ownAddrs
  simp only [List.length_nil, Int.natCast_zero] at hz
  rw [hz]; exact h
theorem ok_spec_l4ownAddrs (a0 : (List (List UInt8))) (r : (List (List UInt8))) (h : S_spec_l4ownAddrs a0 = some r) : (mach cfg).call 72 [] [.val false [.seq (eL (e_sl e_u8) a0)]] = some (.val false [.own 1 (eL (o_sl 1 e_u8) r)], []) := by
  obtain ⟨n, hn⟩ := spec_spec_l4ownAddrs a0 r h
  exact g_spec_l4ownAddrs n a0 r hn
end
end Go.Am.Try
