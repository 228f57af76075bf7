/- The functions of the program in plain Lean, and that the machine answers as they do; conditions at each theorem. -/
import Derived.Test.YtnhmhmjgeffboaaEG1
set_option linter.unusedVariables false
set_option linter.unusedSimpArgs false
namespace Go.Am.Try
open Go.Am Go.Proofs
set_option linter.unusedVariables false
set_option maxRecDepth 20000
set_option maxHeartbeats 2000000
noncomputable section
def L_spec_l2ok_l0 (G_spec_l2ok : GValue → Int → Int → Option Int) (a1 : Int) (a0 : GValue) : Nat → Int → Int → Option (Int ⊕ (Int × Int))
  | 0, _, _ => none
  | m + 1, v1, v2 =>
    if v2 < ((a0.L.length : Nat) : Int) then
      if a0.Kind = 5 then
        (natO v2).bind fun i3 =>
        (a0.K[i3]?).bind fun x4 =>
        (S_spec_NameOk x4).bind fun r5 =>
        match r5 with
        | true =>
          if 0 < v2 then
            (natO (w64 (v2 - 1))).bind fun i8 =>
            (a0.K[i8]?).bind fun x9 =>
            if Op.bytesLess x9 x4 = true then
              (a0.L[i3]?).bind fun x11 =>
              (G_spec_l2ok x11 (w64 (a1 + 1)) v1).bind fun r12 =>
              if r12 < 0 then
                some (.inl (-1))
              else
                L_spec_l2ok_l0 G_spec_l2ok a1 a0 m r12 (w64 (v2 + 1))
            else
              some (.inl (-1))
          else
            (a0.L[i3]?).bind fun x8 =>
            (G_spec_l2ok x8 (w64 (a1 + 1)) v1).bind fun r9 =>
            if r9 < 0 then
              some (.inl (-1))
            else
              L_spec_l2ok_l0 G_spec_l2ok a1 a0 m r9 (w64 (v2 + 1))
        | false =>
          some (.inl (-1))
      else
        (natO v2).bind fun i3 =>
        (a0.L[i3]?).bind fun x4 =>
        (G_spec_l2ok x4 (w64 (a1 + 1)) v1).bind fun r5 =>
        if r5 < 0 then
          some (.inl (-1))
        else
          L_spec_l2ok_l0 G_spec_l2ok a1 a0 m r5 (w64 (v2 + 1))
    else
      some (.inr (v1, v2))

theorem gl_spec_l2ok_l0 (G_spec_l2ok : GValue → Int → Int → Option Int) (H_spec_l2ok : ∀ (a0 : GValue) (a1 : Int) (a2 : Int) (r : Int), G_spec_l2ok a0 a1 a2 = some r → (mach cfg).call 66 [] [.val true [.int .i64 a0.Kind, .int .i64 a0.N, .seq (eL e_u8 a0.S), .seq (eL (e_sl e_u8) a0.K), .seq (eL e_GValue a0.L)], .val false [.int .i64 a1], .val false [.int .i64 a2]] = some (.val false [.int .i64 r], [])) (a1 : Int) (a0 : GValue) (m : Nat) : ∀ (v1 : Int) (v2 : Int) (o : (Int ⊕ (Int × Int))), L_spec_l2ok_l0 G_spec_l2ok a1 a0 m v1 v2 = some o → (mach cfg).loop 66 (loopB Try.f66 0) ⟨[(1, .val false [.int .i64 a1]), (2, .val false [.int .i64 v1]), (3, .val false [.ptr 0 0]), (7, .val false [.int .i64 v2])], [.var [.int .i64 a0.Kind, .int .i64 a0.N, .seq (eL e_u8 a0.S), .seq (eL (e_sl e_u8) a0.K), .seq (eL e_GValue a0.L)]], 0⟩ = some (match o with | .inl o_0 => (.ret, (⟨[(6, .val false [.int .i64 o_0])], [], 0⟩ : S)) | .inr (⟨o_1_0, o_1_1⟩) => (.exit 1, (⟨[(1, .val false [.int .i64 a1]), (2, .val false [.int .i64 o_1_0]), (3, .val false [.ptr 0 0]), (7, .val false [.int .i64 o_1_1]), (117, .val false [.bool false])], [.var [.int .i64 a0.Kind, .int .i64 a0.N, .seq (eL e_u8 a0.S), .seq (eL (e_sl e_u8) a0.K), .seq (eL e_GValue a0.L)]], 0⟩ : S))) := by
  induction m with
  | zero => intro v1 v2 o h; cases h
  | succ m ih =>
    intro v1 v2 o h
    rw [L_spec_l2ok_l0] at h
    by_cases c1 : v2 < ((a0.L.length : Nat) : Int)
    · rw [if_pos c1] at h
      by_cases c2 : a0.Kind = 5
      · rw [if_pos c2] at h
        obtain ⟨i3, hi3, h⟩ := Option.bind_eq_some_iff.1 h
        obtain ⟨x4, hx4, h⟩ := Option.bind_eq_some_iff.1 h
        obtain ⟨r5, hr5, h⟩ := Option.bind_eq_some_iff.1 h
        cases r5 with
        | true =>
          try dsimp only at h
          by_cases c7 : 0 < v2
          · rw [if_pos c7] at h
            obtain ⟨i8, hi8, h⟩ := Option.bind_eq_some_iff.1 h
            obtain ⟨x9, hx9, h⟩ := Option.bind_eq_some_iff.1 h
            by_cases c10 : Op.bytesLess x9 x4 = true
            · rw [if_pos c10] at h
              obtain ⟨x11, hx11, h⟩ := Option.bind_eq_some_iff.1 h
              obtain ⟨r12, hr12, h⟩ := Option.bind_eq_some_iff.1 h
              by_cases c13 : r12 < 0
              · rw [if_pos c13] at h
                obtain rfl := Option.some.inj h
                exact loop_end cfg [(.len (eL e_GValue a0.L), .i ((a0.L.length : Nat) : Int)), (.ltI v2 ((a0.L.length : Nat) : Int), .b true), (.eqI a0.Kind 5, .b true), (.nat v2, .n i3), (.idx (eL (e_sl e_u8) a0.K) i3, .e [.seq (eL e_u8 x4)]), (.call 93 [] [.val false [.seq (eL e_u8 x4)]], .r (.val false [.bool true]) []), (.notB true, .b false), (.ltI 0 v2, .b true), (.sub .i64 v2 1, .i (w64 (v2 - 1))), (.nat (w64 (v2 - 1)), .n i8), (.idx (eL (e_sl e_u8) a0.K) i8, .e [.seq (eL e_u8 x9)]), (.bytes (eL e_u8 x9), .s x9), (.nat v2, .n i3), (.idx (eL (e_sl e_u8) a0.K) i3, .e [.seq (eL e_u8 x4)]), (.bytes (eL e_u8 x4), .s x4), (.ltS x9 x4, .b true), (.notB true, .b false), (.nat v2, .n i3), (.idx (eL e_GValue a0.L) i3, .e [.int .i64 x11.Kind, .int .i64 x11.N, .seq (eL e_u8 x11.S), .seq (eL (e_sl e_u8) x11.K), .seq (eL e_GValue x11.L)]), (.add .i64 a1 1, .i (w64 (a1 + 1))), (.call 66 [] [.val true [.int .i64 x11.Kind, .int .i64 x11.N, .seq (eL e_u8 x11.S), .seq (eL (e_sl e_u8) x11.K), .seq (eL e_GValue x11.L)], .val false [.int .i64 (w64 (a1 + 1))], .val false [.int .i64 v1]], .r (.val false [.int .i64 r12]) []), (.ltI r12 0, .b true)] (by kernel_rfl) ⟨A.len, (A.ltI_t c1), (A.eqI_t c2), (A.nat hi3), (A.idx hx4 rfl), (A.call (ok_spec_NameOk x4 _ hr5)), rfl, (A.ltI_t c7), rfl, (A.nat hi8), (A.idx hx9 rfl), A.bytes, (A.nat hi3), (A.idx hx4 rfl), A.bytes, (A.ltS_t c10), rfl, (A.nat hi3), (A.idx hx11 (eq_GValue x11)), rfl, (A.call (H_spec_l2ok x11 (w64 (a1 + 1)) v1 _ hr12)), (A.ltI_t c13), trivial⟩ (by intro h; cases h)
              · rw [if_neg c13] at h
                exact loop_on cfg [(.len (eL e_GValue a0.L), .i ((a0.L.length : Nat) : Int)), (.ltI v2 ((a0.L.length : Nat) : Int), .b true), (.eqI a0.Kind 5, .b true), (.nat v2, .n i3), (.idx (eL (e_sl e_u8) a0.K) i3, .e [.seq (eL e_u8 x4)]), (.call 93 [] [.val false [.seq (eL e_u8 x4)]], .r (.val false [.bool true]) []), (.notB true, .b false), (.ltI 0 v2, .b true), (.sub .i64 v2 1, .i (w64 (v2 - 1))), (.nat (w64 (v2 - 1)), .n i8), (.idx (eL (e_sl e_u8) a0.K) i8, .e [.seq (eL e_u8 x9)]), (.bytes (eL e_u8 x9), .s x9), (.nat v2, .n i3), (.idx (eL (e_sl e_u8) a0.K) i3, .e [.seq (eL e_u8 x4)]), (.bytes (eL e_u8 x4), .s x4), (.ltS x9 x4, .b true), (.notB true, .b false), (.nat v2, .n i3), (.idx (eL e_GValue a0.L) i3, .e [.int .i64 x11.Kind, .int .i64 x11.N, .seq (eL e_u8 x11.S), .seq (eL (e_sl e_u8) x11.K), .seq (eL e_GValue x11.L)]), (.add .i64 a1 1, .i (w64 (a1 + 1))), (.call 66 [] [.val true [.int .i64 x11.Kind, .int .i64 x11.N, .seq (eL e_u8 x11.S), .seq (eL (e_sl e_u8) x11.K), .seq (eL e_GValue x11.L)], .val false [.int .i64 (w64 (a1 + 1))], .val false [.int .i64 v1]], .r (.val false [.int .i64 r12]) []), (.ltI r12 0, .b false), (.add .i64 v2 1, .i (w64 (v2 + 1)))] (by kernel_rfl) ⟨A.len, (A.ltI_t c1), (A.eqI_t c2), (A.nat hi3), (A.idx hx4 rfl), (A.call (ok_spec_NameOk x4 _ hr5)), rfl, (A.ltI_t c7), rfl, (A.nat hi8), (A.idx hx9 rfl), A.bytes, (A.nat hi3), (A.idx hx4 rfl), A.bytes, (A.ltS_t c10), rfl, (A.nat hi3), (A.idx hx11 (eq_GValue x11)), rfl, (A.call (H_spec_l2ok x11 (w64 (a1 + 1)) v1 _ hr12)), (A.ltI_f c13), rfl, trivial⟩ (ih r12 (w64 (v2 + 1)) o h)
            · rw [if_neg c10] at h
              obtain rfl := Option.some.inj h
              exact loop_end cfg [(.len (eL e_GValue a0.L), .i ((a0.L.length : Nat) : Int)), (.ltI v2 ((a0.L.length : Nat) : Int), .b true), (.eqI a0.Kind 5, .b true), (.nat v2, .n i3), (.idx (eL (e_sl e_u8) a0.K) i3, .e [.seq (eL e_u8 x4)]), (.call 93 [] [.val false [.seq (eL e_u8 x4)]], .r (.val false [.bool true]) []), (.notB true, .b false), (.ltI 0 v2, .b true), (.sub .i64 v2 1, .i (w64 (v2 - 1))), (.nat (w64 (v2 - 1)), .n i8), (.idx (eL (e_sl e_u8) a0.K) i8, .e [.seq (eL e_u8 x9)]), (.bytes (eL e_u8 x9), .s x9), (.nat v2, .n i3), (.idx (eL (e_sl e_u8) a0.K) i3, .e [.seq (eL e_u8 x4)]), (.bytes (eL e_u8 x4), .s x4), (.ltS x9 x4, .b false), (.notB false, .b true)] (by kernel_rfl) ⟨A.len, (A.ltI_t c1), (A.eqI_t c2), (A.nat hi3), (A.idx hx4 rfl), (A.call (ok_spec_NameOk x4 _ hr5)), rfl, (A.ltI_t c7), rfl, (A.nat hi8), (A.idx hx9 rfl), A.bytes, (A.nat hi3), (A.idx hx4 rfl), A.bytes, (A.ltS_f c10), rfl, trivial⟩ (by intro h; cases h)
          · rw [if_neg c7] at h
            obtain ⟨x8, hx8, h⟩ := Option.bind_eq_some_iff.1 h
            obtain ⟨r9, hr9, h⟩ := Option.bind_eq_some_iff.1 h
            by_cases c10 : r9 < 0
            · rw [if_pos c10] at h
              obtain rfl := Option.some.inj h
              exact loop_end cfg [(.len (eL e_GValue a0.L), .i ((a0.L.length : Nat) : Int)), (.ltI v2 ((a0.L.length : Nat) : Int), .b true), (.eqI a0.Kind 5, .b true), (.nat v2, .n i3), (.idx (eL (e_sl e_u8) a0.K) i3, .e [.seq (eL e_u8 x4)]), (.call 93 [] [.val false [.seq (eL e_u8 x4)]], .r (.val false [.bool true]) []), (.notB true, .b false), (.ltI 0 v2, .b false), (.nat v2, .n i3), (.idx (eL e_GValue a0.L) i3, .e [.int .i64 x8.Kind, .int .i64 x8.N, .seq (eL e_u8 x8.S), .seq (eL (e_sl e_u8) x8.K), .seq (eL e_GValue x8.L)]), (.add .i64 a1 1, .i (w64 (a1 + 1))), (.call 66 [] [.val true [.int .i64 x8.Kind, .int .i64 x8.N, .seq (eL e_u8 x8.S), .seq (eL (e_sl e_u8) x8.K), .seq (eL e_GValue x8.L)], .val false [.int .i64 (w64 (a1 + 1))], .val false [.int .i64 v1]], .r (.val false [.int .i64 r9]) []), (.ltI r9 0, .b true)] (by kernel_rfl) ⟨A.len, (A.ltI_t c1), (A.eqI_t c2), (A.nat hi3), (A.idx hx4 rfl), (A.call (ok_spec_NameOk x4 _ hr5)), rfl, (A.ltI_f c7), (A.nat hi3), (A.idx hx8 (eq_GValue x8)), rfl, (A.call (H_spec_l2ok x8 (w64 (a1 + 1)) v1 _ hr9)), (A.ltI_t c10), trivial⟩ (by intro h; cases h)
            · rw [if_neg c10] at h
              exact loop_on cfg [(.len (eL e_GValue a0.L), .i ((a0.L.length : Nat) : Int)), (.ltI v2 ((a0.L.length : Nat) : Int), .b true), (.eqI a0.Kind 5, .b true), (.nat v2, .n i3), (.idx (eL (e_sl e_u8) a0.K) i3, .e [.seq (eL e_u8 x4)]), (.call 93 [] [.val false [.seq (eL e_u8 x4)]], .r (.val false [.bool true]) []), (.notB true, .b false), (.ltI 0 v2, .b false), (.nat v2, .n i3), (.idx (eL e_GValue a0.L) i3, .e [.int .i64 x8.Kind, .int .i64 x8.N, .seq (eL e_u8 x8.S), .seq (eL (e_sl e_u8) x8.K), .seq (eL e_GValue x8.L)]), (.add .i64 a1 1, .i (w64 (a1 + 1))), (.call 66 [] [.val true [.int .i64 x8.Kind, .int .i64 x8.N, .seq (eL e_u8 x8.S), .seq (eL (e_sl e_u8) x8.K), .seq (eL e_GValue x8.L)], .val false [.int .i64 (w64 (a1 + 1))], .val false [.int .i64 v1]], .r (.val false [.int .i64 r9]) []), (.ltI r9 0, .b false), (.add .i64 v2 1, .i (w64 (v2 + 1)))] (by kernel_rfl) ⟨A.len, (A.ltI_t c1), (A.eqI_t c2), (A.nat hi3), (A.idx hx4 rfl), (A.call (ok_spec_NameOk x4 _ hr5)), rfl, (A.ltI_f c7), (A.nat hi3), (A.idx hx8 (eq_GValue x8)), rfl, (A.call (H_spec_l2ok x8 (w64 (a1 + 1)) v1 _ hr9)), (A.ltI_f c10), rfl, trivial⟩ (ih r9 (w64 (v2 + 1)) o h)
        | false =>
          try dsimp only at h
          obtain rfl := Option.some.inj h
          exact loop_end cfg [(.len (eL e_GValue a0.L), .i ((a0.L.length : Nat) : Int)), (.ltI v2 ((a0.L.length : Nat) : Int), .b true), (.eqI a0.Kind 5, .b true), (.nat v2, .n i3), (.idx (eL (e_sl e_u8) a0.K) i3, .e [.seq (eL e_u8 x4)]), (.call 93 [] [.val false [.seq (eL e_u8 x4)]], .r (.val false [.bool false]) []), (.notB false, .b true)] (by kernel_rfl) ⟨A.len, (A.ltI_t c1), (A.eqI_t c2), (A.nat hi3), (A.idx hx4 rfl), (A.call (ok_spec_NameOk x4 _ hr5)), rfl, trivial⟩ (by intro h; cases h)
      · rw [if_neg c2] at h
        obtain ⟨i3, hi3, h⟩ := Option.bind_eq_some_iff.1 h
        obtain ⟨x4, hx4, h⟩ := Option.bind_eq_some_iff.1 h
        obtain ⟨r5, hr5, h⟩ := Option.bind_eq_some_iff.1 h
        by_cases c6 : r5 < 0
        · rw [if_pos c6] at h
          obtain rfl := Option.some.inj h
          exact loop_end cfg [(.len (eL e_GValue a0.L), .i ((a0.L.length : Nat) : Int)), (.ltI v2 ((a0.L.length : Nat) : Int), .b true), (.eqI a0.Kind 5, .b false), (.nat v2, .n i3), (.idx (eL e_GValue a0.L) i3, .e [.int .i64 x4.Kind, .int .i64 x4.N, .seq (eL e_u8 x4.S), .seq (eL (e_sl e_u8) x4.K), .seq (eL e_GValue x4.L)]), (.add .i64 a1 1, .i (w64 (a1 + 1))), (.call 66 [] [.val true [.int .i64 x4.Kind, .int .i64 x4.N, .seq (eL e_u8 x4.S), .seq (eL (e_sl e_u8) x4.K), .seq (eL e_GValue x4.L)], .val false [.int .i64 (w64 (a1 + 1))], .val false [.int .i64 v1]], .r (.val false [.int .i64 r5]) []), (.ltI r5 0, .b true)] (by kernel_rfl) ⟨A.len, (A.ltI_t c1), (A.eqI_f c2), (A.nat hi3), (A.idx hx4 (eq_GValue x4)), rfl, (A.call (H_spec_l2ok x4 (w64 (a1 + 1)) v1 _ hr5)), (A.ltI_t c6), trivial⟩ (by intro h; cases h)
        · rw [if_neg c6] at h
          exact loop_on cfg [(.len (eL e_GValue a0.L), .i ((a0.L.length : Nat) : Int)), (.ltI v2 ((a0.L.length : Nat) : Int), .b true), (.eqI a0.Kind 5, .b false), (.nat v2, .n i3), (.idx (eL e_GValue a0.L) i3, .e [.int .i64 x4.Kind, .int .i64 x4.N, .seq (eL e_u8 x4.S), .seq (eL (e_sl e_u8) x4.K), .seq (eL e_GValue x4.L)]), (.add .i64 a1 1, .i (w64 (a1 + 1))), (.call 66 [] [.val true [.int .i64 x4.Kind, .int .i64 x4.N, .seq (eL e_u8 x4.S), .seq (eL (e_sl e_u8) x4.K), .seq (eL e_GValue x4.L)], .val false [.int .i64 (w64 (a1 + 1))], .val false [.int .i64 v1]], .r (.val false [.int .i64 r5]) []), (.ltI r5 0, .b false), (.add .i64 v2 1, .i (w64 (v2 + 1)))] (by kernel_rfl) ⟨A.len, (A.ltI_t c1), (A.eqI_f c2), (A.nat hi3), (A.idx hx4 (eq_GValue x4)), rfl, (A.call (H_spec_l2ok x4 (w64 (a1 + 1)) v1 _ hr5)), (A.ltI_f c6), rfl, trivial⟩ (ih r5 (w64 (v2 + 1)) o h)
    · rw [if_neg c1] at h
      obtain rfl := Option.some.inj h
      exact loop_end cfg [(.len (eL e_GValue a0.L), .i ((a0.L.length : Nat) : Int)), (.ltI v2 ((a0.L.length : Nat) : Int), .b false)] (by kernel_rfl) ⟨A.len, (A.ltI_f c1), trivial⟩ (by intro h; cases h)

def T_spec_l2ok (G_spec_l2ok : GValue → Int → Int → Option Int) (n : Nat) (a0 : GValue) (a1 : Int) (a2 : Int) : Option Int :=
  if (w64 (a2 - 1)) < 0 then
    some (-1)
  else
    if 5 < a1 then
      some (-1)
    else
      if a0.Kind = 3 then
        if 0 < ((a0.K.length : Nat) : Int) then
          some (-1)
        else
          if a0.N = 0 then
            if 0 < ((a0.L.length : Nat) : Int) then
              some (-1)
            else
              (S_spec_l2text a0.S).bind fun r7 =>
              match r7 with
              | true =>
                some (w64 (a2 - 1))
              | false =>
                some (-1)
          else
            some (-1)
      else
        if 0 < ((a0.S.length : Nat) : Int) then
          some (-1)
        else
          if a0.Kind = 5 then
            if a0.N = 0 then
              if ((a0.K.length : Nat) : Int) = ((a0.L.length : Nat) : Int) then
                (L_spec_l2ok_l0 G_spec_l2ok a1 a0 n (w64 (a2 - 1)) 0).bind fun o8 =>
                match o8 with
                | .inl o8_0 =>
                  some o8_0
                | .inr (⟨o8_1_0, o8_1_1⟩) =>
                  some o8_1_0
              else
                some (-1)
            else
              some (-1)
          else
            if 0 < ((a0.K.length : Nat) : Int) then
              some (-1)
            else
              if a0.Kind = 1 then
                if 0 < ((a0.L.length : Nat) : Int) then
                  some (-1)
                else
                  if a0.N < 0 then
                    some (-1)
                  else
                    if 1 < a0.N then
                      some (-1)
                    else
                      some (w64 (a2 - 1))
              else
                if a0.Kind = 2 then
                  if 0 < ((a0.L.length : Nat) : Int) then
                    some (-1)
                  else
                    (S_spec_l2int a0.N).bind fun r10 =>
                    match r10 with
                    | true =>
                      some (w64 (a2 - 1))
                    | false =>
                      some (-1)
                else
                  if a0.N = 0 then
                    if a0.Kind = 4 then
                      (L_spec_l2ok_l0 G_spec_l2ok a1 a0 n (w64 (a2 - 1)) 0).bind fun o11 =>
                      match o11 with
                      | .inl o11_0 =>
                        some o11_0
                      | .inr (⟨o11_1_0, o11_1_1⟩) =>
                        some o11_1_0
                    else
                      if 0 < ((a0.L.length : Nat) : Int) then
                        some (-1)
                      else
                        if a0.Kind = 0 then
                          some (w64 (a2 - 1))
                        else
                          if a0.Kind = 6 then
                            some (w64 (a2 - 1))
                          else
                            some (-1)
                  else
                    some (-1)

set_option maxRecDepth 100000 in
theorem fd_66 : cfg.funcs 66 = some (bodyOf Try.f66, Try.f66.ntmps, Try.f66.results.toList) := fn_of Try.func66 (by kernel_rfl) (by kernel_rfl)
theorem g_spec_l2ok (G_spec_l2ok : GValue → Int → Int → Option Int) (H_spec_l2ok : ∀ (a0 : GValue) (a1 : Int) (a2 : Int) (r : Int), G_spec_l2ok a0 a1 a2 = some r → (mach cfg).call 66 [] [.val true [.int .i64 a0.Kind, .int .i64 a0.N, .seq (eL e_u8 a0.S), .seq (eL (e_sl e_u8) a0.K), .seq (eL e_GValue a0.L)], .val false [.int .i64 a1], .val false [.int .i64 a2]] = some (.val false [.int .i64 r], [])) (n : Nat) (a0 : GValue) (a1 : Int) (a2 : Int) (r : Int) (h : T_spec_l2ok G_spec_l2ok n a0 a1 a2 = some r) : (mach cfg).call 66 [] [.val true [.int .i64 a0.Kind, .int .i64 a0.N, .seq (eL e_u8 a0.S), .seq (eL (e_sl e_u8) a0.K), .seq (eL e_GValue a0.L)], .val false [.int .i64 a1], .val false [.int .i64 a2]] = some (.val false [.int .i64 r], []) := by
  unfold T_spec_l2ok at h
  by_cases c1 : (w64 (a2 - 1)) < 0
  · rw [if_pos c1] at h
    obtain rfl := Option.some.inj h
    exact call_way cfg [(.sub .i64 a2 1, .i (w64 (a2 - 1))), (.ltI (w64 (a2 - 1)) 0, .b true)] rfl fd_66 (by kernel_rfl) ⟨rfl, (A.ltI_t c1), trivial⟩
  · rw [if_neg c1] at h
    by_cases c2 : 5 < a1
    · rw [if_pos c2] at h
      obtain rfl := Option.some.inj h
      exact call_way cfg [(.sub .i64 a2 1, .i (w64 (a2 - 1))), (.ltI (w64 (a2 - 1)) 0, .b false), (.ltI 5 a1, .b true)] rfl fd_66 (by kernel_rfl) ⟨rfl, (A.ltI_f c1), (A.ltI_t c2), trivial⟩
    · rw [if_neg c2] at h
      by_cases c3 : a0.Kind = 3
      · rw [if_pos c3] at h
        by_cases c4 : 0 < ((a0.K.length : Nat) : Int)
        · rw [if_pos c4] at h
          obtain rfl := Option.some.inj h
          exact call_way cfg [(.sub .i64 a2 1, .i (w64 (a2 - 1))), (.ltI (w64 (a2 - 1)) 0, .b false), (.ltI 5 a1, .b false), (.eqI a0.Kind 3, .b true), (.notB true, .b false), (.eqI a0.Kind 5, .b false), (.notB false, .b true), (.len (eL (e_sl e_u8) a0.K), .i ((a0.K.length : Nat) : Int)), (.ltI 0 ((a0.K.length : Nat) : Int), .b true)] rfl fd_66 (by kernel_rfl) ⟨rfl, (A.ltI_f c1), (A.ltI_f c2), (A.eqI_t c3), rfl, (A.eqI_f (by omega)), rfl, A.len, (A.ltI_t c4), trivial⟩
        · rw [if_neg c4] at h
          by_cases c5 : a0.N = 0
          · rw [if_pos c5] at h
            by_cases c6 : 0 < ((a0.L.length : Nat) : Int)
            · rw [if_pos c6] at h
              obtain rfl := Option.some.inj h
              exact call_way cfg [(.sub .i64 a2 1, .i (w64 (a2 - 1))), (.ltI (w64 (a2 - 1)) 0, .b false), (.ltI 5 a1, .b false), (.eqI a0.Kind 3, .b true), (.notB true, .b false), (.eqI a0.Kind 5, .b false), (.notB false, .b true), (.len (eL (e_sl e_u8) a0.K), .i ((a0.K.length : Nat) : Int)), (.ltI 0 ((a0.K.length : Nat) : Int), .b false), (.eqI a0.Kind 1, .b false), (.notB false, .b true), (.eqI a0.Kind 2, .b false), (.notB false, .b true), (.eqI a0.N 0, .b true), (.notB true, .b false), (.eqI a0.Kind 4, .b false), (.notB false, .b true), (.eqI a0.Kind 5, .b false), (.notB false, .b true), (.len (eL e_GValue a0.L), .i ((a0.L.length : Nat) : Int)), (.ltI 0 ((a0.L.length : Nat) : Int), .b true)] rfl fd_66 (by kernel_rfl) ⟨rfl, (A.ltI_f c1), (A.ltI_f c2), (A.eqI_t c3), rfl, (A.eqI_f (by omega)), rfl, A.len, (A.ltI_f c4), (A.eqI_f (by omega)), rfl, (A.eqI_f (by omega)), rfl, (A.eqI_t c5), rfl, (A.eqI_f (by omega)), rfl, (A.eqI_f (by omega)), rfl, A.len, (A.ltI_t c6), trivial⟩
            · rw [if_neg c6] at h
              obtain ⟨r7, hr7, h⟩ := Option.bind_eq_some_iff.1 h
              cases r7 with
              | true =>
                try dsimp only at h
                obtain rfl := Option.some.inj h
                exact call_way cfg [(.sub .i64 a2 1, .i (w64 (a2 - 1))), (.ltI (w64 (a2 - 1)) 0, .b false), (.ltI 5 a1, .b false), (.eqI a0.Kind 3, .b true), (.notB true, .b false), (.eqI a0.Kind 5, .b false), (.notB false, .b true), (.len (eL (e_sl e_u8) a0.K), .i ((a0.K.length : Nat) : Int)), (.ltI 0 ((a0.K.length : Nat) : Int), .b false), (.eqI a0.Kind 1, .b false), (.notB false, .b true), (.eqI a0.Kind 2, .b false), (.notB false, .b true), (.eqI a0.N 0, .b true), (.notB true, .b false), (.eqI a0.Kind 4, .b false), (.notB false, .b true), (.eqI a0.Kind 5, .b false), (.notB false, .b true), (.len (eL e_GValue a0.L), .i ((a0.L.length : Nat) : Int)), (.ltI 0 ((a0.L.length : Nat) : Int), .b false), (.eqI a0.Kind 0, .b false), (.eqI a0.Kind 6, .b false), (.eqI a0.Kind 1, .b false), (.eqI a0.Kind 2, .b false), (.eqI a0.Kind 3, .b true), (.call 92 [] [.val false [.seq (eL e_u8 a0.S)]], .r (.val false [.bool true]) []), (.notB true, .b false)] rfl fd_66 (by kernel_rfl) ⟨rfl, (A.ltI_f c1), (A.ltI_f c2), (A.eqI_t c3), rfl, (A.eqI_f (by omega)), rfl, A.len, (A.ltI_f c4), (A.eqI_f (by omega)), rfl, (A.eqI_f (by omega)), rfl, (A.eqI_t c5), rfl, (A.eqI_f (by omega)), rfl, (A.eqI_f (by omega)), rfl, A.len, (A.ltI_f c6), (A.eqI_f (by omega)), (A.eqI_f (by omega)), (A.eqI_f (by omega)), (A.eqI_f (by omega)), (A.eqI_t c3), (A.call (ok_spec_l2text a0.S _ hr7)), rfl, trivial⟩
              | false =>
                try dsimp only at h
                obtain rfl := Option.some.inj h
                exact call_way cfg [(.sub .i64 a2 1, .i (w64 (a2 - 1))), (.ltI (w64 (a2 - 1)) 0, .b false), (.ltI 5 a1, .b false), (.eqI a0.Kind 3, .b true), (.notB true, .b false), (.eqI a0.Kind 5, .b false), (.notB false, .b true), (.len (eL (e_sl e_u8) a0.K), .i ((a0.K.length : Nat) : Int)), (.ltI 0 ((a0.K.length : Nat) : Int), .b false), (.eqI a0.Kind 1, .b false), (.notB false, .b true), (.eqI a0.Kind 2, .b false), (.notB false, .b true), (.eqI a0.N 0, .b true), (.notB true, .b false), (.eqI a0.Kind 4, .b false), (.notB false, .b true), (.eqI a0.Kind 5, .b false), (.notB false, .b true), (.len (eL e_GValue a0.L), .i ((a0.L.length : Nat) : Int)), (.ltI 0 ((a0.L.length : Nat) : Int), .b false), (.eqI a0.Kind 0, .b false), (.eqI a0.Kind 6, .b false), (.eqI a0.Kind 1, .b false), (.eqI a0.Kind 2, .b false), (.eqI a0.Kind 3, .b true), (.call 92 [] [.val false [.seq (eL e_u8 a0.S)]], .r (.val false [.bool false]) []), (.notB false, .b true)] rfl fd_66 (by kernel_rfl) ⟨rfl, (A.ltI_f c1), (A.ltI_f c2), (A.eqI_t c3), rfl, (A.eqI_f (by omega)), rfl, A.len, (A.ltI_f c4), (A.eqI_f (by omega)), rfl, (A.eqI_f (by omega)), rfl, (A.eqI_t c5), rfl, (A.eqI_f (by omega)), rfl, (A.eqI_f (by omega)), rfl, A.len, (A.ltI_f c6), (A.eqI_f (by omega)), (A.eqI_f (by omega)), (A.eqI_f (by omega)), (A.eqI_f (by omega)), (A.eqI_t c3), (A.call (ok_spec_l2text a0.S _ hr7)), rfl, trivial⟩
          · rw [if_neg c5] at h
            obtain rfl := Option.some.inj h
            exact call_way cfg [(.sub .i64 a2 1, .i (w64 (a2 - 1))), (.ltI (w64 (a2 - 1)) 0, .b false), (.ltI 5 a1, .b false), (.eqI a0.Kind 3, .b true), (.notB true, .b false), (.eqI a0.Kind 5, .b false), (.notB false, .b true), (.len (eL (e_sl e_u8) a0.K), .i ((a0.K.length : Nat) : Int)), (.ltI 0 ((a0.K.length : Nat) : Int), .b false), (.eqI a0.Kind 1, .b false), (.notB false, .b true), (.eqI a0.Kind 2, .b false), (.notB false, .b true), (.eqI a0.N 0, .b false), (.notB false, .b true)] rfl fd_66 (by kernel_rfl) ⟨rfl, (A.ltI_f c1), (A.ltI_f c2), (A.eqI_t c3), rfl, (A.eqI_f (by omega)), rfl, A.len, (A.ltI_f c4), (A.eqI_f (by omega)), rfl, (A.eqI_f (by omega)), rfl, (A.eqI_f c5), rfl, trivial⟩
      · rw [if_neg c3] at h
        by_cases c4 : 0 < ((a0.S.length : Nat) : Int)
        · rw [if_pos c4] at h
          obtain rfl := Option.some.inj h
          exact call_way cfg [(.sub .i64 a2 1, .i (w64 (a2 - 1))), (.ltI (w64 (a2 - 1)) 0, .b false), (.ltI 5 a1, .b false), (.eqI a0.Kind 3, .b false), (.notB false, .b true), (.len (eL e_u8 a0.S), .i ((a0.S.length : Nat) : Int)), (.ltI 0 ((a0.S.length : Nat) : Int), .b true)] rfl fd_66 (by kernel_rfl) ⟨rfl, (A.ltI_f c1), (A.ltI_f c2), (A.eqI_f c3), rfl, A.len, (A.ltI_t c4), trivial⟩
        · rw [if_neg c4] at h
          by_cases c5 : a0.Kind = 5
          · rw [if_pos c5] at h
            by_cases c6 : a0.N = 0
            · rw [if_pos c6] at h
              by_cases c7 : ((a0.K.length : Nat) : Int) = ((a0.L.length : Nat) : Int)
              · rw [if_pos c7] at h
                obtain ⟨o8, ho8, h⟩ := Option.bind_eq_some_iff.1 h
                rcases o8 with o8_0 | ⟨o8_1_0, o8_1_1⟩
                · try dsimp only at h
                  obtain rfl := Option.some.inj h
                  exact call_way cfg [(.sub .i64 a2 1, .i (w64 (a2 - 1))), (.ltI (w64 (a2 - 1)) 0, .b false), (.ltI 5 a1, .b false), (.eqI a0.Kind 3, .b false), (.notB false, .b true), (.len (eL e_u8 a0.S), .i ((a0.S.length : Nat) : Int)), (.ltI 0 ((a0.S.length : Nat) : Int), .b false), (.eqI a0.Kind 5, .b true), (.notB true, .b false), (.eqI a0.Kind 1, .b false), (.notB false, .b true), (.eqI a0.Kind 2, .b false), (.notB false, .b true), (.eqI a0.N 0, .b true), (.notB true, .b false), (.eqI a0.Kind 4, .b false), (.notB false, .b true), (.eqI a0.Kind 5, .b true), (.notB true, .b false), (.eqI a0.Kind 0, .b false), (.eqI a0.Kind 6, .b false), (.eqI a0.Kind 1, .b false), (.eqI a0.Kind 2, .b false), (.eqI a0.Kind 3, .b false), (.eqI a0.Kind 4, .b false), (.eqI a0.Kind 5, .b true), (.eqI a0.Kind 5, .b true), (.len (eL (e_sl e_u8) a0.K), .i ((a0.K.length : Nat) : Int)), (.len (eL e_GValue a0.L), .i ((a0.L.length : Nat) : Int)), (.eqI ((a0.K.length : Nat) : Int) ((a0.L.length : Nat) : Int), .b true), (.notB true, .b false), (.loop 66 (loopB Try.f66 0) ⟨[(1, .val false [.int .i64 a1]), (2, .val false [.int .i64 (w64 (a2 - 1))]), (3, .val false [.ptr 0 0]), (7, .val false [.int .i64 0])], [.var [.int .i64 a0.Kind, .int .i64 a0.N, .seq (eL e_u8 a0.S), .seq (eL (e_sl e_u8) a0.K), .seq (eL e_GValue a0.L)]], 0⟩, .x (.ret) ⟨[(6, .val false [.int .i64 o8_0])], [], 0⟩)] rfl fd_66 (by kernel_rfl) ⟨rfl, (A.ltI_f c1), (A.ltI_f c2), (A.eqI_f c3), rfl, A.len, (A.ltI_f c4), (A.eqI_t c5), rfl, (A.eqI_f (by omega)), rfl, (A.eqI_f (by omega)), rfl, (A.eqI_t c6), rfl, (A.eqI_f (by omega)), rfl, (A.eqI_t c5), rfl, (A.eqI_f (by omega)), (A.eqI_f (by omega)), (A.eqI_f (by omega)), (A.eqI_f (by omega)), (A.eqI_f c3), (A.eqI_f (by omega)), (A.eqI_t c5), (A.eqI_t c5), A.len, A.len, (A.eqI_t c7), rfl, (A.loop (gl_spec_l2ok_l0 G_spec_l2ok H_spec_l2ok a1 a0 _ (w64 (a2 - 1)) 0 _ ho8)), trivial⟩
                · try dsimp only at h
                  obtain rfl := Option.some.inj h
                  exact call_way cfg [(.sub .i64 a2 1, .i (w64 (a2 - 1))), (.ltI (w64 (a2 - 1)) 0, .b false), (.ltI 5 a1, .b false), (.eqI a0.Kind 3, .b false), (.notB false, .b true), (.len (eL e_u8 a0.S), .i ((a0.S.length : Nat) : Int)), (.ltI 0 ((a0.S.length : Nat) : Int), .b false), (.eqI a0.Kind 5, .b true), (.notB true, .b false), (.eqI a0.Kind 1, .b false), (.notB false, .b true), (.eqI a0.Kind 2, .b false), (.notB false, .b true), (.eqI a0.N 0, .b true), (.notB true, .b false), (.eqI a0.Kind 4, .b false), (.notB false, .b true), (.eqI a0.Kind 5, .b true), (.notB true, .b false), (.eqI a0.Kind 0, .b false), (.eqI a0.Kind 6, .b false), (.eqI a0.Kind 1, .b false), (.eqI a0.Kind 2, .b false), (.eqI a0.Kind 3, .b false), (.eqI a0.Kind 4, .b false), (.eqI a0.Kind 5, .b true), (.eqI a0.Kind 5, .b true), (.len (eL (e_sl e_u8) a0.K), .i ((a0.K.length : Nat) : Int)), (.len (eL e_GValue a0.L), .i ((a0.L.length : Nat) : Int)), (.eqI ((a0.K.length : Nat) : Int) ((a0.L.length : Nat) : Int), .b true), (.notB true, .b false), (.loop 66 (loopB Try.f66 0) ⟨[(1, .val false [.int .i64 a1]), (2, .val false [.int .i64 (w64 (a2 - 1))]), (3, .val false [.ptr 0 0]), (7, .val false [.int .i64 0])], [.var [.int .i64 a0.Kind, .int .i64 a0.N, .seq (eL e_u8 a0.S), .seq (eL (e_sl e_u8) a0.K), .seq (eL e_GValue a0.L)]], 0⟩, .x (.exit 1) ⟨[(1, .val false [.int .i64 a1]), (2, .val false [.int .i64 o8_1_0]), (3, .val false [.ptr 0 0]), (7, .val false [.int .i64 o8_1_1]), (117, .val false [.bool false])], [.var [.int .i64 a0.Kind, .int .i64 a0.N, .seq (eL e_u8 a0.S), .seq (eL (e_sl e_u8) a0.K), .seq (eL e_GValue a0.L)]], 0⟩)] rfl fd_66 (by kernel_rfl) ⟨rfl, (A.ltI_f c1), (A.ltI_f c2), (A.eqI_f c3), rfl, A.len, (A.ltI_f c4), (A.eqI_t c5), rfl, (A.eqI_f (by omega)), rfl, (A.eqI_f (by omega)), rfl, (A.eqI_t c6), rfl, (A.eqI_f (by omega)), rfl, (A.eqI_t c5), rfl, (A.eqI_f (by omega)), (A.eqI_f (by omega)), (A.eqI_f (by omega)), (A.eqI_f (by omega)), (A.eqI_f c3), (A.eqI_f (by omega)), (A.eqI_t c5), (A.eqI_t c5), A.len, A.len, (A.eqI_t c7), rfl, (A.loop (gl_spec_l2ok_l0 G_spec_l2ok H_spec_l2ok a1 a0 _ (w64 (a2 - 1)) 0 _ ho8)), trivial⟩
              · rw [if_neg c7] at h
                obtain rfl := Option.some.inj h
                exact call_way cfg [(.sub .i64 a2 1, .i (w64 (a2 - 1))), (.ltI (w64 (a2 - 1)) 0, .b false), (.ltI 5 a1, .b false), (.eqI a0.Kind 3, .b false), (.notB false, .b true), (.len (eL e_u8 a0.S), .i ((a0.S.length : Nat) : Int)), (.ltI 0 ((a0.S.length : Nat) : Int), .b false), (.eqI a0.Kind 5, .b true), (.notB true, .b false), (.eqI a0.Kind 1, .b false), (.notB false, .b true), (.eqI a0.Kind 2, .b false), (.notB false, .b true), (.eqI a0.N 0, .b true), (.notB true, .b false), (.eqI a0.Kind 4, .b false), (.notB false, .b true), (.eqI a0.Kind 5, .b true), (.notB true, .b false), (.eqI a0.Kind 0, .b false), (.eqI a0.Kind 6, .b false), (.eqI a0.Kind 1, .b false), (.eqI a0.Kind 2, .b false), (.eqI a0.Kind 3, .b false), (.eqI a0.Kind 4, .b false), (.eqI a0.Kind 5, .b true), (.eqI a0.Kind 5, .b true), (.len (eL (e_sl e_u8) a0.K), .i ((a0.K.length : Nat) : Int)), (.len (eL e_GValue a0.L), .i ((a0.L.length : Nat) : Int)), (.eqI ((a0.K.length : Nat) : Int) ((a0.L.length : Nat) : Int), .b false), (.notB false, .b true)] rfl fd_66 (by kernel_rfl) ⟨rfl, (A.ltI_f c1), (A.ltI_f c2), (A.eqI_f c3), rfl, A.len, (A.ltI_f c4), (A.eqI_t c5), rfl, (A.eqI_f (by omega)), rfl, (A.eqI_f (by omega)), rfl, (A.eqI_t c6), rfl, (A.eqI_f (by omega)), rfl, (A.eqI_t c5), rfl, (A.eqI_f (by omega)), (A.eqI_f (by omega)), (A.eqI_f (by omega)), (A.eqI_f (by omega)), (A.eqI_f c3), (A.eqI_f (by omega)), (A.eqI_t c5), (A.eqI_t c5), A.len, A.len, (A.eqI_f c7), rfl, trivial⟩
            · rw [if_neg c6] at h
              obtain rfl := Option.some.inj h
              exact call_way cfg [(.sub .i64 a2 1, .i (w64 (a2 - 1))), (.ltI (w64 (a2 - 1)) 0, .b false), (.ltI 5 a1, .b false), (.eqI a0.Kind 3, .b false), (.notB false, .b true), (.len (eL e_u8 a0.S), .i ((a0.S.length : Nat) : Int)), (.ltI 0 ((a0.S.length : Nat) : Int), .b false), (.eqI a0.Kind 5, .b true), (.notB true, .b false), (.eqI a0.Kind 1, .b false), (.notB false, .b true), (.eqI a0.Kind 2, .b false), (.notB false, .b true), (.eqI a0.N 0, .b false), (.notB false, .b true)] rfl fd_66 (by kernel_rfl) ⟨rfl, (A.ltI_f c1), (A.ltI_f c2), (A.eqI_f c3), rfl, A.len, (A.ltI_f c4), (A.eqI_t c5), rfl, (A.eqI_f (by omega)), rfl, (A.eqI_f (by omega)), rfl, (A.eqI_f c6), rfl, trivial⟩
          · rw [if_neg c5] at h
            by_cases c6 : 0 < ((a0.K.length : Nat) : Int)
            · rw [if_pos c6] at h
              obtain rfl := Option.some.inj h
              exact call_way cfg [(.sub .i64 a2 1, .i (w64 (a2 - 1))), (.ltI (w64 (a2 - 1)) 0, .b false), (.ltI 5 a1, .b false), (.eqI a0.Kind 3, .b false), (.notB false, .b true), (.len (eL e_u8 a0.S), .i ((a0.S.length : Nat) : Int)), (.ltI 0 ((a0.S.length : Nat) : Int), .b false), (.eqI a0.Kind 5, .b false), (.notB false, .b true), (.len (eL (e_sl e_u8) a0.K), .i ((a0.K.length : Nat) : Int)), (.ltI 0 ((a0.K.length : Nat) : Int), .b true)] rfl fd_66 (by kernel_rfl) ⟨rfl, (A.ltI_f c1), (A.ltI_f c2), (A.eqI_f c3), rfl, A.len, (A.ltI_f c4), (A.eqI_f c5), rfl, A.len, (A.ltI_t c6), trivial⟩
            · rw [if_neg c6] at h
              by_cases c7 : a0.Kind = 1
              · rw [if_pos c7] at h
                by_cases c8 : 0 < ((a0.L.length : Nat) : Int)
                · rw [if_pos c8] at h
                  obtain rfl := Option.some.inj h
                  exact call_way cfg [(.sub .i64 a2 1, .i (w64 (a2 - 1))), (.ltI (w64 (a2 - 1)) 0, .b false), (.ltI 5 a1, .b false), (.eqI a0.Kind 3, .b false), (.notB false, .b true), (.len (eL e_u8 a0.S), .i ((a0.S.length : Nat) : Int)), (.ltI 0 ((a0.S.length : Nat) : Int), .b false), (.eqI a0.Kind 5, .b false), (.notB false, .b true), (.len (eL (e_sl e_u8) a0.K), .i ((a0.K.length : Nat) : Int)), (.ltI 0 ((a0.K.length : Nat) : Int), .b false), (.eqI a0.Kind 1, .b true), (.notB true, .b false), (.eqI a0.Kind 4, .b false), (.notB false, .b true), (.eqI a0.Kind 5, .b false), (.notB false, .b true), (.len (eL e_GValue a0.L), .i ((a0.L.length : Nat) : Int)), (.ltI 0 ((a0.L.length : Nat) : Int), .b true)] rfl fd_66 (by kernel_rfl) ⟨rfl, (A.ltI_f c1), (A.ltI_f c2), (A.eqI_f c3), rfl, A.len, (A.ltI_f c4), (A.eqI_f c5), rfl, A.len, (A.ltI_f c6), (A.eqI_t c7), rfl, (A.eqI_f (by omega)), rfl, (A.eqI_f c5), rfl, A.len, (A.ltI_t c8), trivial⟩
                · rw [if_neg c8] at h
                  by_cases c9 : a0.N < 0
                  · rw [if_pos c9] at h
                    obtain rfl := Option.some.inj h
                    exact call_way cfg [(.sub .i64 a2 1, .i (w64 (a2 - 1))), (.ltI (w64 (a2 - 1)) 0, .b false), (.ltI 5 a1, .b false), (.eqI a0.Kind 3, .b false), (.notB false, .b true), (.len (eL e_u8 a0.S), .i ((a0.S.length : Nat) : Int)), (.ltI 0 ((a0.S.length : Nat) : Int), .b false), (.eqI a0.Kind 5, .b false), (.notB false, .b true), (.len (eL (e_sl e_u8) a0.K), .i ((a0.K.length : Nat) : Int)), (.ltI 0 ((a0.K.length : Nat) : Int), .b false), (.eqI a0.Kind 1, .b true), (.notB true, .b false), (.eqI a0.Kind 4, .b false), (.notB false, .b true), (.eqI a0.Kind 5, .b false), (.notB false, .b true), (.len (eL e_GValue a0.L), .i ((a0.L.length : Nat) : Int)), (.ltI 0 ((a0.L.length : Nat) : Int), .b false), (.eqI a0.Kind 0, .b false), (.eqI a0.Kind 6, .b false), (.eqI a0.Kind 1, .b true), (.ltI a0.N 0, .b true)] rfl fd_66 (by kernel_rfl) ⟨rfl, (A.ltI_f c1), (A.ltI_f c2), (A.eqI_f c3), rfl, A.len, (A.ltI_f c4), (A.eqI_f c5), rfl, A.len, (A.ltI_f c6), (A.eqI_t c7), rfl, (A.eqI_f (by omega)), rfl, (A.eqI_f c5), rfl, A.len, (A.ltI_f c8), (A.eqI_f (by omega)), (A.eqI_f (by omega)), (A.eqI_t c7), (A.ltI_t c9), trivial⟩
                  · rw [if_neg c9] at h
                    by_cases c10 : 1 < a0.N
                    · rw [if_pos c10] at h
                      obtain rfl := Option.some.inj h
                      exact call_way cfg [(.sub .i64 a2 1, .i (w64 (a2 - 1))), (.ltI (w64 (a2 - 1)) 0, .b false), (.ltI 5 a1, .b false), (.eqI a0.Kind 3, .b false), (.notB false, .b true), (.len (eL e_u8 a0.S), .i ((a0.S.length : Nat) : Int)), (.ltI 0 ((a0.S.length : Nat) : Int), .b false), (.eqI a0.Kind 5, .b false), (.notB false, .b true), (.len (eL (e_sl e_u8) a0.K), .i ((a0.K.length : Nat) : Int)), (.ltI 0 ((a0.K.length : Nat) : Int), .b false), (.eqI a0.Kind 1, .b true), (.notB true, .b false), (.eqI a0.Kind 4, .b false), (.notB false, .b true), (.eqI a0.Kind 5, .b false), (.notB false, .b true), (.len (eL e_GValue a0.L), .i ((a0.L.length : Nat) : Int)), (.ltI 0 ((a0.L.length : Nat) : Int), .b false), (.eqI a0.Kind 0, .b false), (.eqI a0.Kind 6, .b false), (.eqI a0.Kind 1, .b true), (.ltI a0.N 0, .b false), (.ltI 1 a0.N, .b true)] rfl fd_66 (by kernel_rfl) ⟨rfl, (A.ltI_f c1), (A.ltI_f c2), (A.eqI_f c3), rfl, A.len, (A.ltI_f c4), (A.eqI_f c5), rfl, A.len, (A.ltI_f c6), (A.eqI_t c7), rfl, (A.eqI_f (by omega)), rfl, (A.eqI_f c5), rfl, A.len, (A.ltI_f c8), (A.eqI_f (by omega)), (A.eqI_f (by omega)), (A.eqI_t c7), (A.ltI_f c9), (A.ltI_t c10), trivial⟩
                    · rw [if_neg c10] at h
                      obtain rfl := Option.some.inj h
                      exact call_way cfg [(.sub .i64 a2 1, .i (w64 (a2 - 1))), (.ltI (w64 (a2 - 1)) 0, .b false), (.ltI 5 a1, .b false), (.eqI a0.Kind 3, .b false), (.notB false, .b true), (.len (eL e_u8 a0.S), .i ((a0.S.length : Nat) : Int)), (.ltI 0 ((a0.S.length : Nat) : Int), .b false), (.eqI a0.Kind 5, .b false), (.notB false, .b true), (.len (eL (e_sl e_u8) a0.K), .i ((a0.K.length : Nat) : Int)), (.ltI 0 ((a0.K.length : Nat) : Int), .b false), (.eqI a0.Kind 1, .b true), (.notB true, .b false), (.eqI a0.Kind 4, .b false), (.notB false, .b true), (.eqI a0.Kind 5, .b false), (.notB false, .b true), (.len (eL e_GValue a0.L), .i ((a0.L.length : Nat) : Int)), (.ltI 0 ((a0.L.length : Nat) : Int), .b false), (.eqI a0.Kind 0, .b false), (.eqI a0.Kind 6, .b false), (.eqI a0.Kind 1, .b true), (.ltI a0.N 0, .b false), (.ltI 1 a0.N, .b false)] rfl fd_66 (by kernel_rfl) ⟨rfl, (A.ltI_f c1), (A.ltI_f c2), (A.eqI_f c3), rfl, A.len, (A.ltI_f c4), (A.eqI_f c5), rfl, A.len, (A.ltI_f c6), (A.eqI_t c7), rfl, (A.eqI_f (by omega)), rfl, (A.eqI_f c5), rfl, A.len, (A.ltI_f c8), (A.eqI_f (by omega)), (A.eqI_f (by omega)), (A.eqI_t c7), (A.ltI_f c9), (A.ltI_f c10), trivial⟩
              · rw [if_neg c7] at h
                by_cases c8 : a0.Kind = 2
                · rw [if_pos c8] at h
                  by_cases c9 : 0 < ((a0.L.length : Nat) : Int)
                  · rw [if_pos c9] at h
                    obtain rfl := Option.some.inj h
                    exact call_way cfg [(.sub .i64 a2 1, .i (w64 (a2 - 1))), (.ltI (w64 (a2 - 1)) 0, .b false), (.ltI 5 a1, .b false), (.eqI a0.Kind 3, .b false), (.notB false, .b true), (.len (eL e_u8 a0.S), .i ((a0.S.length : Nat) : Int)), (.ltI 0 ((a0.S.length : Nat) : Int), .b false), (.eqI a0.Kind 5, .b false), (.notB false, .b true), (.len (eL (e_sl e_u8) a0.K), .i ((a0.K.length : Nat) : Int)), (.ltI 0 ((a0.K.length : Nat) : Int), .b false), (.eqI a0.Kind 1, .b false), (.notB false, .b true), (.eqI a0.Kind 2, .b true), (.notB true, .b false), (.eqI a0.Kind 4, .b false), (.notB false, .b true), (.eqI a0.Kind 5, .b false), (.notB false, .b true), (.len (eL e_GValue a0.L), .i ((a0.L.length : Nat) : Int)), (.ltI 0 ((a0.L.length : Nat) : Int), .b true)] rfl fd_66 (by kernel_rfl) ⟨rfl, (A.ltI_f c1), (A.ltI_f c2), (A.eqI_f c3), rfl, A.len, (A.ltI_f c4), (A.eqI_f c5), rfl, A.len, (A.ltI_f c6), (A.eqI_f c7), rfl, (A.eqI_t c8), rfl, (A.eqI_f (by omega)), rfl, (A.eqI_f c5), rfl, A.len, (A.ltI_t c9), trivial⟩
                  · rw [if_neg c9] at h
                    obtain ⟨r10, hr10, h⟩ := Option.bind_eq_some_iff.1 h
                    cases r10 with
                    | true =>
                      try dsimp only at h
                      obtain rfl := Option.some.inj h
                      exact call_way cfg [(.sub .i64 a2 1, .i (w64 (a2 - 1))), (.ltI (w64 (a2 - 1)) 0, .b false), (.ltI 5 a1, .b false), (.eqI a0.Kind 3, .b false), (.notB false, .b true), (.len (eL e_u8 a0.S), .i ((a0.S.length : Nat) : Int)), (.ltI 0 ((a0.S.length : Nat) : Int), .b false), (.eqI a0.Kind 5, .b false), (.notB false, .b true), (.len (eL (e_sl e_u8) a0.K), .i ((a0.K.length : Nat) : Int)), (.ltI 0 ((a0.K.length : Nat) : Int), .b false), (.eqI a0.Kind 1, .b false), (.notB false, .b true), (.eqI a0.Kind 2, .b true), (.notB true, .b false), (.eqI a0.Kind 4, .b false), (.notB false, .b true), (.eqI a0.Kind 5, .b false), (.notB false, .b true), (.len (eL e_GValue a0.L), .i ((a0.L.length : Nat) : Int)), (.ltI 0 ((a0.L.length : Nat) : Int), .b false), (.eqI a0.Kind 0, .b false), (.eqI a0.Kind 6, .b false), (.eqI a0.Kind 1, .b false), (.eqI a0.Kind 2, .b true), (.call 91 [] [.val false [.int .i64 a0.N]], .r (.val false [.bool true]) []), (.notB true, .b false)] rfl fd_66 (by kernel_rfl) ⟨rfl, (A.ltI_f c1), (A.ltI_f c2), (A.eqI_f c3), rfl, A.len, (A.ltI_f c4), (A.eqI_f c5), rfl, A.len, (A.ltI_f c6), (A.eqI_f c7), rfl, (A.eqI_t c8), rfl, (A.eqI_f (by omega)), rfl, (A.eqI_f c5), rfl, A.len, (A.ltI_f c9), (A.eqI_f (by omega)), (A.eqI_f (by omega)), (A.eqI_f c7), (A.eqI_t c8), (A.call (ok_spec_l2int a0.N _ hr10)), rfl, trivial⟩
                    | false =>
                      try dsimp only at h
                      obtain rfl := Option.some.inj h
                      exact call_way cfg [(.sub .i64 a2 1, .i (w64 (a2 - 1))), (.ltI (w64 (a2 - 1)) 0, .b false), (.ltI 5 a1, .b false), (.eqI a0.Kind 3, .b false), (.notB false, .b true), (.len (eL e_u8 a0.S), .i ((a0.S.length : Nat) : Int)), (.ltI 0 ((a0.S.length : Nat) : Int), .b false), (.eqI a0.Kind 5, .b false), (.notB false, .b true), (.len (eL (e_sl e_u8) a0.K), .i ((a0.K.length : Nat) : Int)), (.ltI 0 ((a0.K.length : Nat) : Int), .b false), (.eqI a0.Kind 1, .b false), (.notB false, .b true), (.eqI a0.Kind 2, .b true), (.notB true, .b false), (.eqI a0.Kind 4, .b false), (.notB false, .b true), (.eqI a0.Kind 5, .b false), (.notB false, .b true), (.len (eL e_GValue a0.L), .i ((a0.L.length : Nat) : Int)), (.ltI 0 ((a0.L.length : Nat) : Int), .b false), (.eqI a0.Kind 0, .b false), (.eqI a0.Kind 6, .b false), (.eqI a0.Kind 1, .b false), (.eqI a0.Kind 2, .b true), (.call 91 [] [.val false [.int .i64 a0.N]], .r (.val false [.bool false]) []), (.notB false, .b true)] rfl fd_66 (by kernel_rfl) ⟨rfl, (A.ltI_f c1), (A.ltI_f c2), (A.eqI_f c3), rfl, A.len, (A.ltI_f c4), (A.eqI_f c5), rfl, A.len, (A.ltI_f c6), (A.eqI_f c7), rfl, (A.eqI_t c8), rfl, (A.eqI_f (by omega)), rfl, (A.eqI_f c5), rfl, A.len, (A.ltI_f c9), (A.eqI_f (by omega)), (A.eqI_f (by omega)), (A.eqI_f c7), (A.eqI_t c8), (A.call (ok_spec_l2int a0.N _ hr10)), rfl, trivial⟩
                · rw [if_neg c8] at h
                  by_cases c9 : a0.N = 0
                  · rw [if_pos c9] at h
                    by_cases c10 : a0.Kind = 4
                    · rw [if_pos c10] at h
                      obtain ⟨o11, ho11, h⟩ := Option.bind_eq_some_iff.1 h
                      rcases o11 with o11_0 | ⟨o11_1_0, o11_1_1⟩
                      · try dsimp only at h
                        obtain rfl := Option.some.inj h
                        exact call_way cfg [(.sub .i64 a2 1, .i (w64 (a2 - 1))), (.ltI (w64 (a2 - 1)) 0, .b false), (.ltI 5 a1, .b false), (.eqI a0.Kind 3, .b false), (.notB false, .b true), (.len (eL e_u8 a0.S), .i ((a0.S.length : Nat) : Int)), (.ltI 0 ((a0.S.length : Nat) : Int), .b false), (.eqI a0.Kind 5, .b false), (.notB false, .b true), (.len (eL (e_sl e_u8) a0.K), .i ((a0.K.length : Nat) : Int)), (.ltI 0 ((a0.K.length : Nat) : Int), .b false), (.eqI a0.Kind 1, .b false), (.notB false, .b true), (.eqI a0.Kind 2, .b false), (.notB false, .b true), (.eqI a0.N 0, .b true), (.notB true, .b false), (.eqI a0.Kind 4, .b true), (.notB true, .b false), (.eqI a0.Kind 0, .b false), (.eqI a0.Kind 6, .b false), (.eqI a0.Kind 1, .b false), (.eqI a0.Kind 2, .b false), (.eqI a0.Kind 3, .b false), (.eqI a0.Kind 4, .b true), (.eqI a0.Kind 5, .b false), (.loop 66 (loopB Try.f66 0) ⟨[(1, .val false [.int .i64 a1]), (2, .val false [.int .i64 (w64 (a2 - 1))]), (3, .val false [.ptr 0 0]), (7, .val false [.int .i64 0])], [.var [.int .i64 a0.Kind, .int .i64 a0.N, .seq (eL e_u8 a0.S), .seq (eL (e_sl e_u8) a0.K), .seq (eL e_GValue a0.L)]], 0⟩, .x (.ret) ⟨[(6, .val false [.int .i64 o11_0])], [], 0⟩)] rfl fd_66 (by kernel_rfl) ⟨rfl, (A.ltI_f c1), (A.ltI_f c2), (A.eqI_f c3), rfl, A.len, (A.ltI_f c4), (A.eqI_f c5), rfl, A.len, (A.ltI_f c6), (A.eqI_f c7), rfl, (A.eqI_f c8), rfl, (A.eqI_t c9), rfl, (A.eqI_t c10), rfl, (A.eqI_f (by omega)), (A.eqI_f (by omega)), (A.eqI_f c7), (A.eqI_f c8), (A.eqI_f c3), (A.eqI_t c10), (A.eqI_f c5), (A.loop (gl_spec_l2ok_l0 G_spec_l2ok H_spec_l2ok a1 a0 _ (w64 (a2 - 1)) 0 _ ho11)), trivial⟩
                      · try dsimp only at h
                        obtain rfl := Option.some.inj h
                        exact call_way cfg [(.sub .i64 a2 1, .i (w64 (a2 - 1))), (.ltI (w64 (a2 - 1)) 0, .b false), (.ltI 5 a1, .b false), (.eqI a0.Kind 3, .b false), (.notB false, .b true), (.len (eL e_u8 a0.S), .i ((a0.S.length : Nat) : Int)), (.ltI 0 ((a0.S.length : Nat) : Int), .b false), (.eqI a0.Kind 5, .b false), (.notB false, .b true), (.len (eL (e_sl e_u8) a0.K), .i ((a0.K.length : Nat) : Int)), (.ltI 0 ((a0.K.length : Nat) : Int), .b false), (.eqI a0.Kind 1, .b false), (.notB false, .b true), (.eqI a0.Kind 2, .b false), (.notB false, .b true), (.eqI a0.N 0, .b true), (.notB true, .b false), (.eqI a0.Kind 4, .b true), (.notB true, .b false), (.eqI a0.Kind 0, .b false), (.eqI a0.Kind 6, .b false), (.eqI a0.Kind 1, .b false), (.eqI a0.Kind 2, .b false), (.eqI a0.Kind 3, .b false), (.eqI a0.Kind 4, .b true), (.eqI a0.Kind 5, .b false), (.loop 66 (loopB Try.f66 0) ⟨[(1, .val false [.int .i64 a1]), (2, .val false [.int .i64 (w64 (a2 - 1))]), (3, .val false [.ptr 0 0]), (7, .val false [.int .i64 0])], [.var [.int .i64 a0.Kind, .int .i64 a0.N, .seq (eL e_u8 a0.S), .seq (eL (e_sl e_u8) a0.K), .seq (eL e_GValue a0.L)]], 0⟩, .x (.exit 1) ⟨[(1, .val false [.int .i64 a1]), (2, .val false [.int .i64 o11_1_0]), (3, .val false [.ptr 0 0]), (7, .val false [.int .i64 o11_1_1]), (117, .val false [.bool false])], [.var [.int .i64 a0.Kind, .int .i64 a0.N, .seq (eL e_u8 a0.S), .seq (eL (e_sl e_u8) a0.K), .seq (eL e_GValue a0.L)]], 0⟩)] rfl fd_66 (by kernel_rfl) ⟨rfl, (A.ltI_f c1), (A.ltI_f c2), (A.eqI_f c3), rfl, A.len, (A.ltI_f c4), (A.eqI_f c5), rfl, A.len, (A.ltI_f c6), (A.eqI_f c7), rfl, (A.eqI_f c8), rfl, (A.eqI_t c9), rfl, (A.eqI_t c10), rfl, (A.eqI_f (by omega)), (A.eqI_f (by omega)), (A.eqI_f c7), (A.eqI_f c8), (A.eqI_f c3), (A.eqI_t c10), (A.eqI_f c5), (A.loop (gl_spec_l2ok_l0 G_spec_l2ok H_spec_l2ok a1 a0 _ (w64 (a2 - 1)) 0 _ ho11)), trivial⟩
                    · rw [if_neg c10] at h
                      by_cases c11 : 0 < ((a0.L.length : Nat) : Int)
                      · rw [if_pos c11] at h
                        obtain rfl := Option.some.inj h
                        exact call_way cfg [(.sub .i64 a2 1, .i (w64 (a2 - 1))), (.ltI (w64 (a2 - 1)) 0, .b false), (.ltI 5 a1, .b false), (.eqI a0.Kind 3, .b false), (.notB false, .b true), (.len (eL e_u8 a0.S), .i ((a0.S.length : Nat) : Int)), (.ltI 0 ((a0.S.length : Nat) : Int), .b false), (.eqI a0.Kind 5, .b false), (.notB false, .b true), (.len (eL (e_sl e_u8) a0.K), .i ((a0.K.length : Nat) : Int)), (.ltI 0 ((a0.K.length : Nat) : Int), .b false), (.eqI a0.Kind 1, .b false), (.notB false, .b true), (.eqI a0.Kind 2, .b false), (.notB false, .b true), (.eqI a0.N 0, .b true), (.notB true, .b false), (.eqI a0.Kind 4, .b false), (.notB false, .b true), (.eqI a0.Kind 5, .b false), (.notB false, .b true), (.len (eL e_GValue a0.L), .i ((a0.L.length : Nat) : Int)), (.ltI 0 ((a0.L.length : Nat) : Int), .b true)] rfl fd_66 (by kernel_rfl) ⟨rfl, (A.ltI_f c1), (A.ltI_f c2), (A.eqI_f c3), rfl, A.len, (A.ltI_f c4), (A.eqI_f c5), rfl, A.len, (A.ltI_f c6), (A.eqI_f c7), rfl, (A.eqI_f c8), rfl, (A.eqI_t c9), rfl, (A.eqI_f c10), rfl, (A.eqI_f c5), rfl, A.len, (A.ltI_t c11), trivial⟩
                      · rw [if_neg c11] at h
                        by_cases c12 : a0.Kind = 0
                        · rw [if_pos c12] at h
                          obtain rfl := Option.some.inj h
                          exact call_way cfg [(.sub .i64 a2 1, .i (w64 (a2 - 1))), (.ltI (w64 (a2 - 1)) 0, .b false), (.ltI 5 a1, .b false), (.eqI a0.Kind 3, .b false), (.notB false, .b true), (.len (eL e_u8 a0.S), .i ((a0.S.length : Nat) : Int)), (.ltI 0 ((a0.S.length : Nat) : Int), .b false), (.eqI a0.Kind 5, .b false), (.notB false, .b true), (.len (eL (e_sl e_u8) a0.K), .i ((a0.K.length : Nat) : Int)), (.ltI 0 ((a0.K.length : Nat) : Int), .b false), (.eqI a0.Kind 1, .b false), (.notB false, .b true), (.eqI a0.Kind 2, .b false), (.notB false, .b true), (.eqI a0.N 0, .b true), (.notB true, .b false), (.eqI a0.Kind 4, .b false), (.notB false, .b true), (.eqI a0.Kind 5, .b false), (.notB false, .b true), (.len (eL e_GValue a0.L), .i ((a0.L.length : Nat) : Int)), (.ltI 0 ((a0.L.length : Nat) : Int), .b false), (.eqI a0.Kind 0, .b true)] rfl fd_66 (by kernel_rfl) ⟨rfl, (A.ltI_f c1), (A.ltI_f c2), (A.eqI_f c3), rfl, A.len, (A.ltI_f c4), (A.eqI_f c5), rfl, A.len, (A.ltI_f c6), (A.eqI_f c7), rfl, (A.eqI_f c8), rfl, (A.eqI_t c9), rfl, (A.eqI_f c10), rfl, (A.eqI_f c5), rfl, A.len, (A.ltI_f c11), (A.eqI_t c12), trivial⟩
                        · rw [if_neg c12] at h
                          by_cases c13 : a0.Kind = 6
                          · rw [if_pos c13] at h
                            obtain rfl := Option.some.inj h
                            exact call_way cfg [(.sub .i64 a2 1, .i (w64 (a2 - 1))), (.ltI (w64 (a2 - 1)) 0, .b false), (.ltI 5 a1, .b false), (.eqI a0.Kind 3, .b false), (.notB false, .b true), (.len (eL e_u8 a0.S), .i ((a0.S.length : Nat) : Int)), (.ltI 0 ((a0.S.length : Nat) : Int), .b false), (.eqI a0.Kind 5, .b false), (.notB false, .b true), (.len (eL (e_sl e_u8) a0.K), .i ((a0.K.length : Nat) : Int)), (.ltI 0 ((a0.K.length : Nat) : Int), .b false), (.eqI a0.Kind 1, .b false), (.notB false, .b true), (.eqI a0.Kind 2, .b false), (.notB false, .b true), (.eqI a0.N 0, .b true), (.notB true, .b false), (.eqI a0.Kind 4, .b false), (.notB false, .b true), (.eqI a0.Kind 5, .b false), (.notB false, .b true), (.len (eL e_GValue a0.L), .i ((a0.L.length : Nat) : Int)), (.ltI 0 ((a0.L.length : Nat) : Int), .b false), (.eqI a0.Kind 0, .b false), (.eqI a0.Kind 6, .b true)] rfl fd_66 (by kernel_rfl) ⟨rfl, (A.ltI_f c1), (A.ltI_f c2), (A.eqI_f c3), rfl, A.len, (A.ltI_f c4), (A.eqI_f c5), rfl, A.len, (A.ltI_f c6), (A.eqI_f c7), rfl, (A.eqI_f c8), rfl, (A.eqI_t c9), rfl, (A.eqI_f c10), rfl, (A.eqI_f c5), rfl, A.len, (A.ltI_f c11), (A.eqI_f c12), (A.eqI_t c13), trivial⟩
                          · rw [if_neg c13] at h
                            obtain rfl := Option.some.inj h
                            exact call_way cfg [(.sub .i64 a2 1, .i (w64 (a2 - 1))), (.ltI (w64 (a2 - 1)) 0, .b false), (.ltI 5 a1, .b false), (.eqI a0.Kind 3, .b false), (.notB false, .b true), (.len (eL e_u8 a0.S), .i ((a0.S.length : Nat) : Int)), (.ltI 0 ((a0.S.length : Nat) : Int), .b false), (.eqI a0.Kind 5, .b false), (.notB false, .b true), (.len (eL (e_sl e_u8) a0.K), .i ((a0.K.length : Nat) : Int)), (.ltI 0 ((a0.K.length : Nat) : Int), .b false), (.eqI a0.Kind 1, .b false), (.notB false, .b true), (.eqI a0.Kind 2, .b false), (.notB false, .b true), (.eqI a0.N 0, .b true), (.notB true, .b false), (.eqI a0.Kind 4, .b false), (.notB false, .b true), (.eqI a0.Kind 5, .b false), (.notB false, .b true), (.len (eL e_GValue a0.L), .i ((a0.L.length : Nat) : Int)), (.ltI 0 ((a0.L.length : Nat) : Int), .b false), (.eqI a0.Kind 0, .b false), (.eqI a0.Kind 6, .b false), (.eqI a0.Kind 1, .b false), (.eqI a0.Kind 2, .b false), (.eqI a0.Kind 3, .b false), (.eqI a0.Kind 4, .b false), (.eqI a0.Kind 5, .b false)] rfl fd_66 (by kernel_rfl) ⟨rfl, (A.ltI_f c1), (A.ltI_f c2), (A.eqI_f c3), rfl, A.len, (A.ltI_f c4), (A.eqI_f c5), rfl, A.len, (A.ltI_f c6), (A.eqI_f c7), rfl, (A.eqI_f c8), rfl, (A.eqI_t c9), rfl, (A.eqI_f c10), rfl, (A.eqI_f c5), rfl, A.len, (A.ltI_f c11), (A.eqI_f c12), (A.eqI_f c13), (A.eqI_f c7), (A.eqI_f c8), (A.eqI_f c3), (A.eqI_f c10), (A.eqI_f c5), trivial⟩
                  · rw [if_neg c9] at h
                    obtain rfl := Option.some.inj h
                    exact call_way cfg [(.sub .i64 a2 1, .i (w64 (a2 - 1))), (.ltI (w64 (a2 - 1)) 0, .b false), (.ltI 5 a1, .b false), (.eqI a0.Kind 3, .b false), (.notB false, .b true), (.len (eL e_u8 a0.S), .i ((a0.S.length : Nat) : Int)), (.ltI 0 ((a0.S.length : Nat) : Int), .b false), (.eqI a0.Kind 5, .b false), (.notB false, .b true), (.len (eL (e_sl e_u8) a0.K), .i ((a0.K.length : Nat) : Int)), (.ltI 0 ((a0.K.length : Nat) : Int), .b false), (.eqI a0.Kind 1, .b false), (.notB false, .b true), (.eqI a0.Kind 2, .b false), (.notB false, .b true), (.eqI a0.N 0, .b false), (.notB false, .b true)] rfl fd_66 (by kernel_rfl) ⟨rfl, (A.ltI_f c1), (A.ltI_f c2), (A.eqI_f c3), rfl, A.len, (A.ltI_f c4), (A.eqI_f c5), rfl, A.len, (A.ltI_f c6), (A.eqI_f c7), rfl, (A.eqI_f c8), rfl, (A.eqI_f c9), rfl, trivial⟩

def U_spec_l2ok : Nat → GValue → Int → Int → Option Int
  | 0, _, _, _ => none
  | n + 1, a0, a1, a2 => T_spec_l2ok (U_spec_l2ok n) n a0 a1 a2
theorem rec_spec_l2ok (n : Nat) : (∀ (a0 : GValue) (a1 : Int) (a2 : Int) (r : Int), U_spec_l2ok n a0 a1 a2 = some r → (mach cfg).call 66 [] [.val true [.int .i64 a0.Kind, .int .i64 a0.N, .seq (eL e_u8 a0.S), .seq (eL (e_sl e_u8) a0.K), .seq (eL e_GValue a0.L)], .val false [.int .i64 a1], .val false [.int .i64 a2]] = some (.val false [.int .i64 r], [])) := by
  induction n with
  | zero => exact fun _ _ _ _ h => (by rw [U_spec_l2ok] at h; cases h)
  | succ n ih =>
    have ih_spec_l2ok := ih
    exact fun a0 a1 a2 r h => g_spec_l2ok (U_spec_l2ok n) ih_spec_l2ok n a0 a1 a2 r (by rw [U_spec_l2ok] at h; exact h)
/-- What is left of so many parts behind a value. -/
def okV (d : Nat) (left : Int) (v : GValue) : Int := if shV d v = true ∧ (ptV v : Int) ≤ left then left - ptV v else -1
theorem nameOk_eq {a : List UInt8} (h : a.length ≤ 2 ^ 20) : S_spec_NameOk a = some (nameB a) := if_pos h
theorem l2text_eq {a : List UInt8} (h : a.length ≤ 2 ^ 20) : S_spec_l2text a = some (textB a) := if_pos h
theorem l2int_eq (n : Int) : S_spec_l2int n = some (decide (-1000000000000 ≤ n ∧ n ≤ 1000000000000)) := by
  unfold S_spec_l2int
  by_cases h : (-1000000000000 : Int) ≤ n
  · rw [if_pos h]; simp [h]
  · rw [if_neg h]; simp [h]
theorem l2ok_loop {G : GValue → Int → Int → Option Int} {v : GValue} {dd : Nat} {deep : Int} (hdd : deep + dd = 5) (h1d : 1 ≤ deep) (hs : vsz v ≤ 2 ^ 20) (hk : v.Kind = 4 ∨ (v.Kind = 5 ∧ v.K.length = v.L.length))
    (hG : ∀ x ∈ v.L, ∀ r : Int, 0 ≤ r → r ≤ 40 → G x (deep + 1) r = some (okV dd r x)) : ∀ (d i m : Nat) (r : Int), i + d = v.L.length → d < m → 0 ≤ r → r ≤ 40 →
    ∃ z, L_spec_l2ok_l0 G deep v m r (i : Int) = some (if ((v.Kind = 5 → kAll v.K i d = true) ∧ (v.L.drop i).all (shV dd) = true) ∧ (ptVs (v.L.drop i) : Int) ≤ r then .inr (r - ptVs (v.L.drop i), z) else .inl (-1)) := by
  have he := vsz_eq v
  have hl := vszs_len v.L
  intro d
  induction d with
  | zero =>
    intro i m r hi hm h0 h1
    obtain ⟨m, rfl, _⟩ := fuel hm
    refine ⟨(i : Int), ?_⟩
    rw [L_spec_l2ok_l0, if_neg (by omega), List.drop_eq_nil_of_le (by omega), if_pos ⟨⟨fun _ => rfl, rfl⟩, by simpa [ptVs] using h0⟩]
    simp [ptVs]
  | succ d ih =>
    intro i m r hi hm h0 h1
    obtain ⟨m, rfl, hm'⟩ := fuel hm
    have hil : i < v.L.length := by omega
    have hp : ptVs (v.L.drop i) = ptV v.L[i] + ptVs (v.L.drop (i + 1)) := by rw [drop_cons hil]; simp only [ptVs]
    have ha : (v.L.drop i).all (shV dd) = (shV dd v.L[i] && (v.L.drop (i + 1)).all (shV dd)) := by rw [drop_cons hil, List.all_cons]
    have hd1 : w64 (deep + 1) = deep + 1 := w64_id (by omega) (by omega)
    have tail : (v.Kind = 5 → kOk v.K i = true) → ∃ z, ((G v.L[i] (w64 (deep + 1)) r).bind fun r12 => if r12 < 0 then some (.inl (-1)) else L_spec_l2ok_l0 G deep v m r12 (w64 ((i : Int) + 1))) =
        some (if ((v.Kind = 5 → kAll v.K i (d + 1) = true) ∧ (v.L.drop i).all (shV dd) = true) ∧ (ptVs (v.L.drop i) : Int) ≤ r then .inr (r - ptVs (v.L.drop i), z) else .inl (-1)) := by
      intro hki
      rw [hd1, hG _ (List.getElem_mem hil) r h0 h1, Option.bind_some, w64_succ (by omega), hp, ha]
      unfold okV
      by_cases hc : shV dd v.L[i] = true ∧ (ptV v.L[i] : Int) ≤ r
      · rw [if_pos hc, if_neg (by omega)]
        obtain ⟨z, hz⟩ := ih (i + 1) m (r - ptV v.L[i]) (by omega) (by omega) (by omega) (by omega)
        refine ⟨z, ?_⟩
        rw [hz, hc.1, Bool.true_and]
        have hcond : (((v.Kind = 5 → kAll v.K (i + 1) d = true) ∧ (v.L.drop (i + 1)).all (shV dd) = true) ∧ (ptVs (v.L.drop (i + 1)) : Int) ≤ r - ptV v.L[i]) ↔
            (((v.Kind = 5 → kAll v.K i (d + 1) = true) ∧ (v.L.drop (i + 1)).all (shV dd) = true) ∧ ((ptV v.L[i] + ptVs (v.L.drop (i + 1)) : Nat) : Int) ≤ r) := by
          have hka : (v.Kind = 5 → kAll v.K (i + 1) d = true) ↔ (v.Kind = 5 → kAll v.K i (d + 1) = true) := by
            constructor
            · intro h hk; rw [kAll_succ, hki hk, h hk]; rfl
            · intro h hk; have := h hk; rw [kAll_succ, hki hk, Bool.true_and] at this; exact this
          rw [hka]
          constructor
          · rintro ⟨h1, h2⟩; exact ⟨h1, by omega⟩
          · rintro ⟨h1, h2⟩; exact ⟨h1, by omega⟩
        by_cases hd : ((v.Kind = 5 → kAll v.K (i + 1) d = true) ∧ (v.L.drop (i + 1)).all (shV dd) = true) ∧ (ptVs (v.L.drop (i + 1)) : Int) ≤ r - ptV v.L[i]
        · rw [if_pos hd, if_pos (hcond.1 hd)]; congr 3; omega
        · rw [if_neg hd, if_neg (fun h => hd (hcond.2 h))]
      · refine ⟨0, ?_⟩
        rw [if_neg hc, if_pos (by omega), if_neg]
        rintro ⟨⟨_, h2⟩, h3⟩
        rw [Bool.and_eq_true] at h2
        exact hc ⟨h2.1, by omega⟩
    have bad : v.Kind = 5 → kOk v.K i = false → ∃ z, (some (.inl (-1)) : Option (Int ⊕ (Int × Int))) = some (if ((v.Kind = 5 → kAll v.K i (d + 1) = true) ∧ (v.L.drop i).all (shV dd) = true) ∧ (ptVs (v.L.drop i) : Int) ≤ r then .inr (r - ptVs (v.L.drop i), z) else .inl (-1)) := by
      intro hk hki
      refine ⟨0, ?_⟩
      rw [if_neg]
      rintro ⟨⟨h1, _⟩, _⟩
      have := h1 hk
      rw [kAll_succ, hki] at this
      cases this
    rw [L_spec_l2ok_l0, if_pos (by omega)]
    rcases hk with hk | ⟨hk, hkl⟩
    · rw [if_neg (by omega), natO_nat, Option.bind_some, get_some hil, Option.bind_some]
      exact tail fun h => by omega
    · have hik : i < v.K.length := by omega
      have hx := bsz_mem (List.getElem_mem hik)
      rw [if_pos hk, natO_nat, Option.bind_some, get_some hik, Option.bind_some, nameOk_eq (by omega), Option.bind_some]
      cases hnm : nameB v.K[i] with
      | false =>
        dsimp only
        refine bad hk ?_
        by_cases h0 : i = 0
        · subst h0; rw [kOk_zero hik, hnm]
        · rw [kOk_eq hik (by omega), hnm]; rfl
      | true =>
        dsimp only
        by_cases h0 : 0 < i
        · rw [if_pos (by omega), w64_pred (by omega) h0, natO_nat, Option.bind_some, get_some (show i - 1 < v.K.length by omega), Option.bind_some]
          by_cases hb : Op.bytesLess (v.K[i - 1]'(by omega)) v.K[i] = true
          · rw [if_pos hb, get_some hil, Option.bind_some]
            exact tail fun _ => by rw [kOk_eq hik h0, hnm, hb]; rfl
          · rw [if_neg hb]
            refine bad hk ?_
            rw [kOk_eq hik h0, hnm]; simpa using hb
        · have : i = 0 := by omega
          subst this
          rw [if_neg (by omega), get_some hil, Option.bind_some]
          exact tail fun _ => by rw [kOk_zero hik, hnm]
theorem l2ok_T {G : GValue → Int → Int → Option Int} {v : GValue} {f dd : Nat} {deep left : Int} (hdd : deep + dd = 5 ∨ (deep = 6 ∧ dd = 0)) (h1d : 1 ≤ deep) (hs : vsz v ≤ 2 ^ 20) (hf : v.L.length < f) (h0 : 0 ≤ left) (h1 : left ≤ 40)
    (hG : deep ≤ 5 → ∀ x ∈ v.L, ∀ r : Int, 0 ≤ r → r ≤ 40 → G x (deep + 1) r = some (okV dd r x)) : T_spec_l2ok G f v deep left = some (okV (if deep ≤ 5 then dd + 1 else 0) left v) := by
  have he := vsz_eq v
  have hl := vszs_len v.L
  have hpt := ptV_eq v
  have hpl := ptVs_len v.L
  unfold T_spec_l2ok
  rw [w64_id (by omega) (by omega)]
  by_cases hleft : left - 1 < 0
  · rw [if_pos hleft]
    unfold okV; rw [if_neg (by rintro ⟨_, h⟩; omega)]
  rw [if_neg hleft]
  by_cases hdeep : 5 < deep
  · rw [if_pos hdeep, if_neg (show ¬ deep ≤ 5 by omega)]
    unfold okV; rw [if_neg (by rintro ⟨h, _⟩; simp [shV] at h)]
  rw [if_neg hdeep, if_pos (show deep ≤ 5 by omega)]
  have hdd : deep + dd = 5 := by omega
  have hG := hG (by omega)
  unfold okV
  simp only [shV]
  have fin0 : v.L.length = 0 → (v.L.all (shV dd) = true ∧ ptV v = 1) := fun h => by
    have : v.L = [] := List.eq_nil_of_length_eq_zero h
    rw [hpt, this]; exact ⟨rfl, rfl⟩
  have yes : locV v = true → v.L.length = 0 → some (left - 1) = some (if (locV v && v.L.all (shV dd)) = true ∧ (ptV v : Int) ≤ left then left - ptV v else -1) := fun h1 h2 => by
    obtain ⟨a1, a2⟩ := fin0 h2
    rw [h1, a1, a2, if_pos ⟨rfl, by omega⟩]; rfl
  have no : locV v = false → some (-1) = some (if (locV v && v.L.all (shV dd)) = true ∧ (ptV v : Int) ≤ left then left - ptV v else -1) := fun h1 => by
    rw [h1, if_neg (by rintro ⟨h, _⟩; cases h)]
  have lp : v.Kind = 4 ∨ (v.Kind = 5 ∧ v.K.length = v.L.length) → (∀ b : Bool, v.L.length ≤ 40 → ((v.Kind = 5 → kAll v.K 0 v.L.length = true) ↔ b = true) → locV v = b) → ((L_spec_l2ok_l0 G deep v f (left - 1) 0).bind fun o8 => match o8 with | .inl o8_0 => some o8_0 | .inr (⟨o8_1_0, o8_1_1⟩) => some o8_1_0) =
      some (if (locV v && v.L.all (shV dd)) = true ∧ (ptV v : Int) ≤ left then left - ptV v else -1) := fun hk hloc => by
    obtain ⟨z, hz⟩ := l2ok_loop (G := G) hdd h1d hs hk hG v.L.length 0 f (left - 1) (by omega) (by omega) (by omega) (by omega)
    rw [show ((0 : Nat) : Int) = 0 from rfl, List.drop_zero] at hz
    rw [hz, Option.bind_some]
    by_cases hc : ((v.Kind = 5 → kAll v.K 0 v.L.length = true) ∧ v.L.all (shV dd) = true) ∧ (ptVs v.L : Int) ≤ left - 1
    · rw [if_pos hc]
      have h40 : v.L.length ≤ 40 := by omega
      have := hloc true h40 ⟨fun _ => rfl, fun _ => hc.1.1⟩
      rw [this, hc.1.2, if_pos ⟨rfl, by omega⟩, hpt]
      dsimp only
      congr 1; omega
    · rw [if_neg hc, if_neg]
      rintro ⟨h2, h3⟩
      rw [Bool.and_eq_true] at h2
      refine hc ⟨⟨?_, h2.2⟩, by omega⟩
      by_cases h40 : v.L.length ≤ 40
      · by_cases hb : (v.Kind = 5 → kAll v.K 0 v.L.length = true)
        · exact hb
        · have := hloc false h40 ⟨fun h => (hb h).elim, fun h => by cases h⟩
          rw [this] at h2; cases h2.1
      · omega
  have hloc : ∀ k, v.Kind = k → locV v = (if k = 0 ∨ k = 6 then decide (v.N = 0 ∧ v.S.length = 0 ∧ v.K.length = 0 ∧ v.L.length = 0)
      else if k = 1 then decide ((0 ≤ v.N ∧ v.N ≤ 1) ∧ v.S.length = 0 ∧ v.K.length = 0 ∧ v.L.length = 0)
      else if k = 2 then decide ((-1000000000000 ≤ v.N ∧ v.N ≤ 1000000000000) ∧ v.S.length = 0 ∧ v.K.length = 0 ∧ v.L.length = 0)
      else if k = 3 then textB v.S && decide (v.N = 0 ∧ v.K.length = 0 ∧ v.L.length = 0)
      else if k = 4 then decide (v.N = 0 ∧ v.S.length = 0 ∧ v.K.length = 0 ∧ v.L.length ≤ 40)
      else if k = 5 then decide (v.K.length = v.L.length ∧ v.N = 0 ∧ v.S.length = 0 ∧ v.L.length ≤ 40) && kAll v.K 0 v.K.length
      else false) := fun k hk => by unfold locV; rw [hk]
  by_cases k3 : v.Kind = 3
  · have hv := hloc 3 k3
    simp only [show ¬ ((3 : Int) = 0 ∨ (3 : Int) = 6) by omega, if_false, show ¬ ((3 : Int) = 1) by omega, show ¬ ((3 : Int) = 2) by omega, if_true] at hv
    rw [if_pos k3]
    by_cases a1 : 0 < ((v.K.length : Nat) : Int)
    · rw [if_pos a1]; exact no (by rw [hv, decide_eq_false (by omega)]; simp)
    · rw [if_neg a1]
      by_cases a2 : v.N = 0
      · rw [if_pos a2]
        by_cases a3 : 0 < ((v.L.length : Nat) : Int)
        · rw [if_pos a3]; exact no (by rw [hv, decide_eq_false (by omega)]; simp)
        · rw [if_neg a3, l2text_eq (by omega), Option.bind_some]
          rw [decide_eq_true (by omega), Bool.and_true] at hv
          cases ht : textB v.S with
          | true => exact yes (by rw [hv, ht]) (by omega)
          | false => exact no (by rw [hv, ht])
      · rw [if_neg a2]; exact no (by rw [hv, decide_eq_false (by omega)]; simp)
  rw [if_neg k3]
  by_cases hS : 0 < ((v.S.length : Nat) : Int)
  · rw [if_pos hS]
    refine no ?_
    unfold locV
    simp only [k3, if_false]
    repeat' split
    all_goals first | rfl | (rw [decide_eq_false (by omega)]; try rfl)
  rw [if_neg hS]
  by_cases k5 : v.Kind = 5
  · have hv := hloc 5 k5
    simp only [show ¬ ((5 : Int) = 0 ∨ (5 : Int) = 6) by omega, if_false, show ¬ ((5 : Int) = 1) by omega, show ¬ ((5 : Int) = 2) by omega, show ¬ ((5 : Int) = 3) by omega, show ¬ ((5 : Int) = 4) by omega, if_true] at hv
    rw [if_pos k5]
    by_cases a2 : v.N = 0
    · rw [if_pos a2]
      by_cases a3 : ((v.K.length : Nat) : Int) = ((v.L.length : Nat) : Int)
      · rw [if_pos a3]
        refine lp (.inr ⟨k5, by omega⟩) fun b h40 hb => ?_
        rw [hv, decide_eq_true (by omega), Bool.true_and, show v.K.length = v.L.length by omega, Bool.eq_iff_iff, ← hb]
        exact ⟨fun h _ => h, fun h => h k5⟩
      · rw [if_neg a3]; exact no (by rw [hv, decide_eq_false (by omega)]; rfl)
    · rw [if_neg a2]; exact no (by rw [hv, decide_eq_false (by omega)]; rfl)
  rw [if_neg k5]
  by_cases hK : 0 < ((v.K.length : Nat) : Int)
  · rw [if_pos hK]
    refine no ?_
    unfold locV
    simp only [k3, k5, if_false]
    repeat' split
    all_goals first | rfl | (rw [decide_eq_false (by omega)]; try rfl)
  rw [if_neg hK]
  by_cases k1 : v.Kind = 1
  · have hv := hloc 1 k1
    simp only [show ¬ ((1 : Int) = 0 ∨ (1 : Int) = 6) by omega, if_false, if_true] at hv
    rw [if_pos k1]
    by_cases a3 : 0 < ((v.L.length : Nat) : Int)
    · rw [if_pos a3]; exact no (by rw [hv, decide_eq_false (by omega)])
    · rw [if_neg a3]
      by_cases a4 : v.N < 0
      · rw [if_pos a4]; exact no (by rw [hv, decide_eq_false (by omega)])
      · rw [if_neg a4]
        by_cases a5 : 1 < v.N
        · rw [if_pos a5]; exact no (by rw [hv, decide_eq_false (by omega)])
        · rw [if_neg a5]; exact yes (by rw [hv, decide_eq_true (by omega)]) (by omega)
  rw [if_neg k1]
  by_cases k2 : v.Kind = 2
  · have hv := hloc 2 k2
    simp only [show ¬ ((2 : Int) = 0 ∨ (2 : Int) = 6) by omega, if_false, show ¬ ((2 : Int) = 1) by omega, if_true] at hv
    rw [if_pos k2]
    by_cases a3 : 0 < ((v.L.length : Nat) : Int)
    · rw [if_pos a3]; exact no (by rw [hv, decide_eq_false (by omega)])
    · rw [if_neg a3, l2int_eq, Option.bind_some]
      by_cases a4 : -1000000000000 ≤ v.N ∧ v.N ≤ 1000000000000
      · rw [decide_eq_true a4]; exact yes (by rw [hv, decide_eq_true (by omega)]) (by omega)
      · rw [decide_eq_false a4]; exact no (by rw [hv, decide_eq_false (by omega)])
  rw [if_neg k2]
  by_cases a2 : v.N = 0
  · rw [if_pos a2]
    by_cases k4 : v.Kind = 4
    · have hv := hloc 4 k4
      simp only [show ¬ ((4 : Int) = 0 ∨ (4 : Int) = 6) by omega, if_false, show ¬ ((4 : Int) = 1) by omega, show ¬ ((4 : Int) = 2) by omega, show ¬ ((4 : Int) = 3) by omega, if_true] at hv
      rw [if_pos k4]
      refine lp (.inl k4) fun b h40 hb => ?_
      rw [hv, decide_eq_true (by omega)]
      exact (hb.1 fun h => by omega).symm
    · rw [if_neg k4]
      by_cases a3 : 0 < ((v.L.length : Nat) : Int)
      · rw [if_pos a3]
        refine no ?_
        unfold locV
        simp only [k1, k2, k3, k4, k5, if_false]
        repeat' split
        all_goals first | rfl | (rw [decide_eq_false (by omega)])
      · rw [if_neg a3]
        by_cases k0 : v.Kind = 0
        · rw [if_pos k0]; exact yes (by unfold locV; rw [if_pos (.inl k0), decide_eq_true (by omega)]) (by omega)
        · rw [if_neg k0]
          by_cases k6 : v.Kind = 6
          · rw [if_pos k6]; exact yes (by unfold locV; rw [if_pos (.inr k6), decide_eq_true (by omega)]) (by omega)
          · rw [if_neg k6]
            exact no (by unfold locV; simp only [k0, k1, k2, k3, k4, k5, k6, or_self, if_false])
  · rw [if_neg a2]
    refine no ?_
    unfold locV
    simp only [k1, k2, k3, k5, if_false]
    repeat' split
    all_goals first | rfl | (rw [decide_eq_false (by omega)])
theorem l2ok_U : ∀ (N : Nat) (v : GValue), vsz v < N → vsz v ≤ 2 ^ 20 → ∀ (f : Nat) (deep left : Int), vsz v + 2 ≤ f → 1 ≤ deep → deep ≤ 6 → 0 ≤ left → left ≤ 40 → U_spec_l2ok f v deep left = some (okV (6 - deep).toNat left v) := by
  intro N
  induction N with
  | zero => intro v hv; omega
  | succ N ih =>
    intro v hv hs f deep left hf h1 h2 h3 h4
    obtain ⟨f, rfl, _⟩ := fuel (show 0 < f by omega)
    have he := vsz_eq v
    have hl := vszs_len v.L
    rw [U_spec_l2ok]
    have := l2ok_T (G := U_spec_l2ok f) (f := f) (dd := (5 - deep).toNat) (deep := deep) (left := left) (by omega) h1 hs (by omega) h3 h4 fun hd x hx r g0 g1 => by
      have hm := vszs_mem hx
      have := ih x (by omega) (by omega) f (deep + 1) r (by omega) (by omega) (by omega) g0 g1
      rw [show (6 - (deep + 1)).toNat = (5 - deep).toNat by omega] at this
      exact this
    rw [this]
    congr 2
    by_cases hd : deep ≤ 5
    · rw [if_pos hd]; omega
    · rw [if_neg hd]; omega
def S_spec_l2ok (a0 : GValue) (a1 : Int) (a2 : Int) : Option Int := if vsz a0 ≤ 2 ^ 20 ∧ (1 ≤ a1 ∧ a1 ≤ 6) ∧ 0 ≤ a2 ∧ a2 ≤ 40 then some (okV (6 - a1).toNat a2 a0) else none
theorem spec_spec_l2ok (a0 : GValue) (a1 : Int) (a2 : Int) (r : Int) (h : S_spec_l2ok a0 a1 a2 = some r) : ∃ n, U_spec_l2ok n a0 a1 a2 = some r := by
  unfold S_spec_l2ok at h
  obtain ⟨⟨hs, ⟨h1, h2⟩, h3, h4⟩, h⟩ := need_c h
  exact ⟨vsz a0 + 2, by rw [← h]; exact l2ok_U _ a0 (Nat.lt_succ_self _) hs _ a1 a2 (Nat.le_refl _) h1 h2 h3 h4⟩
theorem ok_spec_l2ok (a0 : GValue) (a1 : Int) (a2 : Int) (r : Int) (h : S_spec_l2ok a0 a1 a2 = some r) : (mach cfg).call 66 [] [.val true [.int .i64 a0.Kind, .int .i64 a0.N, .seq (eL e_u8 a0.S), .seq (eL (e_sl e_u8) a0.K), .seq (eL e_GValue a0.L)], .val false [.int .i64 a1], .val false [.int .i64 a2]] = some (.val false [.int .i64 r], []) := by
  obtain ⟨n, hn⟩ := spec_spec_l2ok a0 a1 a2 r h
  exact (rec_spec_l2ok n) a0 a1 a2 r hn
def S_spec_ValOk (a0 : GValue) : Option Bool :=
  (S_spec_l2ok a0 1 40).bind fun r1 =>
  some (decide (0 ≤ r1))

set_option maxRecDepth 100000 in
theorem fd_27 : cfg.funcs 27 = some (bodyOf Try.f27, Try.f27.ntmps, Try.f27.results.toList) := fn_of Try.func27 (by kernel_rfl) (by kernel_rfl)
theorem ok_spec_ValOk (a0 : GValue) (r : Bool) (h : S_spec_ValOk a0 = some r) : (mach cfg).call 27 [] [.val true [.int .i64 a0.Kind, .int .i64 a0.N, .seq (eL e_u8 a0.S), .seq (eL (e_sl e_u8) a0.K), .seq (eL e_GValue a0.L)]] = some (.val false [.bool r], []) := by
  unfold S_spec_ValOk at h
  obtain ⟨r1, hr1, h⟩ := Option.bind_eq_some_iff.1 h
  obtain rfl := Option.some.inj h
  exact call_way cfg [(.call 66 [] [.val true [.int .i64 a0.Kind, .int .i64 a0.N, .seq (eL e_u8 a0.S), .seq (eL (e_sl e_u8) a0.K), .seq (eL e_GValue a0.L)], .val false [.int .i64 1], .val false [.int .i64 40]], .r (.val false [.int .i64 r1]) []), (.leI 0 r1, .b (decide (0 ≤ r1)))] rfl fd_27 (by kernel_rfl) ⟨(A.call (ok_spec_l2ok a0 1 40 _ hr1)), A.leI_d, trivial⟩

def S_spec_EnvOk (a0 : GEnv) : Option Bool :=
  (S_spec_ValOk a0.Locals).bind fun r1 =>
  match r1 with
  | true =>
    if a0.Locals.Kind = 5 then
      (S_spec_ValOk a0.Res).bind fun r4 =>
      match r4 with
      | true =>
        if a0.Res.Kind = 5 then
          (S_spec_ValOk a0.Index).bind fun r7 =>
          match r7 with
          | true =>
            (S_spec_ValOk a0.Key).bind fun r9 =>
            match r9 with
            | true =>
              (S_spec_ValOk a0.Val).bind fun r11 =>
              some r11
            | false =>
              some false
          | false =>
            some false
        else
          some false
      | false =>
        some false
    else
      some false
  | false =>
    some false

set_option maxRecDepth 100000 in
theorem fd_16 : cfg.funcs 16 = some (bodyOf Try.f16, Try.f16.ntmps, Try.f16.results.toList) := fn_of Try.func16 (by kernel_rfl) (by kernel_rfl)
theorem ok_spec_EnvOk (a0 : GEnv) (r : Bool) (h : S_spec_EnvOk a0 = some r) : (mach cfg).call 16 [] [.val true [.int .i64 a0.Locals.Kind, .int .i64 a0.Locals.N, .seq (eL e_u8 a0.Locals.S), .seq (eL (e_sl e_u8) a0.Locals.K), .seq (eL e_GValue a0.Locals.L), .int .i64 a0.Res.Kind, .int .i64 a0.Res.N, .seq (eL e_u8 a0.Res.S), .seq (eL (e_sl e_u8) a0.Res.K), .seq (eL e_GValue a0.Res.L), .int .i64 a0.Index.Kind, .int .i64 a0.Index.N, .seq (eL e_u8 a0.Index.S), .seq (eL (e_sl e_u8) a0.Index.K), .seq (eL e_GValue a0.Index.L), .int .i64 a0.Key.Kind, .int .i64 a0.Key.N, .seq (eL e_u8 a0.Key.S), .seq (eL (e_sl e_u8) a0.Key.K), .seq (eL e_GValue a0.Key.L), .int .i64 a0.Val.Kind, .int .i64 a0.Val.N, .seq (eL e_u8 a0.Val.S), .seq (eL (e_sl e_u8) a0.Val.K), .seq (eL e_GValue a0.Val.L)]] = some (.val false [.bool r], []) := by
  unfold S_spec_EnvOk at h
  obtain ⟨r1, hr1, h⟩ := Option.bind_eq_some_iff.1 h
  cases r1 with
  | true =>
    try dsimp only at h
    by_cases c3 : a0.Locals.Kind = 5
    · rw [if_pos c3] at h
      obtain ⟨r4, hr4, h⟩ := Option.bind_eq_some_iff.1 h
      cases r4 with
      | true =>
        try dsimp only at h
        by_cases c6 : a0.Res.Kind = 5
        · rw [if_pos c6] at h
          obtain ⟨r7, hr7, h⟩ := Option.bind_eq_some_iff.1 h
          cases r7 with
          | true =>
            try dsimp only at h
            obtain ⟨r9, hr9, h⟩ := Option.bind_eq_some_iff.1 h
            cases r9 with
            | true =>
              try dsimp only at h
              obtain ⟨r11, hr11, h⟩ := Option.bind_eq_some_iff.1 h
              obtain rfl := Option.some.inj h
              exact call_way cfg [(.call 27 [] [.val true [.int .i64 a0.Locals.Kind, .int .i64 a0.Locals.N, .seq (eL e_u8 a0.Locals.S), .seq (eL (e_sl e_u8) a0.Locals.K), .seq (eL e_GValue a0.Locals.L)]], .r (.val false [.bool true]) []), (.eqI a0.Locals.Kind 5, .b true), (.call 27 [] [.val true [.int .i64 a0.Res.Kind, .int .i64 a0.Res.N, .seq (eL e_u8 a0.Res.S), .seq (eL (e_sl e_u8) a0.Res.K), .seq (eL e_GValue a0.Res.L)]], .r (.val false [.bool true]) []), (.eqI a0.Res.Kind 5, .b true), (.call 27 [] [.val true [.int .i64 a0.Index.Kind, .int .i64 a0.Index.N, .seq (eL e_u8 a0.Index.S), .seq (eL (e_sl e_u8) a0.Index.K), .seq (eL e_GValue a0.Index.L)]], .r (.val false [.bool true]) []), (.call 27 [] [.val true [.int .i64 a0.Key.Kind, .int .i64 a0.Key.N, .seq (eL e_u8 a0.Key.S), .seq (eL (e_sl e_u8) a0.Key.K), .seq (eL e_GValue a0.Key.L)]], .r (.val false [.bool true]) []), (.call 27 [] [.val true [.int .i64 a0.Val.Kind, .int .i64 a0.Val.N, .seq (eL e_u8 a0.Val.S), .seq (eL (e_sl e_u8) a0.Val.K), .seq (eL e_GValue a0.Val.L)]], .r (.val false [.bool r11]) [])] rfl fd_16 (by kernel_rfl) ⟨(A.call (ok_spec_ValOk a0.Locals _ hr1)), (A.eqI_t c3), (A.call (ok_spec_ValOk a0.Res _ hr4)), (A.eqI_t c6), (A.call (ok_spec_ValOk a0.Index _ hr7)), (A.call (ok_spec_ValOk a0.Key _ hr9)), (A.call (ok_spec_ValOk a0.Val _ hr11)), trivial⟩
            | false =>
              try dsimp only at h
              obtain rfl := Option.some.inj h
              exact call_way cfg [(.call 27 [] [.val true [.int .i64 a0.Locals.Kind, .int .i64 a0.Locals.N, .seq (eL e_u8 a0.Locals.S), .seq (eL (e_sl e_u8) a0.Locals.K), .seq (eL e_GValue a0.Locals.L)]], .r (.val false [.bool true]) []), (.eqI a0.Locals.Kind 5, .b true), (.call 27 [] [.val true [.int .i64 a0.Res.Kind, .int .i64 a0.Res.N, .seq (eL e_u8 a0.Res.S), .seq (eL (e_sl e_u8) a0.Res.K), .seq (eL e_GValue a0.Res.L)]], .r (.val false [.bool true]) []), (.eqI a0.Res.Kind 5, .b true), (.call 27 [] [.val true [.int .i64 a0.Index.Kind, .int .i64 a0.Index.N, .seq (eL e_u8 a0.Index.S), .seq (eL (e_sl e_u8) a0.Index.K), .seq (eL e_GValue a0.Index.L)]], .r (.val false [.bool true]) []), (.call 27 [] [.val true [.int .i64 a0.Key.Kind, .int .i64 a0.Key.N, .seq (eL e_u8 a0.Key.S), .seq (eL (e_sl e_u8) a0.Key.K), .seq (eL e_GValue a0.Key.L)]], .r (.val false [.bool false]) [])] rfl fd_16 (by kernel_rfl) ⟨(A.call (ok_spec_ValOk a0.Locals _ hr1)), (A.eqI_t c3), (A.call (ok_spec_ValOk a0.Res _ hr4)), (A.eqI_t c6), (A.call (ok_spec_ValOk a0.Index _ hr7)), (A.call (ok_spec_ValOk a0.Key _ hr9)), trivial⟩
          | false =>
            try dsimp only at h
            obtain rfl := Option.some.inj h
            exact call_way cfg [(.call 27 [] [.val true [.int .i64 a0.Locals.Kind, .int .i64 a0.Locals.N, .seq (eL e_u8 a0.Locals.S), .seq (eL (e_sl e_u8) a0.Locals.K), .seq (eL e_GValue a0.Locals.L)]], .r (.val false [.bool true]) []), (.eqI a0.Locals.Kind 5, .b true), (.call 27 [] [.val true [.int .i64 a0.Res.Kind, .int .i64 a0.Res.N, .seq (eL e_u8 a0.Res.S), .seq (eL (e_sl e_u8) a0.Res.K), .seq (eL e_GValue a0.Res.L)]], .r (.val false [.bool true]) []), (.eqI a0.Res.Kind 5, .b true), (.call 27 [] [.val true [.int .i64 a0.Index.Kind, .int .i64 a0.Index.N, .seq (eL e_u8 a0.Index.S), .seq (eL (e_sl e_u8) a0.Index.K), .seq (eL e_GValue a0.Index.L)]], .r (.val false [.bool false]) [])] rfl fd_16 (by kernel_rfl) ⟨(A.call (ok_spec_ValOk a0.Locals _ hr1)), (A.eqI_t c3), (A.call (ok_spec_ValOk a0.Res _ hr4)), (A.eqI_t c6), (A.call (ok_spec_ValOk a0.Index _ hr7)), trivial⟩
        · rw [if_neg c6] at h
          obtain rfl := Option.some.inj h
          exact call_way cfg [(.call 27 [] [.val true [.int .i64 a0.Locals.Kind, .int .i64 a0.Locals.N, .seq (eL e_u8 a0.Locals.S), .seq (eL (e_sl e_u8) a0.Locals.K), .seq (eL e_GValue a0.Locals.L)]], .r (.val false [.bool true]) []), (.eqI a0.Locals.Kind 5, .b true), (.call 27 [] [.val true [.int .i64 a0.Res.Kind, .int .i64 a0.Res.N, .seq (eL e_u8 a0.Res.S), .seq (eL (e_sl e_u8) a0.Res.K), .seq (eL e_GValue a0.Res.L)]], .r (.val false [.bool true]) []), (.eqI a0.Res.Kind 5, .b false)] rfl fd_16 (by kernel_rfl) ⟨(A.call (ok_spec_ValOk a0.Locals _ hr1)), (A.eqI_t c3), (A.call (ok_spec_ValOk a0.Res _ hr4)), (A.eqI_f c6), trivial⟩
      | false =>
        try dsimp only at h
        obtain rfl := Option.some.inj h
        exact call_way cfg [(.call 27 [] [.val true [.int .i64 a0.Locals.Kind, .int .i64 a0.Locals.N, .seq (eL e_u8 a0.Locals.S), .seq (eL (e_sl e_u8) a0.Locals.K), .seq (eL e_GValue a0.Locals.L)]], .r (.val false [.bool true]) []), (.eqI a0.Locals.Kind 5, .b true), (.call 27 [] [.val true [.int .i64 a0.Res.Kind, .int .i64 a0.Res.N, .seq (eL e_u8 a0.Res.S), .seq (eL (e_sl e_u8) a0.Res.K), .seq (eL e_GValue a0.Res.L)]], .r (.val false [.bool false]) [])] rfl fd_16 (by kernel_rfl) ⟨(A.call (ok_spec_ValOk a0.Locals _ hr1)), (A.eqI_t c3), (A.call (ok_spec_ValOk a0.Res _ hr4)), trivial⟩
    · rw [if_neg c3] at h
      obtain rfl := Option.some.inj h
      exact call_way cfg [(.call 27 [] [.val true [.int .i64 a0.Locals.Kind, .int .i64 a0.Locals.N, .seq (eL e_u8 a0.Locals.S), .seq (eL (e_sl e_u8) a0.Locals.K), .seq (eL e_GValue a0.Locals.L)]], .r (.val false [.bool true]) []), (.eqI a0.Locals.Kind 5, .b false)] rfl fd_16 (by kernel_rfl) ⟨(A.call (ok_spec_ValOk a0.Locals _ hr1)), (A.eqI_f c3), trivial⟩
  | false =>
    try dsimp only at h
    obtain rfl := Option.some.inj h
    exact call_way cfg [(.call 27 [] [.val true [.int .i64 a0.Locals.Kind, .int .i64 a0.Locals.N, .seq (eL e_u8 a0.Locals.S), .seq (eL (e_sl e_u8) a0.Locals.K), .seq (eL e_GValue a0.Locals.L)]], .r (.val false [.bool false]) [])] rfl fd_16 (by kernel_rfl) ⟨(A.call (ok_spec_ValOk a0.Locals _ hr1)), trivial⟩

def S_impl_in (a0 : Int) (a1 : Int) (a2 : Int) : Option Bool :=
  if a1 ≤ a0 then
    some (decide (a0 ≤ a2))
  else
    some false

set_option maxRecDepth 100000 in
theorem fd_38 : cfg.funcs 38 = some (bodyOf Try.f38, Try.f38.ntmps, Try.f38.results.toList) := fn_of Try.func38 (by kernel_rfl) (by kernel_rfl)
theorem ok_impl_in (a0 : Int) (a1 : Int) (a2 : Int) (r : Bool) (h : S_impl_in a0 a1 a2 = some r) : (mach cfg).call 38 [] [.val false [.int .i64 a0], .val false [.int .i64 a1], .val false [.int .i64 a2]] = some (.val false [.bool r], []) := by
  unfold S_impl_in at h
  by_cases c1 : a1 ≤ a0
  · rw [if_pos c1] at h
    obtain rfl := Option.some.inj h
    exact call_way cfg [(.leI a1 a0, .b true), (.leI a0 a2, .b (decide (a0 ≤ a2)))] rfl fd_38 (by kernel_rfl) ⟨(A.leI_t c1), A.leI_d, trivial⟩
  · rw [if_neg c1] at h
    obtain rfl := Option.some.inj h
    exact call_way cfg [(.leI a1 a0, .b false)] rfl fd_38 (by kernel_rfl) ⟨(A.leI_f c1), trivial⟩

def L_impl_isText_l0 (a0 : (List UInt8)) (v1 : Int) : Nat → Int → Option (Bool ⊕ Int)
  | 0, _ => none
  | m + 1, v2 =>
    if v2 < v1 then
      (natO v2).bind fun i2 =>
      (a0[i2]?).bind fun x3 =>
      if ((x3.toNat : Nat) : Int) < 32 then
        some (.inl false)
      else
        if 126 < ((x3.toNat : Nat) : Int) then
          some (.inl false)
        else
          L_impl_isText_l0 a0 v1 m (w64 (v2 + 1))
    else
      some (.inr v2)

theorem gl_impl_isText_l0 (a0 : (List UInt8)) (v1 : Int) (m : Nat) : ∀ (v2 : Int) (o : (Bool ⊕ Int)), L_impl_isText_l0 a0 v1 m v2 = some o → (mach cfg).loop 104 (loopB Try.f104 0) ⟨[(0, .val false [.seq (eL e_u8 a0)]), (5, .val false [.seq (eL e_u8 a0)]), (6, .val false [.int .i64 v1]), (7, .val false [.int .i64 v2])], [], 0⟩ = some (match o with | .inl o_0 => (.ret, (⟨[(2, .val false [.bool o_0])], [], 0⟩ : S)) | .inr (o_1) => (.exit 0, (⟨[(0, .val false [.seq (eL e_u8 a0)]), (5, .val false [.seq (eL e_u8 a0)]), (6, .val false [.int .i64 v1]), (7, .val false [.int .i64 o_1]), (8, .val false [.bool false])], [], 0⟩ : S))) := by
  induction m with
  | zero => intro v2 o h; cases h
  | succ m ih =>
    intro v2 o h
    rw [L_impl_isText_l0] at h
    by_cases c1 : v2 < v1
    · rw [if_pos c1] at h
      obtain ⟨i2, hi2, h⟩ := Option.bind_eq_some_iff.1 h
      obtain ⟨x3, hx3, h⟩ := Option.bind_eq_some_iff.1 h
      by_cases c4 : ((x3.toNat : Nat) : Int) < 32
      · rw [if_pos c4] at h
        obtain rfl := Option.some.inj h
        exact loop_end cfg [(.ltI v2 v1, .b true), (.nat v2, .n i2), (.idx (eL e_u8 a0) i2, .e [.int .u8 ((x3.toNat : Nat) : Int)]), (.ltI ((x3.toNat : Nat) : Int) 32, .b true)] (by kernel_rfl) ⟨(A.ltI_t c1), (A.nat hi2), (A.idx hx3 rfl), (A.ltI_t c4), trivial⟩ (by intro h; cases h)
      · rw [if_neg c4] at h
        by_cases c5 : 126 < ((x3.toNat : Nat) : Int)
        · rw [if_pos c5] at h
          obtain rfl := Option.some.inj h
          exact loop_end cfg [(.ltI v2 v1, .b true), (.nat v2, .n i2), (.idx (eL e_u8 a0) i2, .e [.int .u8 ((x3.toNat : Nat) : Int)]), (.ltI ((x3.toNat : Nat) : Int) 32, .b false), (.ltI 126 ((x3.toNat : Nat) : Int), .b true)] (by kernel_rfl) ⟨(A.ltI_t c1), (A.nat hi2), (A.idx hx3 rfl), (A.ltI_f c4), (A.ltI_t c5), trivial⟩ (by intro h; cases h)
        · rw [if_neg c5] at h
          exact loop_on cfg [(.ltI v2 v1, .b true), (.nat v2, .n i2), (.idx (eL e_u8 a0) i2, .e [.int .u8 ((x3.toNat : Nat) : Int)]), (.ltI ((x3.toNat : Nat) : Int) 32, .b false), (.ltI 126 ((x3.toNat : Nat) : Int), .b false), (.add .i64 v2 1, .i (w64 (v2 + 1)))] (by kernel_rfl) ⟨(A.ltI_t c1), (A.nat hi2), (A.idx hx3 rfl), (A.ltI_f c4), (A.ltI_f c5), rfl, trivial⟩ (ih (w64 (v2 + 1)) o h)
    · rw [if_neg c1] at h
      obtain rfl := Option.some.inj h
      exact loop_end cfg [(.ltI v2 v1, .b false)] (by kernel_rfl) ⟨(A.ltI_f c1), trivial⟩ (by intro h; cases h)

def T_impl_isText (n : Nat) (a0 : (List UInt8)) : Option Bool :=
  (L_impl_isText_l0 a0 ((a0.length : Nat) : Int) n 0).bind fun o1 =>
  match o1 with
  | .inl o1_0 =>
    some o1_0
  | .inr (o1_1) =>
    some (decide (((a0.length : Nat) : Int) ≤ 20))

set_option maxRecDepth 100000 in
theorem fd_104 : cfg.funcs 104 = some (bodyOf Try.f104, Try.f104.ntmps, Try.f104.results.toList) := fn_of Try.func104 (by kernel_rfl) (by kernel_rfl)
theorem g_impl_isText (n : Nat) (a0 : (List UInt8)) (r : Bool) (h : T_impl_isText n a0 = some r) : (mach cfg).call 104 [] [.val false [.seq (eL e_u8 a0)]] = some (.val false [.bool r], []) := by
  unfold T_impl_isText at h
  obtain ⟨o1, ho1, h⟩ := Option.bind_eq_some_iff.1 h
  rcases o1 with o1_0 | o1_1
  · try dsimp only at h
    obtain rfl := Option.some.inj h
    exact call_way cfg [(.len (eL e_u8 a0), .i ((a0.length : Nat) : Int)), (.loop 104 (loopB Try.f104 0) ⟨[(0, .val false [.seq (eL e_u8 a0)]), (5, .val false [.seq (eL e_u8 a0)]), (6, .val false [.int .i64 ((a0.length : Nat) : Int)]), (7, .val false [.int .i64 0])], [], 0⟩, .x (.ret) ⟨[(2, .val false [.bool o1_0])], [], 0⟩)] rfl fd_104 (by kernel_rfl) ⟨A.len, (A.loop (gl_impl_isText_l0 a0 ((a0.length : Nat) : Int) _ 0 _ ho1)), trivial⟩
  · try dsimp only at h
    obtain rfl := Option.some.inj h
    exact call_way cfg [(.len (eL e_u8 a0), .i ((a0.length : Nat) : Int)), (.loop 104 (loopB Try.f104 0) ⟨[(0, .val false [.seq (eL e_u8 a0)]), (5, .val false [.seq (eL e_u8 a0)]), (6, .val false [.int .i64 ((a0.length : Nat) : Int)]), (7, .val false [.int .i64 0])], [], 0⟩, .x (.exit 0) ⟨[(0, .val false [.seq (eL e_u8 a0)]), (5, .val false [.seq (eL e_u8 a0)]), (6, .val false [.int .i64 ((a0.length : Nat) : Int)]), (7, .val false [.int .i64 o1_1]), (8, .val false [.bool false])], [], 0⟩), (.len (eL e_u8 a0), .i ((a0.length : Nat) : Int)), (.leI ((a0.length : Nat) : Int) 20, .b (decide (((a0.length : Nat) : Int) ≤ 20)))] rfl fd_104 (by kernel_rfl) ⟨A.len, (A.loop (gl_impl_isText_l0 a0 ((a0.length : Nat) : Int) _ 0 _ ho1)), A.len, A.leI_d, trivial⟩

theorem impl_isText_loop {a : List UInt8} (ha : a.length ≤ 2 ^ 20) : ∀ (d i m : Nat), i + d = a.length → d < m → ∃ z, L_impl_isText_l0 a (a.length : Int) m (i : Int) = some (if (a.drop i).all (inB 32 126) = true then .inr z else .inl false) := by
  intro d
  induction d with
  | zero =>
    intro i m hi hm
    obtain ⟨m, rfl, _⟩ := fuel hm
    exact ⟨_, by rw [L_impl_isText_l0, if_neg (by omega), List.drop_eq_nil_of_le (by omega)]; rfl⟩
  | succ d ih =>
    intro i m hi hm
    obtain ⟨m, rfl, hm'⟩ := fuel hm
    have hil : i < a.length := by omega
    rw [L_impl_isText_l0, if_pos (by omega), natO_nat, Option.bind_some, get_some hil, Option.bind_some, w64_succ (by omega), drop_cons hil, List.all_cons]
    by_cases h1 : ((a[i].toNat : Nat) : Int) < 32
    · exact ⟨0, by rw [if_pos h1, if_neg]; simp [inB]; omega⟩
    · rw [if_neg h1]
      by_cases h2 : (126 : Int) < ((a[i].toNat : Nat) : Int)
      · exact ⟨0, by rw [if_pos h2, if_neg]; simp [inB]; omega⟩
      · rw [if_neg h2, show inB 32 126 a[i] = true by simp [inB]; omega, Bool.true_and]
        exact ih (i + 1) m (by omega) (by omega)
def S_impl_isText (a0 : (List UInt8)) : Option Bool := if a0.length ≤ 2 ^ 20 then some (textB a0) else none
theorem spec_impl_isText (a0 : (List UInt8)) (r : Bool) (h : S_impl_isText a0 = some r) : ∃ n, T_impl_isText n a0 = some r := by
  unfold S_impl_isText at h
  obtain ⟨ha, h⟩ := need_c h
  refine ⟨a0.length + 1, ?_⟩
  obtain ⟨z, hz⟩ := impl_isText_loop ha a0.length 0 (a0.length + 1) (by omega) (by omega)
  rw [show ((0 : Nat) : Int) = 0 from rfl, List.drop_zero] at hz
  unfold T_impl_isText
  rw [← h, hz]
  unfold textB
  by_cases hl : a0.length ≤ 20
  · rw [decide_eq_true hl]
    cases a0.all (inB 32 126)
    · rfl
    · show some (decide _) = _; rw [decide_eq_true (by omega)]; rfl
  · rw [decide_eq_false hl]
    cases a0.all (inB 32 126)
    · rfl
    · show some (decide _) = _; rw [decide_eq_false (by omega)]; rfl
theorem ok_impl_isText (a0 : (List UInt8)) (r : Bool) (h : S_impl_isText a0 = some r) : (mach cfg).call 104 [] [.val false [.seq (eL e_u8 a0)]] = some (.val false [.bool r], []) := by
  obtain ⟨n, hn⟩ := spec_impl_isText a0 r h
  exact g_impl_isText n a0 r hn
def L_impl_isName_l0 (a0 : (List UInt8)) (v1 : Int) : Nat → Int → Option (Bool ⊕ Int)
  | 0, _ => none
  | m + 1, v2 =>
    if v2 < v1 then
      (natO v2).bind fun i2 =>
      (a0[i2]?).bind fun x3 =>
      if ((x3.toNat : Nat) : Int) < 97 then
        some (.inl false)
      else
        if 122 < ((x3.toNat : Nat) : Int) then
          some (.inl false)
        else
          L_impl_isName_l0 a0 v1 m (w64 (v2 + 1))
    else
      some (.inr v2)

theorem gl_impl_isName_l0 (a0 : (List UInt8)) (v1 : Int) (m : Nat) : ∀ (v2 : Int) (o : (Bool ⊕ Int)), L_impl_isName_l0 a0 v1 m v2 = some o → (mach cfg).loop 105 (loopB Try.f105 0) ⟨[(0, .val false [.seq (eL e_u8 a0)]), (5, .val false [.seq (eL e_u8 a0)]), (6, .val false [.int .i64 v1]), (7, .val false [.int .i64 v2])], [], 0⟩ = some (match o with | .inl o_0 => (.ret, (⟨[(2, .val false [.bool o_0])], [], 0⟩ : S)) | .inr (o_1) => (.exit 0, (⟨[(0, .val false [.seq (eL e_u8 a0)]), (5, .val false [.seq (eL e_u8 a0)]), (6, .val false [.int .i64 v1]), (7, .val false [.int .i64 o_1]), (8, .val false [.bool false])], [], 0⟩ : S))) := by
  induction m with
  | zero => intro v2 o h; cases h
  | succ m ih =>
    intro v2 o h
    rw [L_impl_isName_l0] at h
    by_cases c1 : v2 < v1
    · rw [if_pos c1] at h
      obtain ⟨i2, hi2, h⟩ := Option.bind_eq_some_iff.1 h
      obtain ⟨x3, hx3, h⟩ := Option.bind_eq_some_iff.1 h
      by_cases c4 : ((x3.toNat : Nat) : Int) < 97
      · rw [if_pos c4] at h
        obtain rfl := Option.some.inj h
        exact loop_end cfg [(.ltI v2 v1, .b true), (.nat v2, .n i2), (.idx (eL e_u8 a0) i2, .e [.int .u8 ((x3.toNat : Nat) : Int)]), (.ltI ((x3.toNat : Nat) : Int) 97, .b true)] (by kernel_rfl) ⟨(A.ltI_t c1), (A.nat hi2), (A.idx hx3 rfl), (A.ltI_t c4), trivial⟩ (by intro h; cases h)
      · rw [if_neg c4] at h
        by_cases c5 : 122 < ((x3.toNat : Nat) : Int)
        · rw [if_pos c5] at h
          obtain rfl := Option.some.inj h
          exact loop_end cfg [(.ltI v2 v1, .b true), (.nat v2, .n i2), (.idx (eL e_u8 a0) i2, .e [.int .u8 ((x3.toNat : Nat) : Int)]), (.ltI ((x3.toNat : Nat) : Int) 97, .b false), (.ltI 122 ((x3.toNat : Nat) : Int), .b true)] (by kernel_rfl) ⟨(A.ltI_t c1), (A.nat hi2), (A.idx hx3 rfl), (A.ltI_f c4), (A.ltI_t c5), trivial⟩ (by intro h; cases h)
        · rw [if_neg c5] at h
          exact loop_on cfg [(.ltI v2 v1, .b true), (.nat v2, .n i2), (.idx (eL e_u8 a0) i2, .e [.int .u8 ((x3.toNat : Nat) : Int)]), (.ltI ((x3.toNat : Nat) : Int) 97, .b false), (.ltI 122 ((x3.toNat : Nat) : Int), .b false), (.add .i64 v2 1, .i (w64 (v2 + 1)))] (by kernel_rfl) ⟨(A.ltI_t c1), (A.nat hi2), (A.idx hx3 rfl), (A.ltI_f c4), (A.ltI_f c5), rfl, trivial⟩ (ih (w64 (v2 + 1)) o h)
    · rw [if_neg c1] at h
      obtain rfl := Option.some.inj h
      exact loop_end cfg [(.ltI v2 v1, .b false)] (by kernel_rfl) ⟨(A.ltI_f c1), trivial⟩ (by intro h; cases h)

def T_impl_isName (n : Nat) (a0 : (List UInt8)) : Option Bool :=
  (L_impl_isName_l0 a0 ((a0.length : Nat) : Int) n 0).bind fun o1 =>
  match o1 with
  | .inl o1_0 =>
    some o1_0
  | .inr (o1_1) =>
    (S_impl_in ((a0.length : Nat) : Int) 1 8).bind fun r2 =>
    some r2

set_option maxRecDepth 100000 in
theorem fd_105 : cfg.funcs 105 = some (bodyOf Try.f105, Try.f105.ntmps, Try.f105.results.toList) := fn_of Try.func105 (by kernel_rfl) (by kernel_rfl)
theorem g_impl_isName (n : Nat) (a0 : (List UInt8)) (r : Bool) (h : T_impl_isName n a0 = some r) : (mach cfg).call 105 [] [.val false [.seq (eL e_u8 a0)]] = some (.val false [.bool r], []) := by
  unfold T_impl_isName at h
  obtain ⟨o1, ho1, h⟩ := Option.bind_eq_some_iff.1 h
  rcases o1 with o1_0 | o1_1
  · try dsimp only at h
    obtain rfl := Option.some.inj h
    exact call_way cfg [(.len (eL e_u8 a0), .i ((a0.length : Nat) : Int)), (.loop 105 (loopB Try.f105 0) ⟨[(0, .val false [.seq (eL e_u8 a0)]), (5, .val false [.seq (eL e_u8 a0)]), (6, .val false [.int .i64 ((a0.length : Nat) : Int)]), (7, .val false [.int .i64 0])], [], 0⟩, .x (.ret) ⟨[(2, .val false [.bool o1_0])], [], 0⟩)] rfl fd_105 (by kernel_rfl) ⟨A.len, (A.loop (gl_impl_isName_l0 a0 ((a0.length : Nat) : Int) _ 0 _ ho1)), trivial⟩
  · try dsimp only at h
    obtain ⟨r2, hr2, h⟩ := Option.bind_eq_some_iff.1 h
    obtain rfl := Option.some.inj h
    exact call_way cfg [(.len (eL e_u8 a0), .i ((a0.length : Nat) : Int)), (.loop 105 (loopB Try.f105 0) ⟨[(0, .val false [.seq (eL e_u8 a0)]), (5, .val false [.seq (eL e_u8 a0)]), (6, .val false [.int .i64 ((a0.length : Nat) : Int)]), (7, .val false [.int .i64 0])], [], 0⟩, .x (.exit 0) ⟨[(0, .val false [.seq (eL e_u8 a0)]), (5, .val false [.seq (eL e_u8 a0)]), (6, .val false [.int .i64 ((a0.length : Nat) : Int)]), (7, .val false [.int .i64 o1_1]), (8, .val false [.bool false])], [], 0⟩), (.len (eL e_u8 a0), .i ((a0.length : Nat) : Int)), (.call 38 [] [.val false [.int .i64 ((a0.length : Nat) : Int)], .val false [.int .i64 1], .val false [.int .i64 8]], .r (.val false [.bool r2]) [])] rfl fd_105 (by kernel_rfl) ⟨A.len, (A.loop (gl_impl_isName_l0 a0 ((a0.length : Nat) : Int) _ 0 _ ho1)), A.len, (A.call (ok_impl_in ((a0.length : Nat) : Int) 1 8 _ hr2)), trivial⟩

theorem impl_isName_loop {a : List UInt8} (ha : a.length ≤ 2 ^ 20) : ∀ (d i m : Nat), i + d = a.length → d < m → ∃ z, L_impl_isName_l0 a (a.length : Int) m (i : Int) = some (if (a.drop i).all (inB 97 122) = true then .inr z else .inl false) := by
  intro d
  induction d with
  | zero =>
    intro i m hi hm
    obtain ⟨m, rfl, _⟩ := fuel hm
    exact ⟨_, by rw [L_impl_isName_l0, if_neg (by omega), List.drop_eq_nil_of_le (by omega)]; rfl⟩
  | succ d ih =>
    intro i m hi hm
    obtain ⟨m, rfl, hm'⟩ := fuel hm
    have hil : i < a.length := by omega
    rw [L_impl_isName_l0, if_pos (by omega), natO_nat, Option.bind_some, get_some hil, Option.bind_some, w64_succ (by omega), drop_cons hil, List.all_cons]
    by_cases h1 : ((a[i].toNat : Nat) : Int) < 97
    · exact ⟨0, by rw [if_pos h1, if_neg]; simp [inB]; omega⟩
    · rw [if_neg h1]
      by_cases h2 : (122 : Int) < ((a[i].toNat : Nat) : Int)
      · exact ⟨0, by rw [if_pos h2, if_neg]; simp [inB]; omega⟩
      · rw [if_neg h2, show inB 97 122 a[i] = true by simp [inB]; omega, Bool.true_and]
        exact ih (i + 1) m (by omega) (by omega)
theorem in_eq (a b c : Int) : S_impl_in a b c = some (decide (b ≤ a ∧ a ≤ c)) := by
  unfold S_impl_in
  by_cases h : b ≤ a
  · rw [if_pos h]; simp [h]
  · rw [if_neg h]; simp [h]
def S_impl_isName (a0 : (List UInt8)) : Option Bool := if a0.length ≤ 2 ^ 20 then some (nameB a0) else none
theorem spec_impl_isName (a0 : (List UInt8)) (r : Bool) (h : S_impl_isName a0 = some r) : ∃ n, T_impl_isName n a0 = some r := by
  unfold S_impl_isName at h
  obtain ⟨ha, h⟩ := need_c h
  refine ⟨a0.length + 1, ?_⟩
  obtain ⟨z, hz⟩ := impl_isName_loop ha a0.length 0 (a0.length + 1) (by omega) (by omega)
  rw [show ((0 : Nat) : Int) = 0 from rfl, List.drop_zero] at hz
  unfold T_impl_isName
  rw [← h, hz]
  unfold nameB
  have hd : decide (1 ≤ a0.length ∧ a0.length ≤ 8) = decide ((1 : Int) ≤ (a0.length : Int) ∧ (a0.length : Int) ≤ 8) := decide_eq_decide.2 (by omega)
  rw [hd]
  cases a0.all (inB 97 122)
  · rw [Bool.and_false]; rfl
  · rw [Bool.and_true]
    simp only [if_true, Option.bind_some, in_eq]
theorem ok_impl_isName (a0 : (List UInt8)) (r : Bool) (h : S_impl_isName a0 = some r) : (mach cfg).call 105 [] [.val false [.seq (eL e_u8 a0)]] = some (.val false [.bool r], []) := by
  obtain ⟨n, hn⟩ := spec_impl_isName a0 r h
  exact g_impl_isName n a0 r hn
def S_bytes_Compare (a0 : (List UInt8)) (a1 : (List UInt8)) : Option Int :=
  (S_internal_bytealg_Compare a0 a1).bind fun r1 =>
  some r1

set_option maxRecDepth 100000 in
theorem fd_96 : cfg.funcs 96 = some (bodyOf Try.f96, Try.f96.ntmps, Try.f96.results.toList) := fn_of Try.func96 (by kernel_rfl) (by kernel_rfl)
theorem ok_bytes_Compare (a0 : (List UInt8)) (a1 : (List UInt8)) (r : Int) (h : S_bytes_Compare a0 a1 = some r) : (mach cfg).call 96 [] [.val false [.seq (eL e_u8 a0)], .val false [.seq (eL e_u8 a1)]] = some (.val false [.int .i64 r], []) := by
  unfold S_bytes_Compare at h
  obtain ⟨r1, hr1, h⟩ := Option.bind_eq_some_iff.1 h
  obtain rfl := Option.some.inj h
  exact call_way cfg [(.call 112 [] [.val false [.seq (eL e_u8 a0)], .val false [.seq (eL e_u8 a1)]], .r (.val false [.int .i64 r1]) [])] rfl fd_96 (by kernel_rfl) ⟨(A.call (ok_internal_bytealg_Compare a0 a1 _ hr1)), trivial⟩

end
end Go.Am.Try
