/- The functions of the program in plain Lean, and that the machine answers as they do; conditions at each theorem. -/
import Derived.Test.YtabecknjhcjpfaaDoorEG1
set_option linter.unusedVariables false
set_option linter.unusedSimpArgs false
namespace Go.Am.Try
open Go.Am Go.Proofs
set_option linter.unusedVariables false
set_option maxRecDepth 20000
set_option maxHeartbeats 2000000
noncomputable section
def S_spec_ValOk (a0 : GValue) : Option Bool :=
  (S_spec_l2ok a0 1 40).bind fun r1 =>
  some (decide (0 <= r1))
set_option maxRecDepth 100000 in
theorem fd_15 : cfg.funcs 15 = some (bodyOf Tryd.f15, Tryd.f15.ntmps, Tryd.f15.results.toList) := fn_of Tryd.func15 (by kernel_rfl) (by kernel_rfl)
theorem ok_spec_ValOk (a0 : GValue) (r : Bool) (h : S_spec_ValOk a0 = some r) : (mach cfg).call 15 [] [.val true [.int .i64 a0.Kind, .int .i64 a0.N, .seq (eL e_u8 a0.S), .seq (eL (e_sl e_u8) a0.K), .seq (eL e_GValue a0.L)]] = some (.val false [.bool r], []) := by
  unfold S_spec_ValOk at h
  obtain ⟨r1, hr1, h⟩ := bs h
  obtain rfl := Option.some.inj h
  exact call_wQ [.cl (ok_spec_l2ok a0 1 40 _ hr1), .gD 0 r1] rfl fd_15 (by kernel_rfl)
def S_spec_l2bytes (a0 : (List UInt8)) (a1 : (List UInt8)) : Option Int :=
  if Op.bytesLess a0 a1 = true then
    some (-1)
  else
    if Op.bytesLess a1 a0 = true then
      some 1
    else
      some 0
set_option maxRecDepth 100000 in
theorem fd_40 : cfg.funcs 40 = some (bodyOf Tryd.f40, Tryd.f40.ntmps, Tryd.f40.results.toList) := fn_of Tryd.func40 (by kernel_rfl) (by kernel_rfl)
theorem ok_spec_l2bytes (a0 : (List UInt8)) (a1 : (List UInt8)) (r : Int) (h : S_spec_l2bytes a0 a1 = some r) : (mach cfg).call 40 [] [.val false [.seq (eL e_u8 a0)], .val false [.seq (eL e_u8 a1)]] = some (.val false [.int .i64 r], []) := by
  unfold S_spec_l2bytes at h
  rcases ite_some h with ⟨c1, h⟩ | ⟨c1, h⟩
  ·obtain rfl := Option.some.inj h
   exact call_wQ [⟨.bytes (eL e_u8 a0), .s a0, A.bytes⟩, ⟨.bytes (eL e_u8 a1), .s a1, A.bytes⟩, ⟨.ltS a0 a1, .b true, (A.ltS_t c1)⟩] rfl fd_40 (by kernel_rfl)
  ·rcases ite_some h with ⟨c2, h⟩ | ⟨c2, h⟩
   ·obtain rfl := Option.some.inj h
    exact call_wQ [⟨.bytes (eL e_u8 a0), .s a0, A.bytes⟩, ⟨.bytes (eL e_u8 a1), .s a1, A.bytes⟩, ⟨.ltS a0 a1, .b false, (A.ltS_f c1)⟩, ⟨.bytes (eL e_u8 a0), .s a0, A.bytes⟩, ⟨.bytes (eL e_u8 a1), .s a1, A.bytes⟩, ⟨.ltS a1 a0, .b true, (A.ltS_t c2)⟩] rfl fd_40 (by kernel_rfl)
   ·obtain rfl := Option.some.inj h
    exact call_wQ [⟨.bytes (eL e_u8 a0), .s a0, A.bytes⟩, ⟨.bytes (eL e_u8 a1), .s a1, A.bytes⟩, ⟨.ltS a0 a1, .b false, (A.ltS_f c1)⟩, ⟨.bytes (eL e_u8 a0), .s a0, A.bytes⟩, ⟨.bytes (eL e_u8 a1), .s a1, A.bytes⟩, ⟨.ltS a1 a0, .b false, (A.ltS_f c2)⟩] rfl fd_40 (by kernel_rfl)
def S_spec_l2num (a0 : Int) (a1 : Int) : Option Int :=
  if a0 < a1 then
    some (-1)
  else
    if a1 < a0 then
      some 1
    else
      some 0
set_option maxRecDepth 100000 in
theorem fd_39 : cfg.funcs 39 = some (bodyOf Tryd.f39, Tryd.f39.ntmps, Tryd.f39.results.toList) := fn_of Tryd.func39 (by kernel_rfl) (by kernel_rfl)
theorem ok_spec_l2num (a0 : Int) (a1 : Int) (r : Int) (h : S_spec_l2num a0 a1 = some r) : (mach cfg).call 39 [] [.val false [.int .i64 a0], .val false [.int .i64 a1]] = some (.val false [.int .i64 r], []) := by
  unfold S_spec_l2num at h
  rcases ite_some h with ⟨c1, h⟩ | ⟨c1, h⟩
  ·obtain rfl := Option.some.inj h
   exact call_wQ [.lT c1] rfl fd_39 (by kernel_rfl)
  ·rcases ite_some h with ⟨c2, h⟩ | ⟨c2, h⟩
   ·obtain rfl := Option.some.inj h
    exact call_wQ [.lF c1, .lT c2] rfl fd_39 (by kernel_rfl)
   ·obtain rfl := Option.some.inj h
    exact call_wQ [.lF c1, .lF c2] rfl fd_39 (by kernel_rfl)
def L_spec_l2cmp_l0 (G_spec_l2cmp : GValue → GValue → Option Int) (a0 : GValue) (a1 : GValue) : Nat → Int → Option (Int ⊕ Int)
  | 0, _ => none
  | m + 1, v0 =>
    if v0 < ((a0.L.length : Nat) : Int) then
      if v0 < ((a1.L.length : Nat) : Int) then
        if a0.Kind = 5 then
          (natO v0).bind fun i4 =>
          (a0.K[i4]?).bind fun x5 =>
          (a1.K[i4]?).bind fun x6 =>
          (S_spec_l2bytes x5 x6).bind fun r7 =>
          if r7 = 0 then
            (a0.L[i4]?).bind fun x9 =>
            (a1.L[i4]?).bind fun x10 =>
            (G_spec_l2cmp x9 x10).bind fun r11 =>
            if r11 = 0 then
              L_spec_l2cmp_l0 G_spec_l2cmp a0 a1 m (w64 (v0 + 1))
            else
              some (.inl r11)
          else
            some (.inl r7)
        else
          (natO v0).bind fun i4 =>
          (a0.L[i4]?).bind fun x5 =>
          (a1.L[i4]?).bind fun x6 =>
          (G_spec_l2cmp x5 x6).bind fun r7 =>
          if r7 = 0 then
            L_spec_l2cmp_l0 G_spec_l2cmp a0 a1 m (w64 (v0 + 1))
          else
            some (.inl r7)
      else
        some (.inr v0)
    else
      some (.inr v0)
theorem gl_spec_l2cmp_l0 (G_spec_l2cmp : GValue → GValue → Option Int) (H_spec_l2cmp : ∀ (a0 : GValue) (a1 : GValue) (r : Int), G_spec_l2cmp a0 a1 = some r → (mach cfg).call 28 [] [.val true [.int .i64 a0.Kind, .int .i64 a0.N, .seq (eL e_u8 a0.S), .seq (eL (e_sl e_u8) a0.K), .seq (eL e_GValue a0.L)], .val true [.int .i64 a1.Kind, .int .i64 a1.N, .seq (eL e_u8 a1.S), .seq (eL (e_sl e_u8) a1.K), .seq (eL e_GValue a1.L)]] = some (.val false [.int .i64 r], [])) (a0 : GValue) (a1 : GValue) (m : Nat) : ∀ (v0 : Int) (o : (Int ⊕ Int)), L_spec_l2cmp_l0 G_spec_l2cmp a0 a1 m v0 = some o → (mach cfg).loop 28 (loopB Tryd.f28 0) ⟨[(2, .val false [.ptr 0 0]), (3, .val false [.ptr 1 0]), (5, .val false [.int .i64 v0])], [.var [.int .i64 a0.Kind, .int .i64 a0.N, .seq (eL e_u8 a0.S), .seq (eL (e_sl e_u8) a0.K), .seq (eL e_GValue a0.L)], .var [.int .i64 a1.Kind, .int .i64 a1.N, .seq (eL e_u8 a1.S), .seq (eL (e_sl e_u8) a1.K), .seq (eL e_GValue a1.L)]], 0⟩ = some (match o with | .inl o_0 => (.ret, (⟨[(4, .val false [.int .i64 o_0])], [], 0⟩ : S)) | .inr (o_1) => (.exit 0, (⟨[(2, .val false [.ptr 0 0]), (3, .val false [.ptr 1 0]), (5, .val false [.int .i64 o_1]), (47, .val false [.bool false])], [.var [.int .i64 a0.Kind, .int .i64 a0.N, .seq (eL e_u8 a0.S), .seq (eL (e_sl e_u8) a0.K), .seq (eL e_GValue a0.L)], .var [.int .i64 a1.Kind, .int .i64 a1.N, .seq (eL e_u8 a1.S), .seq (eL (e_sl e_u8) a1.K), .seq (eL e_GValue a1.L)]], 0⟩ : S))) := by
  induction m with
  | zero => intro v0 o h; cases h
  | succ m ih =>
    intro v0 o h
    rw [L_spec_l2cmp_l0] at h
    rcases ite_some h with ⟨c1, h⟩ | ⟨c1, h⟩
    ·rcases ite_some h with ⟨c2, h⟩ | ⟨c2, h⟩
     ·rcases ite_some h with ⟨c3, h⟩ | ⟨c3, h⟩
      ·obtain ⟨i4, hi4, h⟩ := bs h
       obtain ⟨x5, hx5, h⟩ := bs h
       obtain ⟨x6, hx6, h⟩ := bs h
       obtain ⟨r7, hr7, h⟩ := bs h
       let p29 : List (Q cfg) := [.le e_GValue a0.L, .lT c1, .le e_GValue a1.L, .lT c2, .eT c3, .na hi4, .ix0 (e_sl e_u8) hx5, .na hi4, .ix0 (e_sl e_u8) hx6, .cl (ok_spec_l2bytes x5 x6 _ hr7)]
       rcases ite_some h with ⟨c8, h⟩ | ⟨c8, h⟩
       ·obtain ⟨x9, hx9, h⟩ := bs h
        obtain ⟨x10, hx10, h⟩ := bs h
        obtain ⟨r11, hr11, h⟩ := bs h
        let p30 : List (Q cfg) := p29 ++ [.eT c8, .nt true, .na hi4, .ix hx9 (eq_GValue x9), .na hi4, .ix hx10 (eq_GValue x10), .cl (H_spec_l2cmp x9 x10 _ hr11)]
        rcases ite_some h with ⟨c12, h⟩ | ⟨c12, h⟩
        ·exact loop_nQ (p30 ++ [.eT c12, .nt true, .ad v0 1]) (by kernel_rfl) (ih (w64 (v0 + 1)) o h)
        ·obtain rfl := Option.some.inj h
         exact loop_eQ (p30 ++ [.eF c12, .nt false]) (by kernel_rfl) (by intro h; cases h)
       ·obtain rfl := Option.some.inj h
        exact loop_eQ (p29 ++ [.eF c8, .nt false]) (by kernel_rfl) (by intro h; cases h)
      ·obtain ⟨i4, hi4, h⟩ := bs h
       obtain ⟨x5, hx5, h⟩ := bs h
       obtain ⟨x6, hx6, h⟩ := bs h
       obtain ⟨r7, hr7, h⟩ := bs h
       let p31 : List (Q cfg) := [.le e_GValue a0.L, .lT c1, .le e_GValue a1.L, .lT c2, .eF c3, .na hi4, .ix hx5 (eq_GValue x5), .na hi4, .ix hx6 (eq_GValue x6), .cl (H_spec_l2cmp x5 x6 _ hr7)]
       rcases ite_some h with ⟨c8, h⟩ | ⟨c8, h⟩
       ·exact loop_nQ (p31 ++ [.eT c8, .nt true, .ad v0 1]) (by kernel_rfl) (ih (w64 (v0 + 1)) o h)
       ·obtain rfl := Option.some.inj h
        exact loop_eQ (p31 ++ [.eF c8, .nt false]) (by kernel_rfl) (by intro h; cases h)
     ·obtain rfl := Option.some.inj h
      exact loop_eQ [.le e_GValue a0.L, .lT c1, .le e_GValue a1.L, .lF c2] (by kernel_rfl) (by intro h; cases h)
    ·obtain rfl := Option.some.inj h
     exact loop_eQ [.le e_GValue a0.L, .lF c1] (by kernel_rfl) (by intro h; cases h)
def T_spec_l2cmp (G_spec_l2cmp : GValue → GValue → Option Int) (n : Nat) (a0 : GValue) (a1 : GValue) : Option Int :=
  if a0.Kind = a1.Kind then
    if a0.Kind = 3 then
      (S_spec_l2bytes a0.S a1.S).bind fun r3 =>
      some r3
    else
      if a0.N = a1.N then
        (L_spec_l2cmp_l0 G_spec_l2cmp a0 a1 n 0).bind fun o4 =>
        match o4 with
        | .inl o4_0 =>
          some o4_0
        | .inr (o4_1) =>
          (S_spec_l2num ((a0.L.length : Nat) : Int) ((a1.L.length : Nat) : Int)).bind fun r5 =>
          some r5
      else
        (S_spec_l2num a0.N a1.N).bind fun r4 =>
        some r4
  else
    (S_spec_l2num a0.Kind a1.Kind).bind fun r2 =>
    some r2
set_option maxRecDepth 100000 in
theorem fd_28 : cfg.funcs 28 = some (bodyOf Tryd.f28, Tryd.f28.ntmps, Tryd.f28.results.toList) := fn_of Tryd.func28 (by kernel_rfl) (by kernel_rfl)
theorem g_spec_l2cmp (G_spec_l2cmp : GValue → GValue → Option Int) (H_spec_l2cmp : ∀ (a0 : GValue) (a1 : GValue) (r : Int), G_spec_l2cmp a0 a1 = some r → (mach cfg).call 28 [] [.val true [.int .i64 a0.Kind, .int .i64 a0.N, .seq (eL e_u8 a0.S), .seq (eL (e_sl e_u8) a0.K), .seq (eL e_GValue a0.L)], .val true [.int .i64 a1.Kind, .int .i64 a1.N, .seq (eL e_u8 a1.S), .seq (eL (e_sl e_u8) a1.K), .seq (eL e_GValue a1.L)]] = some (.val false [.int .i64 r], [])) (n : Nat) (a0 : GValue) (a1 : GValue) (r : Int) (h : T_spec_l2cmp G_spec_l2cmp n a0 a1 = some r) : (mach cfg).call 28 [] [.val true [.int .i64 a0.Kind, .int .i64 a0.N, .seq (eL e_u8 a0.S), .seq (eL (e_sl e_u8) a0.K), .seq (eL e_GValue a0.L)], .val true [.int .i64 a1.Kind, .int .i64 a1.N, .seq (eL e_u8 a1.S), .seq (eL (e_sl e_u8) a1.K), .seq (eL e_GValue a1.L)]] = some (.val false [.int .i64 r], []) := by
  unfold T_spec_l2cmp at h
  rcases ite_some h with ⟨c1, h⟩ | ⟨c1, h⟩
  ·rcases ite_some h with ⟨c2, h⟩ | ⟨c2, h⟩
   ·obtain ⟨r3, hr3, h⟩ := bs h
    obtain rfl := Option.some.inj h
    exact call_wQ [.eT c1, .nt true, .eT c2, .cl (ok_spec_l2bytes a0.S a1.S _ hr3)] rfl fd_28 (by kernel_rfl)
   ·rcases ite_some h with ⟨c3, h⟩ | ⟨c3, h⟩
    ·obtain ⟨o4, ho4, h⟩ := bs h
     let p32 : List (Q cfg) := [.eT c1, .nt true, .eF c2, .eT c3, .nt true, .lp (gl_spec_l2cmp_l0 G_spec_l2cmp H_spec_l2cmp a0 a1 _ 0 _ ho4)]
     rcases o4 with o4_0 | o4_1
     · try dsimp only at h
       obtain rfl := Option.some.inj h
       exact call_wQ p32 rfl fd_28 (by kernel_rfl)
     · try dsimp only at h
       obtain ⟨r5, hr5, h⟩ := bs h
       obtain rfl := Option.some.inj h
       exact call_wQ (p32 ++ [.le e_GValue a0.L, .le e_GValue a1.L, .cl (ok_spec_l2num ((a0.L.length : Nat) : Int) ((a1.L.length : Nat) : Int) _ hr5)]) rfl fd_28 (by kernel_rfl)
    ·obtain ⟨r4, hr4, h⟩ := bs h
     obtain rfl := Option.some.inj h
     exact call_wQ [.eT c1, .nt true, .eF c2, .eF c3, .nt false, .cl (ok_spec_l2num a0.N a1.N _ hr4)] rfl fd_28 (by kernel_rfl)
  ·obtain ⟨r2, hr2, h⟩ := bs h
   obtain rfl := Option.some.inj h
   exact call_wQ [.eF c1, .nt false, .cl (ok_spec_l2num a0.Kind a1.Kind _ hr2)] rfl fd_28 (by kernel_rfl)
def U_spec_l2cmp : Nat → GValue → GValue → Option Int
  | 0, _, _ => none
  | n + 1, a0, a1 => T_spec_l2cmp (U_spec_l2cmp n) n a0 a1
theorem rec_spec_l2cmp (n : Nat) : (∀ (a0 : GValue) (a1 : GValue) (r : Int), U_spec_l2cmp n a0 a1 = some r → (mach cfg).call 28 [] [.val true [.int .i64 a0.Kind, .int .i64 a0.N, .seq (eL e_u8 a0.S), .seq (eL (e_sl e_u8) a0.K), .seq (eL e_GValue a0.L)], .val true [.int .i64 a1.Kind, .int .i64 a1.N, .seq (eL e_u8 a1.S), .seq (eL (e_sl e_u8) a1.K), .seq (eL e_GValue a1.L)]] = some (.val false [.int .i64 r], [])) := by
  induction n with
  | zero => exact fun _ _ _ h => (by rw [U_spec_l2cmp] at h; cases h)
  | succ n ih =>
    have ih_spec_l2cmp := ih
    exact fun a0 a1 r h => g_spec_l2cmp (U_spec_l2cmp n) ih_spec_l2cmp n a0 a1 r (by rw [U_spec_l2cmp] at h; exact h)
def S_spec_l2cmp (a0 : GValue) (a1 : GValue) : Option Int := U_spec_l2cmp (vsz a0 + 3) a0 a1
theorem spec_spec_l2cmp (a0 : GValue) (a1 : GValue) (r : Int) (h : S_spec_l2cmp a0 a1 = some r) : ∃ n, U_spec_l2cmp n a0 a1 = some r := ⟨_, h⟩
theorem ok_spec_l2cmp (a0 : GValue) (a1 : GValue) (r : Int) (h : S_spec_l2cmp a0 a1 = some r) : (mach cfg).call 28 [] [.val true [.int .i64 a0.Kind, .int .i64 a0.N, .seq (eL e_u8 a0.S), .seq (eL (e_sl e_u8) a0.K), .seq (eL e_GValue a0.L)], .val true [.int .i64 a1.Kind, .int .i64 a1.N, .seq (eL e_u8 a1.S), .seq (eL (e_sl e_u8) a1.K), .seq (eL e_GValue a1.L)]] = some (.val false [.int .i64 r], []) := by
  obtain ⟨n, hn⟩ := spec_spec_l2cmp a0 a1 r h
  exact (rec_spec_l2cmp n) a0 a1 r hn
def S_spec_l4zero (a0 : GValue) : Option Bool :=
  (S_spec_l2cmp a0 (GValue.mk 0 0 [] [] [])).bind fun r1 =>
  if r1 = 0 then
    some (decide (a0.N = 0))
  else
    some false
set_option maxRecDepth 100000 in
theorem fd_16 : cfg.funcs 16 = some (bodyOf Tryd.f16, Tryd.f16.ntmps, Tryd.f16.results.toList) := fn_of Tryd.func16 (by kernel_rfl) (by kernel_rfl)
theorem ok_spec_l4zero (a0 : GValue) (r : Bool) (h : S_spec_l4zero a0 = some r) : (mach cfg).call 16 [] [.val true [.int .i64 a0.Kind, .int .i64 a0.N, .seq (eL e_u8 a0.S), .seq (eL (e_sl e_u8) a0.K), .seq (eL e_GValue a0.L)]] = some (.val false [.bool r], []) := by
  unfold S_spec_l4zero at h
  obtain ⟨r1, hr1, h⟩ := bs h
  rcases ite_some h with ⟨c2, h⟩ | ⟨c2, h⟩
  ·obtain rfl := Option.some.inj h
   exact call_wQ [.cl (ok_spec_l2cmp a0 (GValue.mk 0 0 [] [] []) _ hr1), .eT c2, .eD a0.N 0] rfl fd_16 (by kernel_rfl)
  ·obtain rfl := Option.some.inj h
   exact call_wQ [.cl (ok_spec_l2cmp a0 (GValue.mk 0 0 [] [] []) _ hr1), .eF c2] rfl fd_16 (by kernel_rfl)
def L_spec_l2known_l0 (G_spec_l2known : GValue → Option Bool) (a0 : GValue) : Nat → Int → Option (Bool ⊕ Int)
  | 0, _ => none
  | m + 1, v0 =>
    if v0 < ((a0.L.length : Nat) : Int) then
      (natO v0).bind fun i2 =>
      (a0.L[i2]?).bind fun x3 =>
      (G_spec_l2known x3).bind fun r4 =>
      match r4 with
      | true =>
        L_spec_l2known_l0 G_spec_l2known a0 m (w64 (v0 + 1))
      | false =>
        some (.inl false)
    else
      some (.inr v0)
theorem gl_spec_l2known_l0 (G_spec_l2known : GValue → Option Bool) (H_spec_l2known : ∀ (a0 : GValue) (r : Bool), G_spec_l2known a0 = some r → (mach cfg).call 26 [] [.val true [.int .i64 a0.Kind, .int .i64 a0.N, .seq (eL e_u8 a0.S), .seq (eL (e_sl e_u8) a0.K), .seq (eL e_GValue a0.L)]] = some (.val false [.bool r], [])) (a0 : GValue) (m : Nat) : ∀ (v0 : Int) (o : (Bool ⊕ Int)), L_spec_l2known_l0 G_spec_l2known a0 m v0 = some o → (mach cfg).loop 26 (loopB Tryd.f26 0) ⟨[(1, .val false [.ptr 0 0]), (3, .val false [.int .i64 v0])], [.var [.int .i64 a0.Kind, .int .i64 a0.N, .seq (eL e_u8 a0.S), .seq (eL (e_sl e_u8) a0.K), .seq (eL e_GValue a0.L)]], 0⟩ = some (match o with | .inl o_0 => (.ret, (⟨[(2, .val false [.bool o_0])], [], 0⟩ : S)) | .inr (o_1) => (.exit 0, (⟨[(1, .val false [.ptr 0 0]), (3, .val false [.int .i64 o_1]), (11, .val false [.bool false])], [.var [.int .i64 a0.Kind, .int .i64 a0.N, .seq (eL e_u8 a0.S), .seq (eL (e_sl e_u8) a0.K), .seq (eL e_GValue a0.L)]], 0⟩ : S))) := by
  induction m with
  | zero => intro v0 o h; cases h
  | succ m ih =>
    intro v0 o h
    rw [L_spec_l2known_l0] at h
    rcases ite_some h with ⟨c1, h⟩ | ⟨c1, h⟩
    ·obtain ⟨i2, hi2, h⟩ := bs h
     obtain ⟨x3, hx3, h⟩ := bs h
     obtain ⟨r4, hr4, h⟩ := bs h
     let p33 : List (Q cfg) := [.le e_GValue a0.L, .lT c1, .na hi2, .ix hx3 (eq_GValue x3), .cl (H_spec_l2known x3 _ hr4)]
     cases r4 with
     | true =>
      try dsimp only at h
      exact loop_nQ (p33 ++ [.nt true, .ad v0 1]) (by kernel_rfl) (ih (w64 (v0 + 1)) o h)
     | false =>
      try dsimp only at h
      obtain rfl := Option.some.inj h
      exact loop_eQ (p33 ++ [.nt false]) (by kernel_rfl) (by intro h; cases h)
    ·obtain rfl := Option.some.inj h
     exact loop_eQ [.le e_GValue a0.L, .lF c1] (by kernel_rfl) (by intro h; cases h)
def T_spec_l2known (G_spec_l2known : GValue → Option Bool) (n : Nat) (a0 : GValue) : Option Bool :=
  if a0.Kind = 6 then
    some false
  else
    (L_spec_l2known_l0 G_spec_l2known a0 n 0).bind fun o2 =>
    match o2 with
    | .inl o2_0 =>
      some o2_0
    | .inr (o2_1) =>
      some true
set_option maxRecDepth 100000 in
theorem fd_26 : cfg.funcs 26 = some (bodyOf Tryd.f26, Tryd.f26.ntmps, Tryd.f26.results.toList) := fn_of Tryd.func26 (by kernel_rfl) (by kernel_rfl)
theorem g_spec_l2known (G_spec_l2known : GValue → Option Bool) (H_spec_l2known : ∀ (a0 : GValue) (r : Bool), G_spec_l2known a0 = some r → (mach cfg).call 26 [] [.val true [.int .i64 a0.Kind, .int .i64 a0.N, .seq (eL e_u8 a0.S), .seq (eL (e_sl e_u8) a0.K), .seq (eL e_GValue a0.L)]] = some (.val false [.bool r], [])) (n : Nat) (a0 : GValue) (r : Bool) (h : T_spec_l2known G_spec_l2known n a0 = some r) : (mach cfg).call 26 [] [.val true [.int .i64 a0.Kind, .int .i64 a0.N, .seq (eL e_u8 a0.S), .seq (eL (e_sl e_u8) a0.K), .seq (eL e_GValue a0.L)]] = some (.val false [.bool r], []) := by
  unfold T_spec_l2known at h
  rcases ite_some h with ⟨c1, h⟩ | ⟨c1, h⟩
  ·obtain rfl := Option.some.inj h
   exact call_wQ [.eT c1] rfl fd_26 (by kernel_rfl)
  ·obtain ⟨o2, ho2, h⟩ := bs h
   rcases o2 with o2_0 | o2_1
   · try dsimp only at h
     obtain rfl := Option.some.inj h
     exact call_wQ [.eF c1, .lp (gl_spec_l2known_l0 G_spec_l2known H_spec_l2known a0 _ 0 _ ho2)] rfl fd_26 (by kernel_rfl)
   · try dsimp only at h
     obtain rfl := Option.some.inj h
     exact call_wQ [.eF c1, .lp (gl_spec_l2known_l0 G_spec_l2known H_spec_l2known a0 _ 0 _ ho2)] rfl fd_26 (by kernel_rfl)
def U_spec_l2known : Nat → GValue → Option Bool
  | 0, _ => none
  | n + 1, a0 => T_spec_l2known (U_spec_l2known n) n a0
theorem rec_spec_l2known (n : Nat) : (∀ (a0 : GValue) (r : Bool), U_spec_l2known n a0 = some r → (mach cfg).call 26 [] [.val true [.int .i64 a0.Kind, .int .i64 a0.N, .seq (eL e_u8 a0.S), .seq (eL (e_sl e_u8) a0.K), .seq (eL e_GValue a0.L)]] = some (.val false [.bool r], [])) := by
  induction n with
  | zero => exact fun _ _ h => (by rw [U_spec_l2known] at h; cases h)
  | succ n ih =>
    have ih_spec_l2known := ih
    exact fun a0 r h => g_spec_l2known (U_spec_l2known n) ih_spec_l2known n a0 r (by rw [U_spec_l2known] at h; exact h)
theorem l2known_loop {G : GValue → Option Bool} {v : GValue} (ha : v.L.length <= 2 ^ 40) (hG : ∀ x ∈ v.L, G x = some (knV x)) : ∀ (l p : List GValue) (m : Nat), v.L = p ++ l → l.length < m → ∃ z, L_spec_l2known_l0 G v m ((p.length : Nat) : Int) = some (if knVs l = true then .inr z else .inl false) := by
  intro l
  induction l with
  | nil =>
    intro p m he hm
    obtain ⟨m, rfl, _⟩ := fuel hm
    exact ⟨_, by rw [L_spec_l2known_l0, if_neg (by rw [he]; exact nlt_end p)]; rfl⟩
  | cons x l ih =>
    intro p m he hm
    obtain ⟨m, rfl, hm'⟩ := fuel hm
    have hlen : v.L.length = p.length + (l.length + 1) := by rw [he]; simp
    rw [L_spec_l2known_l0, if_pos (by omega), natO_nat, Option.bind_some, show v.L[p.length]? = some x by rw [he]; exact get_mid p x l, Option.bind_some, hG x (by rw [he]; simp), Option.bind_some, knVs]
    cases hx : knV x with
    | true =>
      dsimp only
      rw [w64_len p x (by omega), Bool.true_and]
      exact ih (p ++ [x]) m (by rw [he]; simp) (by simp only [List.length_cons] at hm'; omega)
    | false => exact ⟨0, rfl⟩
theorem l2known_U : ∀ (N : Nat) (v : GValue), vsz v < N → vsz v <= 2 ^ 39 → ∀ f, vsz v + 2 <= f → U_spec_l2known f v = some (knV v) := by
  intro N
  induction N with
  | zero => intro v hv; omega
  | succ N ih =>
    intro v hv hs f hf
    have he := vsz_eq v
    have hl := vszs_len v.L
    obtain ⟨f, rfl, _⟩ := fuel (show 0 < f by omega)
    rw [U_spec_l2known]
    unfold T_spec_l2known
    rw [knV_eq]
    by_cases h6 : v.Kind = 6
    · rw [if_pos h6, h6]; rfl
    · rw [if_neg h6]
      obtain ⟨z, hz⟩ := l2known_loop (G := U_spec_l2known f) (v := v) (by omega) (fun x hx => by
        have := vszs_mem hx
        exact ih x (by omega) (by omega) f (by omega)) v.L [] f rfl (by omega)
      simp only [List.length_nil, Int.natCast_zero] at hz
      rw [hz, Option.bind_some, decide_eq_true h6, Bool.true_and]
      cases knVs v.L <;> rfl
def S_spec_l2known (a0 : GValue) : Option Bool := if vsz a0 <= 2 ^ 39 then some (knV a0) else none
theorem spec_spec_l2known (a0 : GValue) (r : Bool) (h : S_spec_l2known a0 = some r) : ∃ n, U_spec_l2known n a0 = some r := by
  unfold S_spec_l2known at h
  obtain ⟨ha, h⟩ := need_c h
  exact ⟨vsz a0 + 2, by rw [<- h]; exact l2known_U _ a0 (Nat.lt_succ_self _) ha _ (Nat.le_refl _)⟩
theorem ok_spec_l2known (a0 : GValue) (r : Bool) (h : S_spec_l2known a0 = some r) : (mach cfg).call 26 [] [.val true [.int .i64 a0.Kind, .int .i64 a0.N, .seq (eL e_u8 a0.S), .seq (eL (e_sl e_u8) a0.K), .seq (eL e_GValue a0.L)]] = some (.val false [.bool r], []) := by
  obtain ⟨n, hn⟩ := spec_spec_l2known a0 r h
  exact (rec_spec_l2known n) a0 r hn
def S_spec_l4map (a0 : GValue) : Option Bool :=
  if a0.Kind = 5 then
    (S_spec_ValOk a0).bind fun r2 =>
    match r2 with
    | true =>
      (S_spec_l2known a0).bind fun r4 =>
      some r4
    | false =>
      some false
  else
    some false
set_option maxRecDepth 100000 in
theorem fd_13 : cfg.funcs 13 = some (bodyOf Tryd.f13, Tryd.f13.ntmps, Tryd.f13.results.toList) := fn_of Tryd.func13 (by kernel_rfl) (by kernel_rfl)
theorem ok_spec_l4map (a0 : GValue) (r : Bool) (h : S_spec_l4map a0 = some r) : (mach cfg).call 13 [] [.val true [.int .i64 a0.Kind, .int .i64 a0.N, .seq (eL e_u8 a0.S), .seq (eL (e_sl e_u8) a0.K), .seq (eL e_GValue a0.L)]] = some (.val false [.bool r], []) := by
  unfold S_spec_l4map at h
  rcases ite_some h with ⟨c1, h⟩ | ⟨c1, h⟩
  ·obtain ⟨r2, hr2, h⟩ := bs h
   cases r2 with
   | true =>
    try dsimp only at h
    obtain ⟨r4, hr4, h⟩ := bs h
    obtain rfl := Option.some.inj h
    exact call_wQ [.eT c1, .cl (ok_spec_ValOk a0 _ hr2), .cl (ok_spec_l2known a0 _ hr4)] rfl fd_13 (by kernel_rfl)
   | false =>
    try dsimp only at h
    obtain rfl := Option.some.inj h
    exact call_wQ [.eT c1, .cl (ok_spec_ValOk a0 _ hr2)] rfl fd_13 (by kernel_rfl)
  ·obtain rfl := Option.some.inj h
   exact call_wQ [.eF c1] rfl fd_13 (by kernel_rfl)
def L_spec_l4addrs_l0 (a0 : (List (List UInt8))) : Nat → Int → Option (Bool ⊕ Int)
  | 0, _ => none
  | m + 1, v1 =>
    if v1 < ((a0.length : Nat) : Int) then
      (natO v1).bind fun i2 =>
      (a0[i2]?).bind fun x3 =>
      (S_spec_AddrOk x3).bind fun r4 =>
      match r4 with
      | true =>
        if 0 < v1 then
          (natO (w64 (v1 - 1))).bind fun i7 =>
          (a0[i7]?).bind fun x8 =>
          if Op.bytesLess x8 x3 = true then
            L_spec_l4addrs_l0 a0 m (w64 (v1 + 1))
          else
            some (.inl false)
        else
          L_spec_l4addrs_l0 a0 m (w64 (v1 + 1))
      | false =>
        some (.inl false)
    else
      some (.inr v1)
theorem gl_spec_l4addrs_l0 (a0 : (List (List UInt8))) (m : Nat) : ∀ (v1 : Int) (o : (Bool ⊕ Int)), L_spec_l4addrs_l0 a0 m v1 = some o → (mach cfg).loop 14 (loopB Tryd.f14 0) ⟨[(0, .val false [.seq (eL (e_sl e_u8) a0)]), (3, .val false [.int .i64 v1])], [], 0⟩ = some (match o with | .inl o_0 => (.ret, (⟨[(2, .val false [.bool o_0])], [], 0⟩ : S)) | .inr (o_1) => (.exit 0, (⟨[(0, .val false [.seq (eL (e_sl e_u8) a0)]), (3, .val false [.int .i64 o_1]), (10, .val false [.bool false])], [], 0⟩ : S))) := by
  induction m with
  | zero => intro v1 o h; cases h
  | succ m ih =>
    intro v1 o h
    rw [L_spec_l4addrs_l0] at h
    rcases ite_some h with ⟨c1, h⟩ | ⟨c1, h⟩
    ·obtain ⟨i2, hi2, h⟩ := bs h
     obtain ⟨x3, hx3, h⟩ := bs h
     obtain ⟨r4, hr4, h⟩ := bs h
     let p34 : List (Q cfg) := [.le (e_sl e_u8) a0, .lT c1, .na hi2, .ix0 (e_sl e_u8) hx3]
     cases r4 with
     | true =>
      try dsimp only at h
      rcases ite_some h with ⟨c6, h⟩ | ⟨c6, h⟩
      ·obtain ⟨i7, hi7, h⟩ := bs h
       obtain ⟨x8, hx8, h⟩ := bs h
       rcases ite_some h with ⟨c9, h⟩ | ⟨c9, h⟩
       ·exact loop_nQ (p34 ++ [.cl (ok_spec_AddrOk x3 _ hr4), .nt true, .lT c6, .su v1 1, .na hi7, .ix0 (e_sl e_u8) hx8, ⟨.bytes (eL e_u8 x8), .s x8, A.bytes⟩, .na hi2, .ix0 (e_sl e_u8) hx3, ⟨.bytes (eL e_u8 x3), .s x3, A.bytes⟩, ⟨.ltS x8 x3, .b true, (A.ltS_t c9)⟩, .nt true, .ad v1 1]) (by kernel_rfl) (ih (w64 (v1 + 1)) o h)
       ·obtain rfl := Option.some.inj h
        exact loop_eQ (p34 ++ [.cl (ok_spec_AddrOk x3 _ hr4), .nt true, .lT c6, .su v1 1, .na hi7, .ix0 (e_sl e_u8) hx8, ⟨.bytes (eL e_u8 x8), .s x8, A.bytes⟩, .na hi2, .ix0 (e_sl e_u8) hx3, ⟨.bytes (eL e_u8 x3), .s x3, A.bytes⟩, ⟨.ltS x8 x3, .b false, (A.ltS_f c9)⟩, .nt false]) (by kernel_rfl) (by intro h; cases h)
      ·exact loop_nQ (p34 ++ [.cl (ok_spec_AddrOk x3 _ hr4), .nt true, .lF c6, .ad v1 1]) (by kernel_rfl) (ih (w64 (v1 + 1)) o h)
     | false =>
      try dsimp only at h
      obtain rfl := Option.some.inj h
      exact loop_eQ (p34 ++ [.cl (ok_spec_AddrOk x3 _ hr4), .nt false]) (by kernel_rfl) (by intro h; cases h)
    ·obtain rfl := Option.some.inj h
     exact loop_eQ [.le (e_sl e_u8) a0, .lF c1] (by kernel_rfl) (by intro h; cases h)
def T_spec_l4addrs (n : Nat) (a0 : (List (List UInt8))) : Option Bool :=
  if 8 < ((a0.length : Nat) : Int) then
    some false
  else
    (L_spec_l4addrs_l0 a0 n 0).bind fun o2 =>
    match o2 with
    | .inl o2_0 =>
      some o2_0
    | .inr (o2_1) =>
      some true
set_option maxRecDepth 100000 in
theorem fd_14 : cfg.funcs 14 = some (bodyOf Tryd.f14, Tryd.f14.ntmps, Tryd.f14.results.toList) := fn_of Tryd.func14 (by kernel_rfl) (by kernel_rfl)
theorem g_spec_l4addrs (n : Nat) (a0 : (List (List UInt8))) (r : Bool) (h : T_spec_l4addrs n a0 = some r) : (mach cfg).call 14 [] [.val false [.seq (eL (e_sl e_u8) a0)]] = some (.val false [.bool r], []) := by
  unfold T_spec_l4addrs at h
  rcases ite_some h with ⟨c1, h⟩ | ⟨c1, h⟩
  ·obtain rfl := Option.some.inj h
   exact call_wQ [.le (e_sl e_u8) a0, .lT c1] rfl fd_14 (by kernel_rfl)
  ·obtain ⟨o2, ho2, h⟩ := bs h
   let p35 : List (Q cfg) := [.le (e_sl e_u8) a0, .lF c1, .lp (gl_spec_l4addrs_l0 a0 _ 0 _ ho2)]
   rcases o2 with o2_0 | o2_1
   · try dsimp only at h
     obtain rfl := Option.some.inj h
     exact call_wQ p35 rfl fd_14 (by kernel_rfl)
   · try dsimp only at h
     obtain rfl := Option.some.inj h
     exact call_wQ p35 rfl fd_14 (by kernel_rfl)
theorem specAd_eq {a : List UInt8} (h : a.length <= 2 ^ 20) : S_spec_AddrOk a = some (addrB a) := specA_eq h
theorem l4addrs_loop {a : List (List UInt8)} (hs : ∀ x ∈ a, x.length <= 2 ^ 20) (ha : a.length <= 2 ^ 40) : ∀ (d i m : Nat), i + d = a.length → d < m → ∃ z, L_spec_l4addrs_l0 a m (i : Int) = some (if gAll addrB id a i d = true then .inr z else .inl false) := by
  intro d
  induction d with
  | zero =>
    intro i m hi hm
    obtain ⟨m, rfl, _⟩ := fuel hm
    exact ⟨_, by rw [L_spec_l4addrs_l0, if_neg (by omega)]; rfl⟩
  | succ d ih =>
    intro i m hi hm
    obtain ⟨m, rfl, hm'⟩ := fuel hm
    have hil : i < a.length := by omega
    rw [L_spec_l4addrs_l0, if_pos (by omega), natO_nat, Option.bind_some, get_some hil, Option.bind_some, specAd_eq (hs _ (List.getElem_mem hil)), Option.bind_some, gAll_succ]
    obtain ⟨z, hz⟩ := ih (i + 1) m (by omega) (by omega)
    cases hx : addrB a[i] with
    | false =>
      refine ⟨0, ?_⟩
      have : gOk addrB id a i = false := by
        unfold gOk; rw [get_some hil]; simp [hx]
      rw [this]; rfl
    | true =>
      dsimp only
      by_cases h0 : 0 < i
      · rw [if_pos (by omega), w64_pred (by omega) h0, natO_nat, Option.bind_some, get_some (show i - 1 < a.length by omega), Option.bind_some, gOk_eq hil h0, hx, Bool.true_and, w64_succ (by omega), hz]
        by_cases hl : Op.bytesLess a[i - 1] a[i] = true
        · rw [if_pos hl, show Op.bytesLess (id a[i - 1]) (id a[i]) = true from hl, Bool.true_and]; exact ⟨z, rfl⟩
        · rw [if_neg hl, show Op.bytesLess (id a[i - 1]) (id a[i]) = false from Bool.eq_false_iff.2 hl]; exact ⟨z, rfl⟩
      · obtain rfl : i = 0 := by omega
        rw [if_neg (by omega), gOk_zero hil, hx, Bool.true_and, w64_succ (by omega), hz]
        exact ⟨z, rfl⟩
def S_spec_l4addrs (a0 : (List (List UInt8))) : Option Bool := if bsz a0 <= 2 ^ 20 then some (addrsB a0) else none
theorem spec_spec_l4addrs (a0 : (List (List UInt8))) (r : Bool) (h : S_spec_l4addrs a0 = some r) : ∃ n, T_spec_l4addrs n a0 = some r := by
  unfold S_spec_l4addrs at h
  obtain ⟨ha, h⟩ := need_c h
  have hl := bsz_len a0
  obtain ⟨z, hz⟩ := l4addrs_loop (a := a0) (fun x hx => by have := bsz_mem hx; omega) (by omega) a0.length 0 (a0.length + 1) (by omega) (by omega)
  refine ⟨a0.length + 1, ?_⟩
  unfold T_spec_l4addrs
  rw [show ((0 : Nat) : Int) = 0 from rfl] at hz
  rw [<- h]
  unfold addrsB
  by_cases h8 : (8 : Int) < ((a0.length : Nat) : Int)
  · rw [if_pos h8, decide_eq_false (by omega)]; rfl
  · rw [if_neg h8, hz, Option.bind_some, decide_eq_true (by omega), Bool.true_and]
    cases gAll addrB id a0 0 a0.length <;> rfl
theorem ok_spec_l4addrs (a0 : (List (List UInt8))) (r : Bool) (h : S_spec_l4addrs a0 = some r) : (mach cfg).call 14 [] [.val false [.seq (eL (e_sl e_u8) a0)]] = some (.val false [.bool r], []) := by
  obtain ⟨n, hn⟩ := spec_spec_l4addrs a0 r h
  exact g_spec_l4addrs n a0 r hn
def S_spec_EventOk (a0 : GEvent) : Option Bool :=
  if a0.Kind < 0 then
    some false
  else
    if 6 < a0.Kind then
      some false
    else
      if a0.Kind = 1 then
        if 0 < ((a0.Addr.length : Nat) : Int) then
          (S_spec_AddrOk a0.Addr).bind fun r5 =>
          match r5 with
          | true =>
            if a0.Act < 1 then
              some false
            else
              if 4 < a0.Act then
                some false
              else
                (S_spec_ValOk a0.Val).bind fun r9 =>
                match r9 with
                | true =>
                  (S_spec_l4zero a0.Val).bind fun r11 =>
                  match r11 with
                  | true =>
                    some (decide (((a0.Deps.length : Nat) : Int) = 0))
                  | false =>
                    some false
                | false =>
                  some false
          | false =>
            some false
        else
          some false
      else
        if a0.Kind = 2 then
          if 0 < ((a0.Addr.length : Nat) : Int) then
            (S_spec_AddrOk a0.Addr).bind fun r6 =>
            match r6 with
            | true =>
              if a0.Act = 0 then
                (S_spec_l4map a0.Val).bind fun r9 =>
                match r9 with
                | true =>
                  (S_spec_l4addrs a0.Deps).bind fun r11 =>
                  some r11
                | false =>
                  some false
              else
                some false
            | false =>
              some false
          else
            some false
        else
          if a0.Kind = 3 then
            if 0 < ((a0.Addr.length : Nat) : Int) then
              (S_spec_AddrOk a0.Addr).bind fun r7 =>
              match r7 with
              | true =>
                if a0.Act = 0 then
                  (S_spec_ValOk a0.Val).bind fun r10 =>
                  match r10 with
                  | true =>
                    (S_spec_l4zero a0.Val).bind fun r12 =>
                    match r12 with
                    | true =>
                      some (decide (((a0.Deps.length : Nat) : Int) = 0))
                    | false =>
                      some false
                  | false =>
                    some false
                else
                  some false
              | false =>
                some false
            else
              some false
          else
            if a0.Kind = 4 then
              if 0 < ((a0.Addr.length : Nat) : Int) then
                (S_spec_AddrOk a0.Addr).bind fun r8 =>
                match r8 with
                | true =>
                  if a0.Act = 0 then
                    (S_spec_ValOk a0.Val).bind fun r11 =>
                    match r11 with
                    | true =>
                      (S_spec_l4zero a0.Val).bind fun r13 =>
                      match r13 with
                      | true =>
                        some (decide (((a0.Deps.length : Nat) : Int) = 0))
                      | false =>
                        some false
                    | false =>
                      some false
                  else
                    some false
                | false =>
                  some false
              else
                some false
            else
              if 0 < ((a0.Addr.length : Nat) : Int) then
                some false
              else
                if a0.Act = 0 then
                  (S_spec_ValOk a0.Val).bind fun r9 =>
                  match r9 with
                  | true =>
                    (S_spec_l4zero a0.Val).bind fun r11 =>
                    match r11 with
                    | true =>
                      some (decide (((a0.Deps.length : Nat) : Int) = 0))
                    | false =>
                      some false
                  | false =>
                    some false
                else
                  some false
set_option maxRecDepth 100000 in
theorem fd_5 : cfg.funcs 5 = some (bodyOf Tryd.f5, Tryd.f5.ntmps, Tryd.f5.results.toList) := fn_of Tryd.func5 (by kernel_rfl) (by kernel_rfl)
theorem ok_spec_EventOk (a0 : GEvent) (r : Bool) (h : S_spec_EventOk a0 = some r) : (mach cfg).call 5 [] [.val true [.int .i64 a0.Kind, .seq (eL e_u8 a0.Addr), .int .i64 a0.Act, .int .i64 a0.Val.Kind, .int .i64 a0.Val.N, .seq (eL e_u8 a0.Val.S), .seq (eL (e_sl e_u8) a0.Val.K), .seq (eL e_GValue a0.Val.L), .seq (eL (e_sl e_u8) a0.Deps)]] = some (.val false [.bool r], []) := by
  unfold S_spec_EventOk at h
  rcases ite_some h with ⟨c1, h⟩ | ⟨c1, h⟩
  ·obtain rfl := Option.some.inj h
   exact call_wQ [.lT c1] rfl fd_5 (by kernel_rfl)
  ·let p36 : List (Q cfg) := [.lF c1]
   rcases ite_some h with ⟨c2, h⟩ | ⟨c2, h⟩
   ·obtain rfl := Option.some.inj h
    exact call_wQ (p36 ++ [.lT c2]) rfl fd_5 (by kernel_rfl)
   ·let p37 : List (Q cfg) := p36 ++ [.lF c2]
    rcases ite_some h with ⟨c3, h⟩ | ⟨c3, h⟩
    ·rcases ite_some h with ⟨c4, h⟩ | ⟨c4, h⟩
     ·obtain ⟨r5, hr5, h⟩ := bs h
      cases r5 with
      | true =>
       try dsimp only at h
       rcases ite_some h with ⟨c7, h⟩ | ⟨c7, h⟩
       ·obtain rfl := Option.some.inj h
        exact call_wQ (p37 ++ [.eT c3, .le e_u8 a0.Addr, .lT c4, ⟨.eqB true true, .b true, rfl⟩, .nt true, .cl (ok_spec_AddrOk a0.Addr _ hr5), .nt true, .eT c3, .lT c7]) rfl fd_5 (by kernel_rfl)
       ·rcases ite_some h with ⟨c8, h⟩ | ⟨c8, h⟩
        ·obtain rfl := Option.some.inj h
         exact call_wQ (p37 ++ [.eT c3, .le e_u8 a0.Addr, .lT c4, ⟨.eqB true true, .b true, rfl⟩, .nt true, .cl (ok_spec_AddrOk a0.Addr _ hr5), .nt true, .eT c3, .lF c7, .lT c8]) rfl fd_5 (by kernel_rfl)
        ·obtain ⟨r9, hr9, h⟩ := bs h
         let p38 : List (Q cfg) := p37 ++ [.eT c3, .le e_u8 a0.Addr, .lT c4, ⟨.eqB true true, .b true, rfl⟩, .nt true, .cl (ok_spec_AddrOk a0.Addr _ hr5), .nt true, .eT c3, .lF c7, .lF c8, .eFo a0.Kind 2 (by omega), .cl (ok_spec_ValOk a0.Val _ hr9)]
         cases r9 with
         | true =>
          try dsimp only at h
          obtain ⟨r11, hr11, h⟩ := bs h
          cases r11 with
          | true =>
           try dsimp only at h
           obtain rfl := Option.some.inj h
           exact call_wQ (p38 ++ [.cl (ok_spec_l4zero a0.Val _ hr11), .le (e_sl e_u8) a0.Deps, .eD ((a0.Deps.length : Nat) : Int) 0]) rfl fd_5 (by kernel_rfl)
          | false =>
           try dsimp only at h
           obtain rfl := Option.some.inj h
           exact call_wQ (p38 ++ [.cl (ok_spec_l4zero a0.Val _ hr11)]) rfl fd_5 (by kernel_rfl)
         | false =>
          try dsimp only at h
          obtain rfl := Option.some.inj h
          exact call_wQ p38 rfl fd_5 (by kernel_rfl)
      | false =>
       try dsimp only at h
       obtain rfl := Option.some.inj h
       exact call_wQ (p37 ++ [.eT c3, .le e_u8 a0.Addr, .lT c4, ⟨.eqB true true, .b true, rfl⟩, .nt true, .cl (ok_spec_AddrOk a0.Addr _ hr5), .nt false]) rfl fd_5 (by kernel_rfl)
     ·obtain rfl := Option.some.inj h
      exact call_wQ (p37 ++ [.eT c3, .le e_u8 a0.Addr, .lF c4, ⟨.eqB true false, .b false, rfl⟩, .nt false]) rfl fd_5 (by kernel_rfl)
    ·let p39 : List (Q cfg) := p37 ++ [.eF c3]
     rcases ite_some h with ⟨c4, h⟩ | ⟨c4, h⟩
     ·rcases ite_some h with ⟨c5, h⟩ | ⟨c5, h⟩
      ·obtain ⟨r6, hr6, h⟩ := bs h
       cases r6 with
       | true =>
        try dsimp only at h
        rcases ite_some h with ⟨c8, h⟩ | ⟨c8, h⟩
        ·obtain ⟨r9, hr9, h⟩ := bs h
         let p40 : List (Q cfg) := p39 ++ [.eT c4, .le e_u8 a0.Addr, .lT c5, ⟨.eqB true true, .b true, rfl⟩, .nt true, .cl (ok_spec_AddrOk a0.Addr _ hr6), .nt true, .eF c3, .eT c8, .nt true, .eT c4, .cl (ok_spec_l4map a0.Val _ hr9)]
         cases r9 with
         | true =>
          try dsimp only at h
          obtain ⟨r11, hr11, h⟩ := bs h
          obtain rfl := Option.some.inj h
          exact call_wQ (p40 ++ [.cl (ok_spec_l4addrs a0.Deps _ hr11)]) rfl fd_5 (by kernel_rfl)
         | false =>
          try dsimp only at h
          obtain rfl := Option.some.inj h
          exact call_wQ p40 rfl fd_5 (by kernel_rfl)
        ·obtain rfl := Option.some.inj h
         exact call_wQ (p39 ++ [.eT c4, .le e_u8 a0.Addr, .lT c5, ⟨.eqB true true, .b true, rfl⟩, .nt true, .cl (ok_spec_AddrOk a0.Addr _ hr6), .nt true, .eF c3, .eF c8, .nt false]) rfl fd_5 (by kernel_rfl)
       | false =>
        try dsimp only at h
        obtain rfl := Option.some.inj h
        exact call_wQ (p39 ++ [.eT c4, .le e_u8 a0.Addr, .lT c5, ⟨.eqB true true, .b true, rfl⟩, .nt true, .cl (ok_spec_AddrOk a0.Addr _ hr6), .nt false]) rfl fd_5 (by kernel_rfl)
      ·obtain rfl := Option.some.inj h
       exact call_wQ (p39 ++ [.eT c4, .le e_u8 a0.Addr, .lF c5, ⟨.eqB true false, .b false, rfl⟩, .nt false]) rfl fd_5 (by kernel_rfl)
     ·let p41 : List (Q cfg) := p39 ++ [.eF c4]
      rcases ite_some h with ⟨c5, h⟩ | ⟨c5, h⟩
      ·rcases ite_some h with ⟨c6, h⟩ | ⟨c6, h⟩
       ·obtain ⟨r7, hr7, h⟩ := bs h
        cases r7 with
        | true =>
         try dsimp only at h
         rcases ite_some h with ⟨c9, h⟩ | ⟨c9, h⟩
         ·obtain ⟨r10, hr10, h⟩ := bs h
          let p42 : List (Q cfg) := p41 ++ [.eT c5, .le e_u8 a0.Addr, .lT c6, ⟨.eqB true true, .b true, rfl⟩, .nt true, .cl (ok_spec_AddrOk a0.Addr _ hr7), .nt true, .eF c3, .eT c9, .nt true, .eF c4, .cl (ok_spec_ValOk a0.Val _ hr10)]
          cases r10 with
          | true =>
           try dsimp only at h
           obtain ⟨r12, hr12, h⟩ := bs h
           cases r12 with
           | true =>
            try dsimp only at h
            obtain rfl := Option.some.inj h
            exact call_wQ (p42 ++ [.cl (ok_spec_l4zero a0.Val _ hr12), .le (e_sl e_u8) a0.Deps, .eD ((a0.Deps.length : Nat) : Int) 0]) rfl fd_5 (by kernel_rfl)
           | false =>
            try dsimp only at h
            obtain rfl := Option.some.inj h
            exact call_wQ (p42 ++ [.cl (ok_spec_l4zero a0.Val _ hr12)]) rfl fd_5 (by kernel_rfl)
          | false =>
           try dsimp only at h
           obtain rfl := Option.some.inj h
           exact call_wQ p42 rfl fd_5 (by kernel_rfl)
         ·obtain rfl := Option.some.inj h
          exact call_wQ (p41 ++ [.eT c5, .le e_u8 a0.Addr, .lT c6, ⟨.eqB true true, .b true, rfl⟩, .nt true, .cl (ok_spec_AddrOk a0.Addr _ hr7), .nt true, .eF c3, .eF c9, .nt false]) rfl fd_5 (by kernel_rfl)
        | false =>
         try dsimp only at h
         obtain rfl := Option.some.inj h
         exact call_wQ (p41 ++ [.eT c5, .le e_u8 a0.Addr, .lT c6, ⟨.eqB true true, .b true, rfl⟩, .nt true, .cl (ok_spec_AddrOk a0.Addr _ hr7), .nt false]) rfl fd_5 (by kernel_rfl)
       ·obtain rfl := Option.some.inj h
        exact call_wQ (p41 ++ [.eT c5, .le e_u8 a0.Addr, .lF c6, ⟨.eqB true false, .b false, rfl⟩, .nt false]) rfl fd_5 (by kernel_rfl)
      ·let p43 : List (Q cfg) := p41 ++ [.eF c5]
       rcases ite_some h with ⟨c6, h⟩ | ⟨c6, h⟩
       ·rcases ite_some h with ⟨c7, h⟩ | ⟨c7, h⟩
        ·obtain ⟨r8, hr8, h⟩ := bs h
         cases r8 with
         | true =>
          try dsimp only at h
          rcases ite_some h with ⟨c10, h⟩ | ⟨c10, h⟩
          ·obtain ⟨r11, hr11, h⟩ := bs h
           let p44 : List (Q cfg) := p43 ++ [.eT c6, .le e_u8 a0.Addr, .lT c7, ⟨.eqB true true, .b true, rfl⟩, .nt true, .cl (ok_spec_AddrOk a0.Addr _ hr8), .nt true, .eF c3, .eT c10, .nt true, .eF c4, .cl (ok_spec_ValOk a0.Val _ hr11)]
           cases r11 with
           | true =>
            try dsimp only at h
            obtain ⟨r13, hr13, h⟩ := bs h
            cases r13 with
            | true =>
             try dsimp only at h
             obtain rfl := Option.some.inj h
             exact call_wQ (p44 ++ [.cl (ok_spec_l4zero a0.Val _ hr13), .le (e_sl e_u8) a0.Deps, .eD ((a0.Deps.length : Nat) : Int) 0]) rfl fd_5 (by kernel_rfl)
            | false =>
             try dsimp only at h
             obtain rfl := Option.some.inj h
             exact call_wQ (p44 ++ [.cl (ok_spec_l4zero a0.Val _ hr13)]) rfl fd_5 (by kernel_rfl)
           | false =>
            try dsimp only at h
            obtain rfl := Option.some.inj h
            exact call_wQ p44 rfl fd_5 (by kernel_rfl)
          ·obtain rfl := Option.some.inj h
           exact call_wQ (p43 ++ [.eT c6, .le e_u8 a0.Addr, .lT c7, ⟨.eqB true true, .b true, rfl⟩, .nt true, .cl (ok_spec_AddrOk a0.Addr _ hr8), .nt true, .eF c3, .eF c10, .nt false]) rfl fd_5 (by kernel_rfl)
         | false =>
          try dsimp only at h
          obtain rfl := Option.some.inj h
          exact call_wQ (p43 ++ [.eT c6, .le e_u8 a0.Addr, .lT c7, ⟨.eqB true true, .b true, rfl⟩, .nt true, .cl (ok_spec_AddrOk a0.Addr _ hr8), .nt false]) rfl fd_5 (by kernel_rfl)
        ·obtain rfl := Option.some.inj h
         exact call_wQ (p43 ++ [.eT c6, .le e_u8 a0.Addr, .lF c7, ⟨.eqB true false, .b false, rfl⟩, .nt false]) rfl fd_5 (by kernel_rfl)
       ·rcases ite_some h with ⟨c7, h⟩ | ⟨c7, h⟩
        ·obtain rfl := Option.some.inj h
         exact call_wQ (p43 ++ [.eF c6, .le e_u8 a0.Addr, .lT c7, ⟨.eqB false true, .b false, rfl⟩, .nt false]) rfl fd_5 (by kernel_rfl)
        ·rcases ite_some h with ⟨c8, h⟩ | ⟨c8, h⟩
         ·obtain ⟨r9, hr9, h⟩ := bs h
          let p45 : List (Q cfg) := p43 ++ [.eF c6, .le e_u8 a0.Addr, .lF c7, ⟨.eqB false false, .b true, rfl⟩, .nt true, .eF c3, .eT c8, .nt true, .eF c4, .cl (ok_spec_ValOk a0.Val _ hr9)]
          cases r9 with
          | true =>
           try dsimp only at h
           obtain ⟨r11, hr11, h⟩ := bs h
           cases r11 with
           | true =>
            try dsimp only at h
            obtain rfl := Option.some.inj h
            exact call_wQ (p45 ++ [.cl (ok_spec_l4zero a0.Val _ hr11), .le (e_sl e_u8) a0.Deps, .eD ((a0.Deps.length : Nat) : Int) 0]) rfl fd_5 (by kernel_rfl)
           | false =>
            try dsimp only at h
            obtain rfl := Option.some.inj h
            exact call_wQ (p45 ++ [.cl (ok_spec_l4zero a0.Val _ hr11)]) rfl fd_5 (by kernel_rfl)
          | false =>
           try dsimp only at h
           obtain rfl := Option.some.inj h
           exact call_wQ p45 rfl fd_5 (by kernel_rfl)
         ·obtain rfl := Option.some.inj h
          exact call_wQ (p43 ++ [.eF c6, .le e_u8 a0.Addr, .lF c7, ⟨.eqB false false, .b true, rfl⟩, .nt true, .eF c3, .eF c8, .nt false]) rfl fd_5 (by kernel_rfl)
def S_bytes_IndexByte (a0 : (List UInt8)) (a1 : UInt8) : Option Int :=
  (S_internal_bytealg_IndexByte a0 a1).bind fun r1 =>
  some r1
set_option maxRecDepth 100000 in
theorem fd_60 : cfg.funcs 60 = some (bodyOf Tryd.f60, Tryd.f60.ntmps, Tryd.f60.results.toList) := fn_of Tryd.func60 (by kernel_rfl) (by kernel_rfl)
theorem ok_bytes_IndexByte (a0 : (List UInt8)) (a1 : UInt8) (r : Int) (h : S_bytes_IndexByte a0 a1 = some r) : (mach cfg).call 60 [] [.val false [.seq (eL e_u8 a0)], .val false [.int .u8 ((a1.toNat : Nat) : Int)]] = some (.val false [.int .i64 r], []) := by
  unfold S_bytes_IndexByte at h
  obtain ⟨r1, hr1, h⟩ := bs h
  obtain rfl := Option.some.inj h
  exact call_wQ [.cl (ok_internal_bytealg_IndexByte a0 a1 _ hr1)] rfl fd_60 (by kernel_rfl)
def S_bytes_Equal (a0 : (List UInt8)) (a1 : (List UInt8)) : Option Bool :=
  some (decide (a0 = a1))
set_option maxRecDepth 100000 in
theorem fd_61 : cfg.funcs 61 = some (bodyOf Tryd.f61, Tryd.f61.ntmps, Tryd.f61.results.toList) := fn_of Tryd.func61 (by kernel_rfl) (by kernel_rfl)
theorem ok_bytes_Equal (a0 : (List UInt8)) (a1 : (List UInt8)) (r : Bool) (h : S_bytes_Equal a0 a1 = some r) : (mach cfg).call 61 [] [.val false [.seq (eL e_u8 a0)], .val false [.seq (eL e_u8 a1)]] = some (.val false [.bool r], []) := by
  unfold S_bytes_Equal at h
  obtain rfl := Option.some.inj h
  exact call_wQ [⟨.bytes (eL e_u8 a0), .s a0, A.bytes⟩, ⟨.bytes (eL e_u8 a1), .s a1, A.bytes⟩, ⟨.eqS a0 a1, .b (decide (a0 = a1)), A.eqS_d⟩] rfl fd_61 (by kernel_rfl)
def S_bytes_Index (a0 : (List UInt8)) (a1 : (List UInt8)) : Option Int :=
  if ((a1.length : Nat) : Int) = 0 then
    some 0
  else
    if ((a1.length : Nat) : Int) = 1 then
      (a1[0]?).bind fun x3 =>
      (S_bytes_IndexByte a0 x3).bind fun r4 =>
      some r4
    else
      if ((a1.length : Nat) : Int) = ((a0.length : Nat) : Int) then
        (S_bytes_Equal a1 a0).bind fun r4 =>
        match r4 with
        | true =>
          some 0
        | false =>
          some (-1)
      else
        if ((a0.length : Nat) : Int) < ((a1.length : Nat) : Int) then
          some (-1)
        else
          none
set_option maxRecDepth 100000 in
theorem fd_50 : cfg.funcs 50 = some (bodyOf Tryd.f50, Tryd.f50.ntmps, Tryd.f50.results.toList) := fn_of Tryd.func50 (by kernel_rfl) (by kernel_rfl)
theorem ok_bytes_Index (a0 : (List UInt8)) (a1 : (List UInt8)) (r : Int) (h : S_bytes_Index a0 a1 = some r) : (mach cfg).call 50 [] [.val false [.seq (eL e_u8 a0)], .val false [.seq (eL e_u8 a1)]] = some (.val false [.int .i64 r], []) := by
  unfold S_bytes_Index at h
  rcases ite_some h with ⟨c1, h⟩ | ⟨c1, h⟩
  ·obtain rfl := Option.some.inj h
   exact call_wQ [.le e_u8 a1, .eT c1] rfl fd_50 (by kernel_rfl)
  ·rcases ite_some h with ⟨c2, h⟩ | ⟨c2, h⟩
   ·obtain ⟨x3, hx3, h⟩ := bs h
    obtain ⟨r4, hr4, h⟩ := bs h
    obtain rfl := Option.some.inj h
    exact call_wQ [.le e_u8 a1, .eF c1, .eT c2, ⟨.nat 0, .n 0, rfl⟩, .ix0 e_u8 hx3, .cl (ok_bytes_IndexByte a0 x3 _ hr4)] rfl fd_50 (by kernel_rfl)
   ·rcases ite_some h with ⟨c3, h⟩ | ⟨c3, h⟩
    ·obtain ⟨r4, hr4, h⟩ := bs h
     let p46 : List (Q cfg) := [.le e_u8 a1, .eF c1, .eF c2, .le e_u8 a0, .eT c3, .cl (ok_bytes_Equal a1 a0 _ hr4)]
     cases r4 with
     | true =>
      try dsimp only at h
      obtain rfl := Option.some.inj h
      exact call_wQ p46 rfl fd_50 (by kernel_rfl)
     | false =>
      try dsimp only at h
      obtain rfl := Option.some.inj h
      exact call_wQ p46 rfl fd_50 (by kernel_rfl)
    ·rcases ite_some h with ⟨c4, h⟩ | ⟨c4, h⟩
     ·obtain rfl := Option.some.inj h
      exact call_wQ [.le e_u8 a1, .eF c1, .eF c2, .le e_u8 a0, .eF c3, .le e_u8 a0, .lT c4] rfl fd_50 (by kernel_rfl)
     ·cases h
def S_bytes_Cut (a0 : (List UInt8)) (a1 : (List UInt8)) : Option ((List UInt8) × (List UInt8) × Bool) :=
  (S_bytes_Index a0 a1).bind fun r1 =>
  if 0 <= r1 then
    (natO r1).bind fun i3 =>
    (cutO a0 none (some i3)).bind fun s4 =>
    (natO (w64 (r1 + ((a1.length : Nat) : Int)))).bind fun i5 =>
    (cutO a0 (some i5) none).bind fun s6 =>
    some (s4, s6, true)
  else
    some (a0, [], false)
set_option maxRecDepth 100000 in
theorem fd_41 : cfg.funcs 41 = some (bodyOf Tryd.f41, Tryd.f41.ntmps, Tryd.f41.results.toList) := fn_of Tryd.func41 (by kernel_rfl) (by kernel_rfl)
theorem ok_bytes_Cut (a0 : (List UInt8)) (a1 : (List UInt8)) (r : ((List UInt8) × (List UInt8) × Bool)) (h : S_bytes_Cut a0 a1 = some r) : (mach cfg).call 41 [] [.val false [.seq (eL e_u8 a0)], .val false [.seq (eL e_u8 a1)]] = some (.tup [(false, [.seq (eL e_u8 r.1)]), (false, [.seq (eL e_u8 r.2.1)]), (false, [.bool r.2.2])], []) := by
  unfold S_bytes_Cut at h
  obtain ⟨r1, hr1, h⟩ := bs h
  rcases ite_some h with ⟨c2, h⟩ | ⟨c2, h⟩
  ·obtain ⟨i3, hi3, h⟩ := bs h
   obtain ⟨s4, hs4, h⟩ := bs h
   obtain ⟨i5, hi5, h⟩ := bs h
   obtain ⟨s6, hs6, h⟩ := bs h
   obtain rfl := Option.some.inj h
   exact call_wQ [.cl (ok_bytes_Index a0 a1 _ hr1), .gT c2, .na hi3, ⟨.cut (eL e_u8 a0) none (some i3), .l (eL e_u8 s4), (A.cut hs4)⟩, ⟨.uni 1 (eL e_u8 a0), .b true, (A.uni E_u8)⟩, .le e_u8 a1, .ad r1 ((a1.length : Nat) : Int), .na hi5, ⟨.cut (eL e_u8 a0) (some i5) none, .l (eL e_u8 s6), (A.cut hs6)⟩, ⟨.uni 1 (eL e_u8 a0), .b true, (A.uni E_u8)⟩] rfl fd_41 (by kernel_rfl)
  ·obtain rfl := Option.some.inj h
   exact (call_wQ (r := (.tup [(false, [.seq (eL e_u8 a0)]), (false, [.seq (viewL (eL e_u8 []))]), (false, [.bool false])], [])) [.cl (ok_bytes_Index a0 a1 _ hr1), .gF c2] rfl fd_41 (by kernel_rfl)).trans (by simp only [viewL_eL E_u8] <;> rfl)
def S_impl_in (a0 : Int) (a1 : Int) (a2 : Int) : Option Bool :=
  if a1 <= a0 then
    some (decide (a0 <= a2))
  else
    some false
set_option maxRecDepth 100000 in
theorem fd_34 : cfg.funcs 34 = some (bodyOf Tryd.f34, Tryd.f34.ntmps, Tryd.f34.results.toList) := fn_of Tryd.func34 (by kernel_rfl) (by kernel_rfl)
theorem ok_impl_in (a0 : Int) (a1 : Int) (a2 : Int) (r : Bool) (h : S_impl_in a0 a1 a2 = some r) : (mach cfg).call 34 [] [.val false [.int .i64 a0], .val false [.int .i64 a1], .val false [.int .i64 a2]] = some (.val false [.bool r], []) := by
  unfold S_impl_in at h
  rcases ite_some h with ⟨c1, h⟩ | ⟨c1, h⟩
  ·obtain rfl := Option.some.inj h
   exact call_wQ [.gT c1, .gD a0 a2] rfl fd_34 (by kernel_rfl)
  ·obtain rfl := Option.some.inj h
   exact call_wQ [.gF c1] rfl fd_34 (by kernel_rfl)
def L_impl_isName_l0 (a0 : (List UInt8)) (v1 : Int) : Nat → Int → Option (Bool ⊕ Int)
  | 0, _ => none
  | m + 1, v2 =>
    if v2 < v1 then
      (natO v2).bind fun i2 =>
      (a0[i2]?).bind fun x3 =>
      if ((x3.toNat : Nat) : Int) < 97 then
        some (.inl false)
      else
        if 122 < ((x3.toNat : Nat) : Int) then
          some (.inl false)
        else
          L_impl_isName_l0 a0 v1 m (w64 (v2 + 1))
    else
      some (.inr v2)
theorem gl_impl_isName_l0 (a0 : (List UInt8)) (v1 : Int) (m : Nat) : ∀ (v2 : Int) (o : (Bool ⊕ Int)), L_impl_isName_l0 a0 v1 m v2 = some o → (mach cfg).loop 42 (loopB Tryd.f42 0) ⟨[(0, .val false [.seq (eL e_u8 a0)]), (5, .val false [.seq (eL e_u8 a0)]), (6, .val false [.int .i64 v1]), (7, .val false [.int .i64 v2])], [], 0⟩ = some (match o with | .inl o_0 => (.ret, (⟨[(2, .val false [.bool o_0])], [], 0⟩ : S)) | .inr (o_1) => (.exit 0, (⟨[(0, .val false [.seq (eL e_u8 a0)]), (5, .val false [.seq (eL e_u8 a0)]), (6, .val false [.int .i64 v1]), (7, .val false [.int .i64 o_1]), (8, .val false [.bool false])], [], 0⟩ : S))) := by
  induction m with
  | zero => intro v2 o h; cases h
  | succ m ih =>
    intro v2 o h
    rw [L_impl_isName_l0] at h
    rcases ite_some h with ⟨c1, h⟩ | ⟨c1, h⟩
    ·obtain ⟨i2, hi2, h⟩ := bs h
     obtain ⟨x3, hx3, h⟩ := bs h
     rcases ite_some h with ⟨c4, h⟩ | ⟨c4, h⟩
     ·obtain rfl := Option.some.inj h
      exact loop_eQ [.lT c1, .na hi2, .ix0 e_u8 hx3, .lT c4] (by kernel_rfl) (by intro h; cases h)
     ·rcases ite_some h with ⟨c5, h⟩ | ⟨c5, h⟩
      ·obtain rfl := Option.some.inj h
       exact loop_eQ [.lT c1, .na hi2, .ix0 e_u8 hx3, .lF c4, .lT c5] (by kernel_rfl) (by intro h; cases h)
      ·exact loop_nQ [.lT c1, .na hi2, .ix0 e_u8 hx3, .lF c4, .lF c5, .ad v2 1] (by kernel_rfl) (ih (w64 (v2 + 1)) o h)
    ·obtain rfl := Option.some.inj h
     exact loop_eQ [.lF c1] (by kernel_rfl) (by intro h; cases h)
def T_impl_isName (n : Nat) (a0 : (List UInt8)) : Option Bool :=
  (L_impl_isName_l0 a0 ((a0.length : Nat) : Int) n 0).bind fun o1 =>
  match o1 with
  | .inl o1_0 =>
    some o1_0
  | .inr (o1_1) =>
    (S_impl_in ((a0.length : Nat) : Int) 1 8).bind fun r2 =>
    some r2
set_option maxRecDepth 100000 in
theorem fd_42 : cfg.funcs 42 = some (bodyOf Tryd.f42, Tryd.f42.ntmps, Tryd.f42.results.toList) := fn_of Tryd.func42 (by kernel_rfl) (by kernel_rfl)
theorem g_impl_isName (n : Nat) (a0 : (List UInt8)) (r : Bool) (h : T_impl_isName n a0 = some r) : (mach cfg).call 42 [] [.val false [.seq (eL e_u8 a0)]] = some (.val false [.bool r], []) := by
  unfold T_impl_isName at h
  obtain ⟨o1, ho1, h⟩ := bs h
  let p47 : List (Q cfg) := [.le e_u8 a0, .lp (gl_impl_isName_l0 a0 ((a0.length : Nat) : Int) _ 0 _ ho1)]
  rcases o1 with o1_0 | o1_1
  · try dsimp only at h
    obtain rfl := Option.some.inj h
    exact call_wQ p47 rfl fd_42 (by kernel_rfl)
  · try dsimp only at h
    obtain ⟨r2, hr2, h⟩ := bs h
    obtain rfl := Option.some.inj h
    exact call_wQ (p47 ++ [.le e_u8 a0, .cl (ok_impl_in ((a0.length : Nat) : Int) 1 8 _ hr2)]) rfl fd_42 (by kernel_rfl)
theorem impl_isName_loop {a : List UInt8} (ha : a.length <= 2 ^ 20) : ∀ (d i m : Nat), i + d = a.length → d < m → ∃ z, L_impl_isName_l0 a (a.length : Int) m (i : Int) = some (if (a.drop i).all (inB 97 122) = true then .inr z else .inl false) := by
  intro d
  induction d with
  | zero =>
    intro i m hi hm
    obtain ⟨m, rfl, _⟩ := fuel hm
    exact ⟨_, by rw [L_impl_isName_l0, if_neg (by omega), List.drop_eq_nil_of_le (by omega)]; rfl⟩
  | succ d ih =>
    intro i m hi hm
    obtain ⟨m, rfl, hm'⟩ := fuel hm
    have hil : i < a.length := by omega
    rw [L_impl_isName_l0, if_pos (by omega), natO_nat, Option.bind_some, get_some hil, Option.bind_some, w64_succ (by omega), drop_cons hil, List.all_cons]
    by_cases h1 : ((a[i].toNat : Nat) : Int) < 97
    · exact ⟨0, by rw [if_pos h1, if_neg]; simp [inB]; omega⟩
    · rw [if_neg h1]
      by_cases h2 : (122 : Int) < ((a[i].toNat : Nat) : Int)
      · exact ⟨0, by rw [if_pos h2, if_neg]; simp [inB]; omega⟩
      · rw [if_neg h2, show inB 97 122 a[i] = true by simp [inB]; omega, Bool.true_and]
        exact ih (i + 1) m (by omega) (by omega)
theorem in_eq (a b c : Int) : S_impl_in a b c = some (decide (b <= a ∧ a <= c)) := by
  unfold S_impl_in
  by_cases h : b <= a
  · rw [if_pos h]; simp [h]
  · rw [if_neg h]; simp [h]
def S_impl_isName (a0 : (List UInt8)) : Option Bool := if a0.length <= 2 ^ 20 then some (nameB a0) else none
theorem spec_impl_isName (a0 : (List UInt8)) (r : Bool) (h : S_impl_isName a0 = some r) : ∃ n, T_impl_isName n a0 = some r := by
  unfold S_impl_isName at h
  obtain ⟨ha, h⟩ := need_c h
  refine ⟨a0.length + 1, ?_⟩
  obtain ⟨z, hz⟩ := impl_isName_loop ha a0.length 0 (a0.length + 1) (by omega) (by omega)
  rw [show ((0 : Nat) : Int) = 0 from rfl, List.drop_zero] at hz
  unfold T_impl_isName
  rw [<- h, hz]
  unfold nameB
  have hd : decide (1 <= a0.length ∧ a0.length <= 8) = decide ((1 : Int) <= (a0.length : Int) ∧ (a0.length : Int) <= 8) := decide_eq_decide.2 (by omega)
  rw [hd]
  cases a0.all (inB 97 122)
  · rw [Bool.and_false]; rfl
  · rw [Bool.and_true]
    simp only [if_true, Option.bind_some, in_eq]
theorem ok_impl_isName (a0 : (List UInt8)) (r : Bool) (h : S_impl_isName a0 = some r) : (mach cfg).call 42 [] [.val false [.seq (eL e_u8 a0)]] = some (.val false [.bool r], []) := by
  obtain ⟨n, hn⟩ := spec_impl_isName a0 r h
  exact g_impl_isName n a0 r hn
def S_bytes_HasSuffix (a0 : (List UInt8)) (a1 : (List UInt8)) : Option Bool :=
  if ((a1.length : Nat) : Int) <= ((a0.length : Nat) : Int) then
    (natO (w64 (((a0.length : Nat) : Int) - ((a1.length : Nat) : Int)))).bind fun i2 =>
    (cutO a0 (some i2) none).bind fun s3 =>
    (S_bytes_Equal s3 a1).bind fun r4 =>
    some r4
  else
    some false
set_option maxRecDepth 100000 in
theorem fd_51 : cfg.funcs 51 = some (bodyOf Tryd.f51, Tryd.f51.ntmps, Tryd.f51.results.toList) := fn_of Tryd.func51 (by kernel_rfl) (by kernel_rfl)
theorem ok_bytes_HasSuffix (a0 : (List UInt8)) (a1 : (List UInt8)) (r : Bool) (h : S_bytes_HasSuffix a0 a1 = some r) : (mach cfg).call 51 [] [.val false [.seq (eL e_u8 a0)], .val false [.seq (eL e_u8 a1)]] = some (.val false [.bool r], []) := by
  unfold S_bytes_HasSuffix at h
  rcases ite_some h with ⟨c1, h⟩ | ⟨c1, h⟩
  ·obtain ⟨i2, hi2, h⟩ := bs h
   obtain ⟨s3, hs3, h⟩ := bs h
   obtain ⟨r4, hr4, h⟩ := bs h
   obtain rfl := Option.some.inj h
   exact call_wQ [.le e_u8 a0, .le e_u8 a1, .gT c1, .le e_u8 a0, .le e_u8 a1, .su ((a0.length : Nat) : Int) ((a1.length : Nat) : Int), .na hi2, ⟨.cut (eL e_u8 a0) (some i2) none, .l (eL e_u8 s3), (A.cut hs3)⟩, ⟨.uni 1 (eL e_u8 a0), .b true, (A.uni E_u8)⟩, .cl (ok_bytes_Equal s3 a1 _ hr4)] rfl fd_51 (by kernel_rfl)
  ·obtain rfl := Option.some.inj h
   exact call_wQ [.le e_u8 a0, .le e_u8 a1, .gF c1] rfl fd_51 (by kernel_rfl)
def S_bytes_CutSuffix (a0 : (List UInt8)) (a1 : (List UInt8)) : Option ((List UInt8) × Bool) :=
  (S_bytes_HasSuffix a0 a1).bind fun r1 =>
  match r1 with
  | true =>
    (natO (w64 (((a0.length : Nat) : Int) - ((a1.length : Nat) : Int)))).bind fun i3 =>
    (cutO a0 none (some i3)).bind fun s4 =>
    some (s4, true)
  | false =>
    some (a0, false)
set_option maxRecDepth 100000 in
theorem fd_43 : cfg.funcs 43 = some (bodyOf Tryd.f43, Tryd.f43.ntmps, Tryd.f43.results.toList) := fn_of Tryd.func43 (by kernel_rfl) (by kernel_rfl)
theorem ok_bytes_CutSuffix (a0 : (List UInt8)) (a1 : (List UInt8)) (r : ((List UInt8) × Bool)) (h : S_bytes_CutSuffix a0 a1 = some r) : (mach cfg).call 43 [] [.val false [.seq (eL e_u8 a0)], .val false [.seq (eL e_u8 a1)]] = some (.tup [(false, [.seq (eL e_u8 r.1)]), (false, [.bool r.2])], []) := by
  unfold S_bytes_CutSuffix at h
  obtain ⟨r1, hr1, h⟩ := bs h
  cases r1 with
  | true =>
   try dsimp only at h
   obtain ⟨i3, hi3, h⟩ := bs h
   obtain ⟨s4, hs4, h⟩ := bs h
   obtain rfl := Option.some.inj h
   exact call_wQ [.cl (ok_bytes_HasSuffix a0 a1 _ hr1), .nt true, .le e_u8 a0, .le e_u8 a1, .su ((a0.length : Nat) : Int) ((a1.length : Nat) : Int), .na hi3, ⟨.cut (eL e_u8 a0) none (some i3), .l (eL e_u8 s4), (A.cut hs4)⟩, ⟨.uni 1 (eL e_u8 a0), .b true, (A.uni E_u8)⟩] rfl fd_43 (by kernel_rfl)
  | false =>
   try dsimp only at h
   obtain rfl := Option.some.inj h
   exact call_wQ [.cl (ok_bytes_HasSuffix a0 a1 _ hr1), .nt false] rfl fd_43 (by kernel_rfl)
def S_bytes_HasPrefix (a0 : (List UInt8)) (a1 : (List UInt8)) : Option Bool :=
  if ((a1.length : Nat) : Int) <= ((a0.length : Nat) : Int) then
    (natO ((a1.length : Nat) : Int)).bind fun i2 =>
    (cutO a0 none (some i2)).bind fun s3 =>
    (S_bytes_Equal s3 a1).bind fun r4 =>
    some r4
  else
    some false
set_option maxRecDepth 100000 in
theorem fd_52 : cfg.funcs 52 = some (bodyOf Tryd.f52, Tryd.f52.ntmps, Tryd.f52.results.toList) := fn_of Tryd.func52 (by kernel_rfl) (by kernel_rfl)
theorem ok_bytes_HasPrefix (a0 : (List UInt8)) (a1 : (List UInt8)) (r : Bool) (h : S_bytes_HasPrefix a0 a1 = some r) : (mach cfg).call 52 [] [.val false [.seq (eL e_u8 a0)], .val false [.seq (eL e_u8 a1)]] = some (.val false [.bool r], []) := by
  unfold S_bytes_HasPrefix at h
  rcases ite_some h with ⟨c1, h⟩ | ⟨c1, h⟩
  ·obtain ⟨i2, hi2, h⟩ := bs h
   obtain ⟨s3, hs3, h⟩ := bs h
   obtain ⟨r4, hr4, h⟩ := bs h
   obtain rfl := Option.some.inj h
   exact call_wQ [.le e_u8 a0, .le e_u8 a1, .gT c1, .le e_u8 a1, .na hi2, ⟨.cut (eL e_u8 a0) none (some i2), .l (eL e_u8 s3), (A.cut hs3)⟩, ⟨.uni 1 (eL e_u8 a0), .b true, (A.uni E_u8)⟩, .cl (ok_bytes_Equal s3 a1 _ hr4)] rfl fd_52 (by kernel_rfl)
  ·obtain rfl := Option.some.inj h
   exact call_wQ [.le e_u8 a0, .le e_u8 a1, .gF c1] rfl fd_52 (by kernel_rfl)
def S_bytes_CutPrefix (a0 : (List UInt8)) (a1 : (List UInt8)) : Option ((List UInt8) × Bool) :=
  (S_bytes_HasPrefix a0 a1).bind fun r1 =>
  match r1 with
  | true =>
    (natO ((a1.length : Nat) : Int)).bind fun i3 =>
    (cutO a0 (some i3) none).bind fun s4 =>
    some (s4, true)
  | false =>
    some (a0, false)
set_option maxRecDepth 100000 in
theorem fd_44 : cfg.funcs 44 = some (bodyOf Tryd.f44, Tryd.f44.ntmps, Tryd.f44.results.toList) := fn_of Tryd.func44 (by kernel_rfl) (by kernel_rfl)
theorem ok_bytes_CutPrefix (a0 : (List UInt8)) (a1 : (List UInt8)) (r : ((List UInt8) × Bool)) (h : S_bytes_CutPrefix a0 a1 = some r) : (mach cfg).call 44 [] [.val false [.seq (eL e_u8 a0)], .val false [.seq (eL e_u8 a1)]] = some (.tup [(false, [.seq (eL e_u8 r.1)]), (false, [.bool r.2])], []) := by
  unfold S_bytes_CutPrefix at h
  obtain ⟨r1, hr1, h⟩ := bs h
  cases r1 with
  | true =>
   try dsimp only at h
   obtain ⟨i3, hi3, h⟩ := bs h
   obtain ⟨s4, hs4, h⟩ := bs h
   obtain rfl := Option.some.inj h
   exact call_wQ [.cl (ok_bytes_HasPrefix a0 a1 _ hr1), .nt true, .le e_u8 a1, .na hi3, ⟨.cut (eL e_u8 a0) (some i3) none, .l (eL e_u8 s4), (A.cut hs4)⟩, ⟨.uni 1 (eL e_u8 a0), .b true, (A.uni E_u8)⟩] rfl fd_44 (by kernel_rfl)
  | false =>
   try dsimp only at h
   obtain rfl := Option.some.inj h
   exact call_wQ [.cl (ok_bytes_HasPrefix a0 a1 _ hr1), .nt false] rfl fd_44 (by kernel_rfl)
def S_internal_strconv_small (a0 : Int) : Option (List UInt8) :=
  if a0 < 10 then
    (natO a0).bind fun i2 =>
    (natO (w64 (a0 + 1))).bind fun i3 =>
    (cutO [48, 49, 50, 51, 52, 53, 54, 55, 56, 57, 97, 98, 99, 100, 101, 102, 103, 104, 105, 106, 107, 108, 109, 110, 111, 112, 113, 114, 115, 116, 117, 118, 119, 120, 121, 122] (some i2) (some i3)).bind fun s4 =>
    some s4
  else
    (natO (w64 (a0 * 2))).bind fun i2 =>
    (natO (w64 ((w64 (a0 * 2)) + 2))).bind fun i3 =>
    (cutO [48, 48, 48, 49, 48, 50, 48, 51, 48, 52, 48, 53, 48, 54, 48, 55, 48, 56, 48, 57, 49, 48, 49, 49, 49, 50, 49, 51, 49, 52, 49, 53, 49, 54, 49, 55, 49, 56, 49, 57, 50, 48, 50, 49, 50, 50, 50, 51, 50, 52, 50, 53, 50, 54, 50, 55, 50, 56, 50, 57, 51, 48, 51, 49, 51, 50, 51, 51, 51, 52, 51, 53, 51, 54, 51, 55, 51, 56, 51, 57, 52, 48, 52, 49, 52, 50, 52, 51, 52, 52, 52, 53, 52, 54, 52, 55, 52, 56, 52, 57, 53, 48, 53, 49, 53, 50, 53, 51, 53, 52, 53, 53, 53, 54, 53, 55, 53, 56, 53, 57, 54, 48, 54, 49, 54, 50, 54, 51, 54, 52, 54, 53, 54, 54, 54, 55, 54, 56, 54, 57, 55, 48, 55, 49, 55, 50, 55, 51, 55, 52, 55, 53, 55, 54, 55, 55, 55, 56, 55, 57, 56, 48, 56, 49, 56, 50, 56, 51, 56, 52, 56, 53, 56, 54, 56, 55, 56, 56, 56, 57, 57, 48, 57, 49, 57, 50, 57, 51, 57, 52, 57, 53, 57, 54, 57, 55, 57, 56, 57, 57] (some i2) (some i3)).bind fun s4 =>
    some s4
set_option maxRecDepth 100000 in
theorem fd_79 : cfg.funcs 79 = some (bodyOf Tryd.f79, Tryd.f79.ntmps, Tryd.f79.results.toList) := fn_of Tryd.func79 (by kernel_rfl) (by kernel_rfl)
theorem ok_internal_strconv_small (a0 : Int) (r : (List UInt8)) (h : S_internal_strconv_small a0 = some r) : (mach cfg).call 79 [] [.val false [.int .i64 a0]] = some (.val false [.str r], []) := by
  unfold S_internal_strconv_small at h
  rcases ite_some h with ⟨c1, h⟩ | ⟨c1, h⟩
  ·obtain ⟨i2, hi2, h⟩ := bs h
   obtain ⟨i3, hi3, h⟩ := bs h
   obtain ⟨s4, hs4, h⟩ := bs h
   obtain rfl := Option.some.inj h
   exact call_wQ [.lT c1, .ad a0 1, .na hi2, .na hi3, ⟨.cutS [48, 49, 50, 51, 52, 53, 54, 55, 56, 57, 97, 98, 99, 100, 101, 102, 103, 104, 105, 106, 107, 108, 109, 110, 111, 112, 113, 114, 115, 116, 117, 118, 119, 120, 121, 122] (some i2) (some i3), .s s4, (A.cutS hs4)⟩] rfl fd_79 (by kernel_rfl)
  ·obtain ⟨i2, hi2, h⟩ := bs h
   obtain ⟨i3, hi3, h⟩ := bs h
   obtain ⟨s4, hs4, h⟩ := bs h
   obtain rfl := Option.some.inj h
   exact call_wQ [.lF c1, ⟨.mul .i64 a0 2, .i (w64 (a0 * 2)), rfl⟩, ⟨.mul .i64 a0 2, .i (w64 (a0 * 2)), rfl⟩, .ad (w64 (a0 * 2)) 2, .na hi2, .na hi3, ⟨.cutS [48, 48, 48, 49, 48, 50, 48, 51, 48, 52, 48, 53, 48, 54, 48, 55, 48, 56, 48, 57, 49, 48, 49, 49, 49, 50, 49, 51, 49, 52, 49, 53, 49, 54, 49, 55, 49, 56, 49, 57, 50, 48, 50, 49, 50, 50, 50, 51, 50, 52, 50, 53, 50, 54, 50, 55, 50, 56, 50, 57, 51, 48, 51, 49, 51, 50, 51, 51, 51, 52, 51, 53, 51, 54, 51, 55, 51, 56, 51, 57, 52, 48, 52, 49, 52, 50, 52, 51, 52, 52, 52, 53, 52, 54, 52, 55, 52, 56, 52, 57, 53, 48, 53, 49, 53, 50, 53, 51, 53, 52, 53, 53, 53, 54, 53, 55, 53, 56, 53, 57, 54, 48, 54, 49, 54, 50, 54, 51, 54, 52, 54, 53, 54, 54, 54, 55, 54, 56, 54, 57, 55, 48, 55, 49, 55, 50, 55, 51, 55, 52, 55, 53, 55, 54, 55, 55, 55, 56, 55, 57, 56, 48, 56, 49, 56, 50, 56, 51, 56, 52, 56, 53, 56, 54, 56, 55, 56, 56, 56, 57, 57, 48, 57, 49, 57, 50, 57, 51, 57, 52, 57, 53, 57, 54, 57, 55, 57, 56, 57, 57] (some i2) (some i3), .s s4, (A.cutS hs4)⟩] rfl fd_79 (by kernel_rfl)
def S_internal_strconv_formatBits (a0 : (List UInt8)) (a1 : Int) (a2 : Int) (a3 : Bool) (a4 : Bool) : Option ((List UInt8) × (List UInt8)) :=
  none
set_option maxRecDepth 100000 in
theorem fd_82 : cfg.funcs 82 = some (bodyOf Tryd.f82, Tryd.f82.ntmps, Tryd.f82.results.toList) := fn_of Tryd.func82 (by kernel_rfl) (by kernel_rfl)
theorem ok_internal_strconv_formatBits (a0 : (List UInt8)) (a1 : Int) (a2 : Int) (a3 : Bool) (a4 : Bool) (r : ((List UInt8) × (List UInt8))) (h : S_internal_strconv_formatBits a0 a1 a2 a3 a4 = some r) : (mach cfg).call 82 [] [.val false [.seq (eL e_u8 a0)], .val false [.int .u64 a1], .val false [.int .i64 a2], .val false [.bool a3], .val false [.bool a4]] = some (.tup [(false, [.own 1 (eL e_u8 r.1)]), (false, [.str r.2])], []) := by
  unfold S_internal_strconv_formatBits at h
  cases h
def S_internal_strconv_FormatInt (a0 : Int) (a1 : Int) : Option (List UInt8) :=
  if a1 = 10 then
    if 0 <= a0 then
      if a0 < 100 then
        (S_internal_strconv_small a0).bind fun r4 =>
        some r4
      else
        none
    else
      none
  else
    if a0 < 0 then
      (S_internal_strconv_formatBits [] (IntKind.u64.wrap a0) a1 true false).bind fun ⟨r3_0, r3_1⟩ =>
      some r3_1
    else
      (S_internal_strconv_formatBits [] (IntKind.u64.wrap a0) a1 false false).bind fun ⟨r3_0, r3_1⟩ =>
      some r3_1
set_option maxRecDepth 100000 in
theorem fd_70 : cfg.funcs 70 = some (bodyOf Tryd.f70, Tryd.f70.ntmps, Tryd.f70.results.toList) := fn_of Tryd.func70 (by kernel_rfl) (by kernel_rfl)
theorem ok_internal_strconv_FormatInt (a0 : Int) (a1 : Int) (r : (List UInt8)) (h : S_internal_strconv_FormatInt a0 a1 = some r) : (mach cfg).call 70 [] [.val false [.int .i64 a0], .val false [.int .i64 a1]] = some (.val false [.str r], []) := by
  unfold S_internal_strconv_FormatInt at h
  rcases ite_some h with ⟨c1, h⟩ | ⟨c1, h⟩
  ·rcases ite_some h with ⟨c2, h⟩ | ⟨c2, h⟩
   ·rcases ite_some h with ⟨c3, h⟩ | ⟨c3, h⟩
    ·obtain ⟨r4, hr4, h⟩ := bs h
     obtain rfl := Option.some.inj h
     exact call_wQ [.eT c1, .gT c2, .lT c3, .cl (ok_internal_strconv_small a0 _ hr4)] rfl fd_70 (by kernel_rfl)
    ·cases h
   ·cases h
  ·rcases ite_some h with ⟨c2, h⟩ | ⟨c2, h⟩
   ·obtain ⟨⟨r3_0, r3_1⟩, hr3, h⟩ := bs h
    try dsimp only at h
    obtain rfl := Option.some.inj h
    exact call_wQ [.eF c1, ⟨.conv .u64 a0, .i (IntKind.u64.wrap a0), rfl⟩, .lT c2, .cl (ok_internal_strconv_formatBits [] (IntKind.u64.wrap a0) a1 true false _ hr3)] rfl fd_70 (by kernel_rfl)
   ·obtain ⟨⟨r3_0, r3_1⟩, hr3, h⟩ := bs h
    try dsimp only at h
    obtain rfl := Option.some.inj h
    exact call_wQ [.eF c1, ⟨.conv .u64 a0, .i (IntKind.u64.wrap a0), rfl⟩, .lF c2, .cl (ok_internal_strconv_formatBits [] (IntKind.u64.wrap a0) a1 false false _ hr3)] rfl fd_70 (by kernel_rfl)
def S_internal_strconv_Itoa (a0 : Int) : Option (List UInt8) :=
  (S_internal_strconv_FormatInt a0 10).bind fun r1 =>
  some r1
set_option maxRecDepth 100000 in
theorem fd_55 : cfg.funcs 55 = some (bodyOf Tryd.f55, Tryd.f55.ntmps, Tryd.f55.results.toList) := fn_of Tryd.func55 (by kernel_rfl) (by kernel_rfl)
theorem ok_internal_strconv_Itoa (a0 : Int) (r : (List UInt8)) (h : S_internal_strconv_Itoa a0 = some r) : (mach cfg).call 55 [] [.val false [.int .i64 a0]] = some (.val false [.str r], []) := by
  unfold S_internal_strconv_Itoa at h
  obtain ⟨r1, hr1, h⟩ := bs h
  obtain rfl := Option.some.inj h
  exact call_wQ [.cl (ok_internal_strconv_FormatInt a0 10 _ hr1)] rfl fd_55 (by kernel_rfl)
def S_strconv_Itoa (a0 : Int) : Option (List UInt8) :=
  (S_internal_strconv_Itoa a0).bind fun r1 =>
  some r1
set_option maxRecDepth 100000 in
theorem fd_46 : cfg.funcs 46 = some (bodyOf Tryd.f46, Tryd.f46.ntmps, Tryd.f46.results.toList) := fn_of Tryd.func46 (by kernel_rfl) (by kernel_rfl)
theorem ok_strconv_Itoa (a0 : Int) (r : (List UInt8)) (h : S_strconv_Itoa a0 = some r) : (mach cfg).call 46 [] [.val false [.int .i64 a0]] = some (.val false [.str r], []) := by
  unfold S_strconv_Itoa at h
  obtain ⟨r1, hr1, h⟩ := bs h
  obtain rfl := Option.some.inj h
  exact call_wQ [.cl (ok_internal_strconv_Itoa a0 _ hr1)] rfl fd_46 (by kernel_rfl)
def S_impl_isAddr (a0 : (List UInt8)) : Option Bool :=
  (S_bytes_Cut a0 [(91 : UInt8)]).bind fun ⟨r1_0, r1_1, r1_2⟩ =>
  (S_impl_isName r1_0).bind fun r2 =>
  match r2 with
  | true =>
    match r1_2 with
    | true =>
      (S_bytes_CutSuffix r1_1 [(93 : UInt8)]).bind fun ⟨r5_0, r5_1⟩ =>
      (S_bytes_CutPrefix r5_0 [(34 : UInt8)]).bind fun ⟨r6_0, r6_1⟩ =>
      (S_bytes_CutSuffix r6_0 [(34 : UInt8)]).bind fun ⟨r7_0, r7_1⟩ =>
      match r6_1 with
      | true =>
        match r5_1 with
        | true =>
          match r7_1 with
          | true =>
            (S_impl_isName r7_0).bind fun r11 =>
            some r11
          | false =>
            some false
        | false =>
          some false
      | false =>
        match r7_1 with
        | true =>
          match r5_1 with
          | true =>
            some false
          | false =>
            some false
        | false =>
          (S_strconv_Atoi r5_0).bind fun ⟨r10_0, r10_1⟩ =>
          match r10_1 with
          | true =>
            match r5_1 with
            | true =>
              some false
            | false =>
              some false
          | false =>
            match r5_1 with
            | true =>
              (S_impl_in r10_0 0 99).bind fun r13 =>
              match r13 with
              | true =>
                (S_strconv_Itoa r10_0).bind fun r15 =>
                some (decide (r15 = r5_0))
              | false =>
                some false
            | false =>
              some false
    | false =>
      some true
  | false =>
    some false
set_option maxRecDepth 100000 in
theorem fd_30 : cfg.funcs 30 = some (bodyOf Tryd.f30, Tryd.f30.ntmps, Tryd.f30.results.toList) := fn_of Tryd.func30 (by kernel_rfl) (by kernel_rfl)
theorem ok_impl_isAddr (a0 : (List UInt8)) (r : Bool) (h : S_impl_isAddr a0 = some r) : (mach cfg).call 30 [] [.val false [.seq (eL e_u8 a0)]] = some (.val false [.bool r], []) := by
  unfold S_impl_isAddr at h
  obtain ⟨⟨r1_0, r1_1, r1_2⟩, hr1, h⟩ := bs h
  try dsimp only at h
  obtain ⟨r2, hr2, h⟩ := bs h
  let p48 : List (Q cfg) := [.le e_u8 [(91 : UInt8)], .lTo 0 (([(91 : UInt8)].length : Nat) : Int) (by decide), ⟨.view (eL e_u8 [(91 : UInt8)]), .l (eL e_u8 [(91 : UInt8)]), (A.view E_u8)⟩, .cl (ok_bytes_Cut a0 [(91 : UInt8)] _ hr1), .cl (ok_impl_isName r1_0 _ hr2)]
  cases r2 with
  | true =>
   try dsimp only at h
   let p49 : List (Q cfg) := p48 ++ [.nt true]
   cases r1_2 with
   | true =>
    try dsimp only at h
    obtain ⟨⟨r5_0, r5_1⟩, hr5, h⟩ := bs h
    try dsimp only at h
    obtain ⟨⟨r6_0, r6_1⟩, hr6, h⟩ := bs h
    try dsimp only at h
    obtain ⟨⟨r7_0, r7_1⟩, hr7, h⟩ := bs h
    try dsimp only at h
    let p50 : List (Q cfg) := p49 ++ [.nt true, .le e_u8 [(93 : UInt8)], .lTo 0 (([(93 : UInt8)].length : Nat) : Int) (by decide), ⟨.view (eL e_u8 [(93 : UInt8)]), .l (eL e_u8 [(93 : UInt8)]), (A.view E_u8)⟩, .cl (ok_bytes_CutSuffix r1_1 [(93 : UInt8)] _ hr5), .le e_u8 [(34 : UInt8)], .lTo 0 (([(34 : UInt8)].length : Nat) : Int) (by decide), ⟨.view (eL e_u8 [(34 : UInt8)]), .l (eL e_u8 [(34 : UInt8)]), (A.view E_u8)⟩, .cl (ok_bytes_CutPrefix r5_0 [(34 : UInt8)] _ hr6), .le e_u8 [(34 : UInt8)], .lTo 0 (([(34 : UInt8)].length : Nat) : Int) (by decide), ⟨.view (eL e_u8 [(34 : UInt8)]), .l (eL e_u8 [(34 : UInt8)]), (A.view E_u8)⟩, .cl (ok_bytes_CutSuffix r6_0 [(34 : UInt8)] _ hr7)]
    cases r6_1 with
    | true =>
     try dsimp only at h
     cases r5_1 with
     | true =>
      try dsimp only at h
      cases r7_1 with
      | true =>
       try dsimp only at h
       obtain ⟨r11, hr11, h⟩ := bs h
       obtain rfl := Option.some.inj h
       exact call_wQ (p50 ++ [.cl (ok_impl_isName r7_0 _ hr11)]) rfl fd_30 (by kernel_rfl)
      | false =>
       try dsimp only at h
       obtain rfl := Option.some.inj h
       exact call_wQ p50 rfl fd_30 (by kernel_rfl)
     | false =>
      try dsimp only at h
      obtain rfl := Option.some.inj h
      exact call_wQ p50 rfl fd_30 (by kernel_rfl)
    | false =>
     try dsimp only at h
     cases r7_1 with
     | true =>
      try dsimp only at h
      cases r5_1 with
      | true =>
       try dsimp only at h
       obtain rfl := Option.some.inj h
       exact call_wQ p50 rfl fd_30 (by kernel_rfl)
      | false =>
       try dsimp only at h
       obtain rfl := Option.some.inj h
       exact call_wQ p50 rfl fd_30 (by kernel_rfl)
     | false =>
      try dsimp only at h
      obtain ⟨⟨r10_0, r10_1⟩, hr10, h⟩ := bs h
      try dsimp only at h
      let p51 : List (Q cfg) := p50 ++ [⟨.bytes (eL e_u8 r5_0), .s r5_0, A.bytes⟩, .cl (ok_strconv_Atoi r5_0 _ hr10)]
      cases r10_1 with
      | true =>
       try dsimp only at h
       cases r5_1 with
       | true =>
        try dsimp only at h
        obtain rfl := Option.some.inj h
        exact call_wQ p51 rfl fd_30 (by kernel_rfl)
       | false =>
        try dsimp only at h
        obtain rfl := Option.some.inj h
        exact call_wQ p51 rfl fd_30 (by kernel_rfl)
      | false =>
       try dsimp only at h
       cases r5_1 with
       | true =>
        try dsimp only at h
        obtain ⟨r13, hr13, h⟩ := bs h
        cases r13 with
        | true =>
         try dsimp only at h
         obtain ⟨r15, hr15, h⟩ := bs h
         obtain rfl := Option.some.inj h
         exact call_wQ (p51 ++ [.cl (ok_impl_in r10_0 0 99 _ hr13), .cl (ok_strconv_Itoa r10_0 _ hr15), ⟨.bytes (eL e_u8 r5_0), .s r5_0, A.bytes⟩, ⟨.eqS r15 r5_0, .b (decide (r15 = r5_0)), A.eqS_d⟩]) rfl fd_30 (by kernel_rfl)
        | false =>
         try dsimp only at h
         obtain rfl := Option.some.inj h
         exact call_wQ (p51 ++ [.cl (ok_impl_in r10_0 0 99 _ hr13)]) rfl fd_30 (by kernel_rfl)
       | false =>
        try dsimp only at h
        obtain rfl := Option.some.inj h
        exact call_wQ p51 rfl fd_30 (by kernel_rfl)
   | false =>
    try dsimp only at h
    obtain rfl := Option.some.inj h
    exact call_wQ (p49 ++ [.nt false]) rfl fd_30 (by kernel_rfl)
  | false =>
   try dsimp only at h
   obtain rfl := Option.some.inj h
   exact call_wQ (p48 ++ [.nt false]) rfl fd_30 (by kernel_rfl)
def L_impl_isText_l0 (a0 : (List UInt8)) (v1 : Int) : Nat → Int → Option (Bool ⊕ Int)
  | 0, _ => none
  | m + 1, v2 =>
    if v2 < v1 then
      (natO v2).bind fun i2 =>
      (a0[i2]?).bind fun x3 =>
      if ((x3.toNat : Nat) : Int) < 32 then
        some (.inl false)
      else
        if 126 < ((x3.toNat : Nat) : Int) then
          some (.inl false)
        else
          L_impl_isText_l0 a0 v1 m (w64 (v2 + 1))
    else
      some (.inr v2)
theorem gl_impl_isText_l0 (a0 : (List UInt8)) (v1 : Int) (m : Nat) : ∀ (v2 : Int) (o : (Bool ⊕ Int)), L_impl_isText_l0 a0 v1 m v2 = some o → (mach cfg).loop 83 (loopB Tryd.f83 0) ⟨[(0, .val false [.seq (eL e_u8 a0)]), (5, .val false [.seq (eL e_u8 a0)]), (6, .val false [.int .i64 v1]), (7, .val false [.int .i64 v2])], [], 0⟩ = some (match o with | .inl o_0 => (.ret, (⟨[(2, .val false [.bool o_0])], [], 0⟩ : S)) | .inr (o_1) => (.exit 0, (⟨[(0, .val false [.seq (eL e_u8 a0)]), (5, .val false [.seq (eL e_u8 a0)]), (6, .val false [.int .i64 v1]), (7, .val false [.int .i64 o_1]), (8, .val false [.bool false])], [], 0⟩ : S))) := by
  induction m with
  | zero => intro v2 o h; cases h
  | succ m ih =>
    intro v2 o h
    rw [L_impl_isText_l0] at h
    rcases ite_some h with ⟨c1, h⟩ | ⟨c1, h⟩
    ·obtain ⟨i2, hi2, h⟩ := bs h
     obtain ⟨x3, hx3, h⟩ := bs h
     rcases ite_some h with ⟨c4, h⟩ | ⟨c4, h⟩
     ·obtain rfl := Option.some.inj h
      exact loop_eQ [.lT c1, .na hi2, .ix0 e_u8 hx3, .lT c4] (by kernel_rfl) (by intro h; cases h)
     ·rcases ite_some h with ⟨c5, h⟩ | ⟨c5, h⟩
      ·obtain rfl := Option.some.inj h
       exact loop_eQ [.lT c1, .na hi2, .ix0 e_u8 hx3, .lF c4, .lT c5] (by kernel_rfl) (by intro h; cases h)
      ·exact loop_nQ [.lT c1, .na hi2, .ix0 e_u8 hx3, .lF c4, .lF c5, .ad v2 1] (by kernel_rfl) (ih (w64 (v2 + 1)) o h)
    ·obtain rfl := Option.some.inj h
     exact loop_eQ [.lF c1] (by kernel_rfl) (by intro h; cases h)
def T_impl_isText (n : Nat) (a0 : (List UInt8)) : Option Bool :=
  (L_impl_isText_l0 a0 ((a0.length : Nat) : Int) n 0).bind fun o1 =>
  match o1 with
  | .inl o1_0 =>
    some o1_0
  | .inr (o1_1) =>
    some (decide (((a0.length : Nat) : Int) <= 20))
set_option maxRecDepth 100000 in
theorem fd_83 : cfg.funcs 83 = some (bodyOf Tryd.f83, Tryd.f83.ntmps, Tryd.f83.results.toList) := fn_of Tryd.func83 (by kernel_rfl) (by kernel_rfl)
theorem g_impl_isText (n : Nat) (a0 : (List UInt8)) (r : Bool) (h : T_impl_isText n a0 = some r) : (mach cfg).call 83 [] [.val false [.seq (eL e_u8 a0)]] = some (.val false [.bool r], []) := by
  unfold T_impl_isText at h
  obtain ⟨o1, ho1, h⟩ := bs h
  let p52 : List (Q cfg) := [.le e_u8 a0, .lp (gl_impl_isText_l0 a0 ((a0.length : Nat) : Int) _ 0 _ ho1)]
  rcases o1 with o1_0 | o1_1
  · try dsimp only at h
    obtain rfl := Option.some.inj h
    exact call_wQ p52 rfl fd_83 (by kernel_rfl)
  · try dsimp only at h
    obtain rfl := Option.some.inj h
    exact call_wQ (p52 ++ [.le e_u8 a0, .gD ((a0.length : Nat) : Int) 20]) rfl fd_83 (by kernel_rfl)
theorem impl_isText_loop {a : List UInt8} (ha : a.length <= 2 ^ 20) : ∀ (d i m : Nat), i + d = a.length → d < m → ∃ z, L_impl_isText_l0 a (a.length : Int) m (i : Int) = some (if (a.drop i).all (inB 32 126) = true then .inr z else .inl false) := by
  intro d
  induction d with
  | zero =>
    intro i m hi hm
    obtain ⟨m, rfl, _⟩ := fuel hm
    exact ⟨_, by rw [L_impl_isText_l0, if_neg (by omega), List.drop_eq_nil_of_le (by omega)]; rfl⟩
  | succ d ih =>
    intro i m hi hm
    obtain ⟨m, rfl, hm'⟩ := fuel hm
    have hil : i < a.length := by omega
    rw [L_impl_isText_l0, if_pos (by omega), natO_nat, Option.bind_some, get_some hil, Option.bind_some, w64_succ (by omega), drop_cons hil, List.all_cons]
    by_cases h1 : ((a[i].toNat : Nat) : Int) < 32
    · exact ⟨0, by rw [if_pos h1, if_neg]; simp [inB]; omega⟩
    · rw [if_neg h1]
      by_cases h2 : (126 : Int) < ((a[i].toNat : Nat) : Int)
      · exact ⟨0, by rw [if_pos h2, if_neg]; simp [inB]; omega⟩
      · rw [if_neg h2, show inB 32 126 a[i] = true by simp [inB]; omega, Bool.true_and]
        exact ih (i + 1) m (by omega) (by omega)
def S_impl_isText (a0 : (List UInt8)) : Option Bool := if a0.length <= 2 ^ 20 then some (textB a0) else none
theorem spec_impl_isText (a0 : (List UInt8)) (r : Bool) (h : S_impl_isText a0 = some r) : ∃ n, T_impl_isText n a0 = some r := by
  unfold S_impl_isText at h
  obtain ⟨ha, h⟩ := need_c h
  refine ⟨a0.length + 1, ?_⟩
  obtain ⟨z, hz⟩ := impl_isText_loop ha a0.length 0 (a0.length + 1) (by omega) (by omega)
  rw [show ((0 : Nat) : Int) = 0 from rfl, List.drop_zero] at hz
  unfold T_impl_isText
  rw [<- h, hz]
  unfold textB
  by_cases hl : a0.length <= 20
  · rw [decide_eq_true hl]
    cases a0.all (inB 32 126)
    · rfl
    · show some (decide _) = _; rw [decide_eq_true (by omega)]; rfl
  · rw [decide_eq_false hl]
    cases a0.all (inB 32 126)
    · rfl
    · show some (decide _) = _; rw [decide_eq_false (by omega)]; rfl
theorem ok_impl_isText (a0 : (List UInt8)) (r : Bool) (h : S_impl_isText a0 = some r) : (mach cfg).call 83 [] [.val false [.seq (eL e_u8 a0)]] = some (.val false [.bool r], []) := by
  obtain ⟨n, hn⟩ := spec_impl_isText a0 r h
  exact g_impl_isText n a0 r hn
def S_bytes_Compare (a0 : (List UInt8)) (a1 : (List UInt8)) : Option Int :=
  (S_internal_bytealg_Compare a0 a1).bind fun r1 =>
  some r1
set_option maxRecDepth 100000 in
theorem fd_49 : cfg.funcs 49 = some (bodyOf Tryd.f49, Tryd.f49.ntmps, Tryd.f49.results.toList) := fn_of Tryd.func49 (by kernel_rfl) (by kernel_rfl)
theorem ok_bytes_Compare (a0 : (List UInt8)) (a1 : (List UInt8)) (r : Int) (h : S_bytes_Compare a0 a1 = some r) : (mach cfg).call 49 [] [.val false [.seq (eL e_u8 a0)], .val false [.seq (eL e_u8 a1)]] = some (.val false [.int .i64 r], []) := by
  unfold S_bytes_Compare at h
  obtain ⟨r1, hr1, h⟩ := bs h
  obtain rfl := Option.some.inj h
  exact call_wQ [.cl (ok_internal_bytealg_Compare a0 a1 _ hr1)] rfl fd_49 (by kernel_rfl)
end
end Go.Am.Try
