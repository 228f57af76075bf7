/- The functions of the program in plain Lean, and that the machine answers as they do; conditions at each theorem. -/
import Derived.Test.YtegcaaobpbocfaaGreatDoorRP1
set_option linter.unusedVariables false
set_option linter.unusedSimpArgs false
namespace Go.Am.Try
open Go.Am Go.Proofs
set_option linter.unusedVariables false
set_option maxRecDepth 20000
set_option maxHeartbeats 2000000
noncomputable section
def L_laws_toByteS_l0 (a0 : (List UInt8)) : Nat → Int → (List UInt8) → Option (Int × (List UInt8))
  | 0, _, _ => none
  | m + 1, v1, v2 =>
    if v1 < ((a0.length : Nat) : Int) then
      (natO v1).bind fun i2 =>
      (a0[i2]?).bind fun x3 =>
      (v2[i2]?).bind fun x4 =>
      L_laws_toByteS_l0 a0 m (w64 (v1 + 1)) (v2.set i2 x3)
    else
      some (v1, v2)
theorem gl_laws_toByteS_l0 (a0 : (List UInt8)) (m : Nat) : ∀ (v1 : Int) (v2 : (List UInt8)) (o : (Int × (List UInt8))), L_laws_toByteS_l0 a0 m v1 v2 = some o → (mach cfg).loop 5 (loopB Tryz.f5 0) ⟨[(0, .val false [.seq (eL e_u8 a0)]), (3, .val false [.ref 0]), (4, .val false [.int .i64 v1])], [.obj 1 (eL e_u8 v2)], 0⟩ = some (match o with | ⟨o_0, o_1⟩ => (.exit 0, (⟨[(0, .val false [.seq (eL e_u8 a0)]), (3, .val false [.ref 0]), (4, .val false [.int .i64 o_0]), (11, .val false [.bool false])], [.obj 1 (eL e_u8 o_1)], 0⟩ : S))) := by
  induction m with
  | zero => intro v1 v2 o h; cases h
  | succ m ih =>
    intro v1 v2 o h
    rw [L_laws_toByteS_l0] at h
    rcases ite_some h with ⟨c1, h⟩ | ⟨c1, h⟩
    ·obtain ⟨i2, hi2, h⟩ := bs h
     obtain ⟨x3, hx3, h⟩ := bs h
     obtain ⟨x4, hx4, h⟩ := bs h
     exact loop_nQ [.le e_u8 a0, .lT c1, .na hi2, .ix0 e_u8 hx3, .na hi2, .ix0 e_u8 hx4, .ix0 e_u8 hx4, ⟨.setL (eL e_u8 v2) i2 [.int .u8 ((x3.toNat : Nat) : Int)], .l (eL e_u8 (v2.set i2 x3)), (A.setL rfl)⟩, .ad v1 1] (by kernel_rfl) (ih (w64 (v1 + 1)) (v2.set i2 x3) o h)
    ·obtain rfl := Option.some.inj h
     exact loop_eQ [.le e_u8 a0, .lF c1] (by kernel_rfl) (by intro h; cases h)
def T_laws_toByteS (n : Nat) (a0 : (List UInt8)) : Option (List UInt8) :=
  (madeO 1 ((a0.length : Nat) : Int)).bind fun k1 =>
  (L_laws_toByteS_l0 a0 n 0 (List.replicate k1 0)).bind fun ⟨o2_0, o2_1⟩ =>
  some o2_1
set_option maxRecDepth 100000 in
theorem fd_5 : cfg.funcs 5 = some (bodyOf Tryz.f5, Tryz.f5.ntmps, Tryz.f5.results.toList) := fn_of Tryz.func5 (by kernel_rfl) (by kernel_rfl)
theorem g_laws_toByteS (n : Nat) (a0 : (List UInt8)) (r : (List UInt8)) (h : T_laws_toByteS n a0 = some r) : (mach cfg).call 5 [] [.val false [.seq (eL e_u8 a0)]] = some (.val false [.own 1 (eL e_u8 r)], []) := by
  unfold T_laws_toByteS at h
  obtain ⟨k1, hk1, h⟩ := bs h
  obtain ⟨⟨o2_0, o2_1⟩, ho2, h⟩ := bs h
  try dsimp only at h
  obtain rfl := Option.some.inj h
  exact call_wQ [.le e_u8 a0, .eTo ((a0.length : Nat) : Int) ((a0.length : Nat) : Int) rfl, ⟨.made 1 ((a0.length : Nat) : Int), .n k1, (A.made hk1)⟩, ⟨.rep k1 [.int .u8 0], .l (eL e_u8 (List.replicate k1 0)), (A.rep rfl)⟩, .lp (gl_laws_toByteS_l0 a0 _ 0 (List.replicate k1 0) _ ho2)] rfl fd_5 (by kernel_rfl)
theorem toByteS_loop {a : List UInt8} (ha : a.length <= 2 ^ 20) : ∀ (d i m : Nat) (v : List UInt8), i + d = a.length → d < m → Pre a v i → ∃ z, L_laws_toByteS_l0 a m (i : Int) v = some (z, a) := by
  intro d
  induction d with
  | zero =>
    intro i m v hi hm hp
    obtain ⟨m, rfl, _⟩ := fuel hm
    exact ⟨_, by rw [L_laws_toByteS_l0, if_neg (by omega), hp.done (by omega)]⟩
  | succ d ih =>
    intro i m v hi hm hp
    obtain ⟨m, rfl, hm'⟩ := fuel hm
    have hil : i < a.length := by omega
    rw [L_laws_toByteS_l0, if_pos (by omega), natO_nat, Option.bind_some, get_some hil, Option.bind_some, get_some (by rw [hp.1]; exact hil), Option.bind_some, w64_succ (by omega)]
    exact ih (i + 1) m _ (by omega) (by omega) (hp.step hil)
def S_laws_toByteS (a0 : (List UInt8)) : Option (List UInt8) := if a0.length <= 2 ^ 20 then some a0 else none
theorem spec_laws_toByteS (a0 : (List UInt8)) (r : (List UInt8)) (h : S_laws_toByteS a0 = some r) : ∃ n, T_laws_toByteS n a0 = some r := by
  unfold S_laws_toByteS at h
  obtain ⟨ha, h⟩ := need_c h
  refine ⟨a0.length + 1, ?_⟩
  obtain ⟨z, hz⟩ := toByteS_loop ha a0.length 0 (a0.length + 1) (List.replicate a0.length 0) (by omega) (by omega) (Pre.start (by simp))
  unfold T_laws_toByteS
  rw [made_ok ha (by decide), Option.bind_some, show (0 : Int) = ((0 : Nat) : Int) from rfl, hz]
  exact h
theorem ok_laws_toByteS (a0 : (List UInt8)) (r : (List UInt8)) (h : S_laws_toByteS a0 = some r) : (mach cfg).call 5 [] [.val false [.seq (eL e_u8 a0)]] = some (.val false [.own 1 (eL e_u8 r)], []) := by
  obtain ⟨n, hn⟩ := spec_laws_toByteS a0 r h
  exact g_laws_toByteS n a0 r hn
def L_spec_GetNum_l0 (a0 : (List UInt8)) (a1 : Int) : Nat → Int → Int → Int → Option ((Int × Int) ⊕ (Int × Int × Int))
  | 0, _, _, _ => none
  | m + 1, v2, v3, v4 =>
    if v4 < 5 then
      if v4 < (w64 (((a0.length : Nat) : Int) - a1)) then
        (natO (w64 (a1 + v4))).bind fun i3 =>
        (a0[i3]?).bind fun x4 =>
        if ((x4.toNat : Nat) : Int) < 128 then
          if ((x4.toNat : Nat) : Int) = 0 then
            if 0 < v4 then
              some (.inl (0, (-1)))
            else
              if 2147483647 < (w64 (v2 + (w64 ((((x4.toNat : Nat) : Int).tmod 128) * v3)))) then
                some (.inl (0, (-1)))
              else
                some (.inl ((w64 (v2 + (w64 ((((x4.toNat : Nat) : Int).tmod 128) * v3)))), (w64 ((w64 (a1 + v4)) + 1))))
          else
            if 2147483647 < (w64 (v2 + (w64 ((((x4.toNat : Nat) : Int).tmod 128) * v3)))) then
              some (.inl (0, (-1)))
            else
              some (.inl ((w64 (v2 + (w64 ((((x4.toNat : Nat) : Int).tmod 128) * v3)))), (w64 ((w64 (a1 + v4)) + 1))))
        else
          L_spec_GetNum_l0 a0 a1 m (w64 (v2 + (w64 ((((x4.toNat : Nat) : Int).tmod 128) * v3)))) (w64 (v3 * 128)) (w64 (v4 + 1))
      else
        some (.inr (v2, v3, v4))
    else
      some (.inr (v2, v3, v4))
theorem gl_spec_GetNum_l0 (a0 : (List UInt8)) (a1 : Int) (m : Nat) : ∀ (v2 : Int) (v3 : Int) (v4 : Int) (o : ((Int × Int) ⊕ (Int × Int × Int))), L_spec_GetNum_l0 a0 a1 m v2 v3 v4 = some o → (mach cfg).loop 25 (loopB Tryz.f25 0) ⟨[(0, .val false [.seq (eL e_u8 a0)]), (1, .val false [.int .i64 a1]), (6, .val false [.int .i64 v2]), (7, .val false [.int .i64 v3]), (8, .val false [.int .i64 v4])], [], 0⟩ = some (match o with | .inl ⟨o_0_0, o_0_1⟩ => (.ret, (⟨[(4, .val false [.int .i64 o_0_0]), (5, .val false [.int .i64 o_0_1])], [], 0⟩ : S)) | .inr (⟨o_1_0, o_1_1, o_1_2⟩) => (.exit 0, (⟨[(0, .val false [.seq (eL e_u8 a0)]), (1, .val false [.int .i64 a1]), (6, .val false [.int .i64 o_1_0]), (7, .val false [.int .i64 o_1_1]), (8, .val false [.int .i64 o_1_2]), (21, .val false [.bool false])], [], 0⟩ : S))) := by
  induction m with
  | zero => intro v2 v3 v4 o h; cases h
  | succ m ih =>
    intro v2 v3 v4 o h
    rw [L_spec_GetNum_l0] at h
    rcases ite_some h with ⟨c1, h⟩ | ⟨c1, h⟩
    ·rcases ite_some h with ⟨c2, h⟩ | ⟨c2, h⟩
     ·obtain ⟨i3, hi3, h⟩ := bs h
      obtain ⟨x4, hx4, h⟩ := bs h
      let p1 : List (Q cfg) := [.lT c1, .le e_u8 a0]
      rcases ite_some h with ⟨c5, h⟩ | ⟨c5, h⟩
      ·rcases ite_some h with ⟨c6, h⟩ | ⟨c6, h⟩
       ·rcases ite_some h with ⟨c7, h⟩ | ⟨c7, h⟩
        ·obtain rfl := Option.some.inj h
         exact loop_eQ (p1 ++ [.su ((a0.length : Nat) : Int) a1, .lT c2, .ad a1 v4, .na hi3, .ix0 e_u8 hx4, ⟨.conv .i64 ((x4.toNat : Nat) : Int), .i ((x4.toNat : Nat) : Int), A.conv_u8⟩, ⟨.nz 128, .b true, rfl⟩, ⟨.rem ((x4.toNat : Nat) : Int) 128, .i (((x4.toNat : Nat) : Int).tmod 128), rfl⟩, ⟨.mul .i64 (((x4.toNat : Nat) : Int).tmod 128) v3, .i (w64 ((((x4.toNat : Nat) : Int).tmod 128) * v3)), rfl⟩, .ad v2 (w64 ((((x4.toNat : Nat) : Int).tmod 128) * v3)), ⟨.mul .i64 v3 128, .i (w64 (v3 * 128)), rfl⟩, .lT c5, .eT c6, .lT c7]) (by kernel_rfl) (by intro h; cases h)
        ·rcases ite_some h with ⟨c8, h⟩ | ⟨c8, h⟩
         ·obtain rfl := Option.some.inj h
          exact loop_eQ (p1 ++ [.su ((a0.length : Nat) : Int) a1, .lT c2, .ad a1 v4, .na hi3, .ix0 e_u8 hx4, ⟨.conv .i64 ((x4.toNat : Nat) : Int), .i ((x4.toNat : Nat) : Int), A.conv_u8⟩, ⟨.nz 128, .b true, rfl⟩, ⟨.rem ((x4.toNat : Nat) : Int) 128, .i (((x4.toNat : Nat) : Int).tmod 128), rfl⟩, ⟨.mul .i64 (((x4.toNat : Nat) : Int).tmod 128) v3, .i (w64 ((((x4.toNat : Nat) : Int).tmod 128) * v3)), rfl⟩, .ad v2 (w64 ((((x4.toNat : Nat) : Int).tmod 128) * v3)), ⟨.mul .i64 v3 128, .i (w64 (v3 * 128)), rfl⟩, .lT c5, .eT c6, .lF c7, .lT c8]) (by kernel_rfl) (by intro h; cases h)
         ·obtain rfl := Option.some.inj h
          exact loop_eQ (p1 ++ [.su ((a0.length : Nat) : Int) a1, .lT c2, .ad a1 v4, .na hi3, .ix0 e_u8 hx4, ⟨.conv .i64 ((x4.toNat : Nat) : Int), .i ((x4.toNat : Nat) : Int), A.conv_u8⟩, ⟨.nz 128, .b true, rfl⟩, ⟨.rem ((x4.toNat : Nat) : Int) 128, .i (((x4.toNat : Nat) : Int).tmod 128), rfl⟩, ⟨.mul .i64 (((x4.toNat : Nat) : Int).tmod 128) v3, .i (w64 ((((x4.toNat : Nat) : Int).tmod 128) * v3)), rfl⟩, .ad v2 (w64 ((((x4.toNat : Nat) : Int).tmod 128) * v3)), ⟨.mul .i64 v3 128, .i (w64 (v3 * 128)), rfl⟩, .lT c5, .eT c6, .lF c7, .lF c8, .ad a1 v4, .ad (w64 (a1 + v4)) 1]) (by kernel_rfl) (by intro h; cases h)
       ·rcases ite_some h with ⟨c7, h⟩ | ⟨c7, h⟩
        ·obtain rfl := Option.some.inj h
         exact loop_eQ (p1 ++ [.su ((a0.length : Nat) : Int) a1, .lT c2, .ad a1 v4, .na hi3, .ix0 e_u8 hx4, ⟨.conv .i64 ((x4.toNat : Nat) : Int), .i ((x4.toNat : Nat) : Int), A.conv_u8⟩, ⟨.nz 128, .b true, rfl⟩, ⟨.rem ((x4.toNat : Nat) : Int) 128, .i (((x4.toNat : Nat) : Int).tmod 128), rfl⟩, ⟨.mul .i64 (((x4.toNat : Nat) : Int).tmod 128) v3, .i (w64 ((((x4.toNat : Nat) : Int).tmod 128) * v3)), rfl⟩, .ad v2 (w64 ((((x4.toNat : Nat) : Int).tmod 128) * v3)), ⟨.mul .i64 v3 128, .i (w64 (v3 * 128)), rfl⟩, .lT c5, .eF c6, .lT c7]) (by kernel_rfl) (by intro h; cases h)
        ·obtain rfl := Option.some.inj h
         exact loop_eQ (p1 ++ [.su ((a0.length : Nat) : Int) a1, .lT c2, .ad a1 v4, .na hi3, .ix0 e_u8 hx4, ⟨.conv .i64 ((x4.toNat : Nat) : Int), .i ((x4.toNat : Nat) : Int), A.conv_u8⟩, ⟨.nz 128, .b true, rfl⟩, ⟨.rem ((x4.toNat : Nat) : Int) 128, .i (((x4.toNat : Nat) : Int).tmod 128), rfl⟩, ⟨.mul .i64 (((x4.toNat : Nat) : Int).tmod 128) v3, .i (w64 ((((x4.toNat : Nat) : Int).tmod 128) * v3)), rfl⟩, .ad v2 (w64 ((((x4.toNat : Nat) : Int).tmod 128) * v3)), ⟨.mul .i64 v3 128, .i (w64 (v3 * 128)), rfl⟩, .lT c5, .eF c6, .lF c7, .ad a1 v4, .ad (w64 (a1 + v4)) 1]) (by kernel_rfl) (by intro h; cases h)
      ·exact loop_nQ (p1 ++ [.su ((a0.length : Nat) : Int) a1, .lT c2, .ad a1 v4, .na hi3, .ix0 e_u8 hx4, ⟨.conv .i64 ((x4.toNat : Nat) : Int), .i ((x4.toNat : Nat) : Int), A.conv_u8⟩, ⟨.nz 128, .b true, rfl⟩, ⟨.rem ((x4.toNat : Nat) : Int) 128, .i (((x4.toNat : Nat) : Int).tmod 128), rfl⟩, ⟨.mul .i64 (((x4.toNat : Nat) : Int).tmod 128) v3, .i (w64 ((((x4.toNat : Nat) : Int).tmod 128) * v3)), rfl⟩, .ad v2 (w64 ((((x4.toNat : Nat) : Int).tmod 128) * v3)), ⟨.mul .i64 v3 128, .i (w64 (v3 * 128)), rfl⟩, .lF c5, .ad v4 1]) (by kernel_rfl) (ih (w64 (v2 + (w64 ((((x4.toNat : Nat) : Int).tmod 128) * v3)))) (w64 (v3 * 128)) (w64 (v4 + 1)) o h)
     ·obtain rfl := Option.some.inj h
      exact loop_eQ [.lT c1, .le e_u8 a0, .su ((a0.length : Nat) : Int) a1, .lF c2] (by kernel_rfl) (by intro h; cases h)
    ·obtain rfl := Option.some.inj h
     exact loop_eQ [.lF c1] (by kernel_rfl) (by intro h; cases h)
def T_spec_GetNum (n : Nat) (a0 : (List UInt8)) (a1 : Int) : Option (Int × Int) :=
  if a1 < 0 then
    some (0, (-1))
  else
    (L_spec_GetNum_l0 a0 a1 n 0 1 0).bind fun o2 =>
    match o2 with
    | .inl ⟨o2_0_0, o2_0_1⟩ =>
      some (o2_0_0, o2_0_1)
    | .inr (⟨o2_1_0, o2_1_1, o2_1_2⟩) =>
      some (0, (-1))
set_option maxRecDepth 100000 in
theorem fd_25 : cfg.funcs 25 = some (bodyOf Tryz.f25, Tryz.f25.ntmps, Tryz.f25.results.toList) := fn_of Tryz.func25 (by kernel_rfl) (by kernel_rfl)
theorem g_spec_GetNum (n : Nat) (a0 : (List UInt8)) (a1 : Int) (r : (Int × Int)) (h : T_spec_GetNum n a0 a1 = some r) : (mach cfg).call 25 [] [.val false [.seq (eL e_u8 a0)], .val false [.int .i64 a1]] = some (.tup [(false, [.int .i64 r.1]), (false, [.int .i64 r.2])], []) := by
  unfold T_spec_GetNum at h
  rcases ite_some h with ⟨c1, h⟩ | ⟨c1, h⟩
  ·obtain rfl := Option.some.inj h
   exact call_wQ [.lT c1] rfl fd_25 (by kernel_rfl)
  ·obtain ⟨o2, ho2, h⟩ := bs h
   rcases o2 with ⟨o2_0_0, o2_0_1⟩ | ⟨o2_1_0, o2_1_1, o2_1_2⟩
   · try dsimp only at h
     obtain rfl := Option.some.inj h
     exact call_wQ [.lF c1, .lp (gl_spec_GetNum_l0 a0 a1 _ 0 1 0 _ ho2)] rfl fd_25 (by kernel_rfl)
   · try dsimp only at h
     obtain rfl := Option.some.inj h
     exact call_wQ [.lF c1, .lp (gl_spec_GetNum_l0 a0 a1 _ 0 1 0 _ ho2)] rfl fd_25 (by kernel_rfl)
def S_spec_GetNum (a0 : (List UInt8)) (a1 : Int) : Option (Int × Int) := T_spec_GetNum 10 a0 a1
theorem spec_spec_GetNum (a0 : (List UInt8)) (a1 : Int) (r : (Int × Int)) (h : S_spec_GetNum a0 a1 = some r) : ∃ n, T_spec_GetNum n a0 a1 = some r := ⟨_, h⟩
theorem ok_spec_GetNum (a0 : (List UInt8)) (a1 : Int) (r : (Int × Int)) (h : S_spec_GetNum a0 a1 = some r) : (mach cfg).call 25 [] [.val false [.seq (eL e_u8 a0)], .val false [.int .i64 a1]] = some (.tup [(false, [.int .i64 r.1]), (false, [.int .i64 r.2])], []) := by
  obtain ⟨n, hn⟩ := spec_spec_GetNum a0 a1 r h
  exact g_spec_GetNum n a0 a1 r hn
def S_spec_l2get (e0 : GL2cur) : Option (Int × GL2cur) :=
  if e0.at_ < 0 then
    some (0, e0)
  else
    (S_spec_GetNum e0.b e0.at_).bind fun ⟨r2_0, r2_1⟩ =>
    some (r2_0, (GL2cur.mk e0.b r2_1 e0.left))
set_option maxRecDepth 100000 in
theorem fd_12 : cfg.funcs 12 = some (bodyOf Tryz.f12, Tryz.f12.ntmps, Tryz.f12.results.toList) := fn_of Tryz.func12 (by kernel_rfl) (by kernel_rfl)
theorem ok_spec_l2get (e0 : GL2cur) (r : (Int × GL2cur)) (h : S_spec_l2get e0 = some r) : (mach cfg).call 12 [.var [.seq (eL e_u8 e0.b), .int .i64 e0.at_, .int .i64 e0.left]] [.val false [.ptr 0 0]] = some (.val false [.int .i64 r.1], [.var [.seq (eL e_u8 r.2.b), .int .i64 r.2.at_, .int .i64 r.2.left]]) := by
  unfold S_spec_l2get at h
  rcases ite_some h with ⟨c1, h⟩ | ⟨c1, h⟩
  ·obtain rfl := Option.some.inj h
   exact call_wQ [.lT c1] rfl fd_12 (by kernel_rfl)
  ·obtain ⟨⟨r2_0, r2_1⟩, hr2, h⟩ := bs h
   try dsimp only at h
   obtain rfl := Option.some.inj h
   exact call_wQ [.lF c1, .cl (ok_spec_GetNum e0.b e0.at_ _ hr2)] rfl fd_12 (by kernel_rfl)
def S_spec_GetText (a0 : (List UInt8)) (a1 : Int) : Option ((List UInt8) × Int) :=
  (S_spec_GetNum a0 a1).bind fun ⟨r1_0, r1_1⟩ =>
  if r1_1 < 0 then
    some ([], (-1))
  else
    if 20 < r1_0 then
      some ([], (-1))
    else
      if (w64 (((a0.length : Nat) : Int) - r1_1)) < r1_0 then
        some ([], (-1))
      else
        (natO r1_1).bind fun i5 =>
        (natO (w64 (r1_1 + r1_0))).bind fun i6 =>
        (cutO a0 (some i5) (some i6)).bind fun s7 =>
        if roomP 1 (0 + s7.length) then
        some (s7, (w64 (r1_1 + r1_0)))
        else none
set_option maxRecDepth 100000 in
theorem fd_26 : cfg.funcs 26 = some (bodyOf Tryz.f26, Tryz.f26.ntmps, Tryz.f26.results.toList) := fn_of Tryz.func26 (by kernel_rfl) (by kernel_rfl)
theorem ok_spec_GetText (a0 : (List UInt8)) (a1 : Int) (r : ((List UInt8) × Int)) (h : S_spec_GetText a0 a1 = some r) : (mach cfg).call 26 [] [.val false [.seq (eL e_u8 a0)], .val false [.int .i64 a1]] = some (.tup [(false, [.own 1 (eL e_u8 r.1)]), (false, [.int .i64 r.2])], []) := by
  unfold S_spec_GetText at h
  obtain ⟨⟨r1_0, r1_1⟩, hr1, h⟩ := bs h
  try dsimp only at h
  rcases ite_some h with ⟨c2, h⟩ | ⟨c2, h⟩
  ·obtain rfl := Option.some.inj h
   exact call_wQ [.cl (ok_spec_GetNum a0 a1 _ hr1), .lT c2] rfl fd_26 (by kernel_rfl)
  ·rcases ite_some h with ⟨c3, h⟩ | ⟨c3, h⟩
   ·obtain rfl := Option.some.inj h
    exact call_wQ [.cl (ok_spec_GetNum a0 a1 _ hr1), .lF c2, .lT c3] rfl fd_26 (by kernel_rfl)
   ·rcases ite_some h with ⟨c4, h⟩ | ⟨c4, h⟩
    ·obtain rfl := Option.some.inj h
     exact call_wQ [.cl (ok_spec_GetNum a0 a1 _ hr1), .lF c2, .lF c3, .le e_u8 a0, .su ((a0.length : Nat) : Int) r1_1, .lT c4] rfl fd_26 (by kernel_rfl)
    ·obtain ⟨i5, hi5, h⟩ := bs h
     obtain ⟨i6, hi6, h⟩ := bs h
     obtain ⟨s7, hs7, h⟩ := bs h
     obtain ⟨n8, h⟩ := need_some h
     obtain rfl := Option.some.inj h
     exact call_wQ [.cl (ok_spec_GetNum a0 a1 _ hr1), .lF c2, .lF c3, .le e_u8 a0, .su ((a0.length : Nat) : Int) r1_1, .lF c4, .ad r1_1 r1_0, .na hi5, .na hi6, ⟨.cut (eL e_u8 a0) (some i5) (some i6), .l (eL e_u8 s7), (A.cut hs7)⟩, ⟨.uni 1 (eL e_u8 a0), .b true, (A.uni E_u8)⟩, ⟨.room 1 (eL e_u8 []) (eL e_u8 s7), .b true, (A.room n8)⟩, ⟨.uni 1 (eL e_u8 s7), .b true, (A.uni E_u8)⟩, ⟨.app (eL e_u8 []) (eL e_u8 s7), .l (eL e_u8 s7), A.app0⟩, .ad r1_1 r1_0] rfl fd_26 (by kernel_rfl)
def S_spec_l2getText (e0 : GL2cur) : Option ((List UInt8) × GL2cur) :=
  if e0.at_ < 0 then
    some ([], e0)
  else
    (S_spec_GetText e0.b e0.at_).bind fun ⟨r2_0, r2_1⟩ =>
    some (r2_0, (GL2cur.mk e0.b r2_1 e0.left))
set_option maxRecDepth 100000 in
theorem fd_13 : cfg.funcs 13 = some (bodyOf Tryz.f13, Tryz.f13.ntmps, Tryz.f13.results.toList) := fn_of Tryz.func13 (by kernel_rfl) (by kernel_rfl)
theorem ok_spec_l2getText (e0 : GL2cur) (r : ((List UInt8) × GL2cur)) (h : S_spec_l2getText e0 = some r) : (mach cfg).call 13 [.var [.seq (eL e_u8 e0.b), .int .i64 e0.at_, .int .i64 e0.left]] [.val false [.ptr 0 0]] = some (.val false [.own 1 (eL e_u8 r.1)], [.var [.seq (eL e_u8 r.2.b), .int .i64 r.2.at_, .int .i64 r.2.left]]) := by
  unfold S_spec_l2getText at h
  rcases ite_some h with ⟨c1, h⟩ | ⟨c1, h⟩
  ·obtain rfl := Option.some.inj h
   exact call_wQ [.lT c1] rfl fd_13 (by kernel_rfl)
  ·obtain ⟨⟨r2_0, r2_1⟩, hr2, h⟩ := bs h
   try dsimp only at h
   obtain rfl := Option.some.inj h
   exact call_wQ [.lF c1, .cl (ok_spec_GetText e0.b e0.at_ _ hr2)] rfl fd_13 (by kernel_rfl)
def L_spec_NameOk_l0 (a0 : (List UInt8)) : Nat → Int → Option (Bool ⊕ Int)
  | 0, _ => none
  | m + 1, v1 =>
    if v1 < ((a0.length : Nat) : Int) then
      (natO v1).bind fun i2 =>
      (a0[i2]?).bind fun x3 =>
      if ((x3.toNat : Nat) : Int) < 97 then
        some (.inl false)
      else
        if 122 < ((x3.toNat : Nat) : Int) then
          some (.inl false)
        else
          L_spec_NameOk_l0 a0 m (w64 (v1 + 1))
    else
      some (.inr v1)
theorem gl_spec_NameOk_l0 (a0 : (List UInt8)) (m : Nat) : ∀ (v1 : Int) (o : (Bool ⊕ Int)), L_spec_NameOk_l0 a0 m v1 = some o → (mach cfg).loop 57 (loopB Tryz.f57 0) ⟨[(0, .val false [.seq (eL e_u8 a0)]), (3, .val false [.int .i64 v1])], [], 0⟩ = some (match o with | .inl o_0 => (.ret, (⟨[(2, .val false [.bool o_0])], [], 0⟩ : S)) | .inr (o_1) => (.exit 0, (⟨[(0, .val false [.seq (eL e_u8 a0)]), (3, .val false [.int .i64 o_1]), (15, .val false [.bool false])], [], 0⟩ : S))) := by
  induction m with
  | zero => intro v1 o h; cases h
  | succ m ih =>
    intro v1 o h
    rw [L_spec_NameOk_l0] at h
    rcases ite_some h with ⟨c1, h⟩ | ⟨c1, h⟩
    ·obtain ⟨i2, hi2, h⟩ := bs h
     obtain ⟨x3, hx3, h⟩ := bs h
     let p2 : List (Q cfg) := [.le e_u8 a0, .lT c1, .na hi2, .ix0 e_u8 hx3]
     rcases ite_some h with ⟨c4, h⟩ | ⟨c4, h⟩
     ·obtain rfl := Option.some.inj h
      exact loop_eQ (p2 ++ [.lT c4]) (by kernel_rfl) (by intro h; cases h)
     ·rcases ite_some h with ⟨c5, h⟩ | ⟨c5, h⟩
      ·obtain rfl := Option.some.inj h
       exact loop_eQ (p2 ++ [.lF c4, .na hi2, .ix0 e_u8 hx3, .lT c5]) (by kernel_rfl) (by intro h; cases h)
      ·exact loop_nQ (p2 ++ [.lF c4, .na hi2, .ix0 e_u8 hx3, .lF c5, .ad v1 1]) (by kernel_rfl) (ih (w64 (v1 + 1)) o h)
    ·obtain rfl := Option.some.inj h
     exact loop_eQ [.le e_u8 a0, .lF c1] (by kernel_rfl) (by intro h; cases h)
def T_spec_NameOk (n : Nat) (a0 : (List UInt8)) : Option Bool :=
  if ((a0.length : Nat) : Int) < 1 then
    some false
  else
    if 8 < ((a0.length : Nat) : Int) then
      some false
    else
      (L_spec_NameOk_l0 a0 n 0).bind fun o3 =>
      match o3 with
      | .inl o3_0 =>
        some o3_0
      | .inr (o3_1) =>
        some true
set_option maxRecDepth 100000 in
theorem fd_57 : cfg.funcs 57 = some (bodyOf Tryz.f57, Tryz.f57.ntmps, Tryz.f57.results.toList) := fn_of Tryz.func57 (by kernel_rfl) (by kernel_rfl)
theorem g_spec_NameOk (n : Nat) (a0 : (List UInt8)) (r : Bool) (h : T_spec_NameOk n a0 = some r) : (mach cfg).call 57 [] [.val false [.seq (eL e_u8 a0)]] = some (.val false [.bool r], []) := by
  unfold T_spec_NameOk at h
  rcases ite_some h with ⟨c1, h⟩ | ⟨c1, h⟩
  ·obtain rfl := Option.some.inj h
   exact call_wQ [.le e_u8 a0, .lT c1] rfl fd_57 (by kernel_rfl)
  ·rcases ite_some h with ⟨c2, h⟩ | ⟨c2, h⟩
   ·obtain rfl := Option.some.inj h
    exact call_wQ [.le e_u8 a0, .lF c1, .le e_u8 a0, .lT c2] rfl fd_57 (by kernel_rfl)
   ·obtain ⟨o3, ho3, h⟩ := bs h
    let p3 : List (Q cfg) := [.le e_u8 a0, .lF c1, .le e_u8 a0, .lF c2, .lp (gl_spec_NameOk_l0 a0 _ 0 _ ho3)]
    rcases o3 with o3_0 | o3_1
    · try dsimp only at h
      obtain rfl := Option.some.inj h
      exact call_wQ p3 rfl fd_57 (by kernel_rfl)
    · try dsimp only at h
      obtain rfl := Option.some.inj h
      exact call_wQ p3 rfl fd_57 (by kernel_rfl)
theorem spec_NameOk_loop {a : List UInt8} (ha : a.length <= 2 ^ 20) : ∀ (d i m : Nat), i + d = a.length → d < m → ∃ z, L_spec_NameOk_l0 a m (i : Int) = some (if (a.drop i).all (inB 97 122) = true then .inr z else .inl false) := by
  intro d
  induction d with
  | zero =>
    intro i m hi hm
    obtain ⟨m, rfl, _⟩ := fuel hm
    exact ⟨_, by rw [L_spec_NameOk_l0, if_neg (by omega), List.drop_eq_nil_of_le (by omega)]; rfl⟩
  | succ d ih =>
    intro i m hi hm
    obtain ⟨m, rfl, hm'⟩ := fuel hm
    have hil : i < a.length := by omega
    rw [L_spec_NameOk_l0, if_pos (by omega), natO_nat, Option.bind_some, get_some hil, Option.bind_some, w64_succ (by omega), drop_cons hil, List.all_cons]
    by_cases h1 : ((a[i].toNat : Nat) : Int) < 97
    · exact ⟨0, by rw [if_pos h1, if_neg]; simp [inB]; omega⟩
    · rw [if_neg h1]
      by_cases h2 : (122 : Int) < ((a[i].toNat : Nat) : Int)
      · exact ⟨0, by rw [if_pos h2, if_neg]; simp [inB]; omega⟩
      · rw [if_neg h2, show inB 97 122 a[i] = true by simp [inB]; omega, Bool.true_and]
        exact ih (i + 1) m (by omega) (by omega)
def S_spec_NameOk (a0 : (List UInt8)) : Option Bool := if a0.length <= 2 ^ 20 then some (nameB a0) else none
theorem spec_spec_NameOk (a0 : (List UInt8)) (r : Bool) (h : S_spec_NameOk a0 = some r) : ∃ n, T_spec_NameOk n a0 = some r := by
  unfold S_spec_NameOk at h
  obtain ⟨ha, h⟩ := need_c h
  refine ⟨a0.length + 1, ?_⟩
  obtain ⟨z, hz⟩ := spec_NameOk_loop ha a0.length 0 (a0.length + 1) (by omega) (by omega)
  rw [show ((0 : Nat) : Int) = 0 from rfl, List.drop_zero] at hz
  unfold T_spec_NameOk
  rw [<- h, hz]
  unfold nameB
  by_cases h1 : 1 <= a0.length
  · rw [if_neg (by omega)]
    by_cases hl : a0.length <= 8
    · rw [if_neg (by omega), decide_eq_true ⟨h1, hl⟩]
      cases a0.all (inB 97 122) <;> rfl
    · rw [if_pos (by omega), decide_eq_false (fun h => hl h.2)]; rfl
  · rw [if_pos (by omega), decide_eq_false (fun h => h1 h.1)]; rfl
theorem ok_spec_NameOk (a0 : (List UInt8)) (r : Bool) (h : S_spec_NameOk a0 = some r) : (mach cfg).call 57 [] [.val false [.seq (eL e_u8 a0)]] = some (.val false [.bool r], []) := by
  obtain ⟨n, hn⟩ := spec_spec_NameOk a0 r h
  exact g_spec_NameOk n a0 r hn
def L_spec_l4split_l0 (a0 : (List UInt8)) : Nat → Int → Option Int
  | 0, _ => none
  | m + 1, v1 =>
    if v1 < ((a0.length : Nat) : Int) then
      (natO v1).bind fun i2 =>
      (a0[i2]?).bind fun x3 =>
      if ((x3.toNat : Nat) : Int) = 91 then
        some v1
      else
        L_spec_l4split_l0 a0 m (w64 (v1 + 1))
    else
      some v1
theorem gl_spec_l4split_l0 (a0 : (List UInt8)) (m : Nat) : ∀ (v1 : Int) (o : Int), L_spec_l4split_l0 a0 m v1 = some o → (mach cfg).loop 44 (loopB Tryz.f44 0) ⟨[(0, .val false [.seq (eL e_u8 a0)]), (5, .val false [.int .i64 v1])], [], 0⟩ = some (match o with | o => (.exit 0, (⟨[(0, .val false [.seq (eL e_u8 a0)]), (5, .val false [.int .i64 o]), (20, .val false [.bool false])], [], 0⟩ : S))) := by
  induction m with
  | zero => intro v1 o h; cases h
  | succ m ih =>
    intro v1 o h
    rw [L_spec_l4split_l0] at h
    rcases ite_some h with ⟨c1, h⟩ | ⟨c1, h⟩
    ·obtain ⟨i2, hi2, h⟩ := bs h
     obtain ⟨x3, hx3, h⟩ := bs h
     rcases ite_some h with ⟨c4, h⟩ | ⟨c4, h⟩
     ·obtain rfl := Option.some.inj h
      exact loop_eQ [.le e_u8 a0, .lT c1, .na hi2, .ix0 e_u8 hx3, .eT c4, .nt true] (by kernel_rfl) (by intro h; cases h)
     ·exact loop_nQ [.le e_u8 a0, .lT c1, .na hi2, .ix0 e_u8 hx3, .eF c4, .nt false, .ad v1 1] (by kernel_rfl) (ih (w64 (v1 + 1)) o h)
    ·obtain rfl := Option.some.inj h
     exact loop_eQ [.le e_u8 a0, .lF c1] (by kernel_rfl) (by intro h; cases h)
def L_spec_l4split_l1 (a0 : (List UInt8)) (v1 : Int) (v2 : (List UInt8)) (v3 : (List UInt8)) : Nat → Int → Option ((Bool × (List UInt8)) ⊕ Int)
  | 0, _ => none
  | m + 1, v4 =>
    if v4 < ((v3.length : Nat) : Int) then
      (natO v4).bind fun i2 =>
      (v3[i2]?).bind fun x3 =>
      if ((x3.toNat : Nat) : Int) < 48 then
        some (.inl (false, []))
      else
        if 57 < ((x3.toNat : Nat) : Int) then
          some (.inl (false, []))
        else
          L_spec_l4split_l1 a0 v1 v2 v3 m (w64 (v4 + 1))
    else
      some (.inr v4)
theorem gl_spec_l4split_l1 (a0 : (List UInt8)) (v1 : Int) (v2 : (List UInt8)) (v3 : (List UInt8)) (m : Nat) : ∀ (v4 : Int) (o : ((Bool × (List UInt8)) ⊕ Int)), L_spec_l4split_l1 a0 v1 v2 v3 m v4 = some o → (mach cfg).loop 44 (loopB Tryz.f44 1) ⟨[(0, .val false [.seq (eL e_u8 a0)]), (5, .val false [.int .i64 v1]), (6, .val false [.seq (eL e_u8 v2)]), (8, .val false [.seq (eL e_u8 v3)]), (9, .val false [.int .i64 v4])], [], 0⟩ = some (match o with | .inl ⟨o_0_0, o_0_1⟩ => (.ret, (⟨[(2, .val false [.ref 0]), (3, .val false [.ref 1]), (4, .val false [.bool o_0_0])], [.obj 1 (eL e_u8 o_0_1), .obj 1 (eL e_u8 o_0_1)], 0⟩ : S)) | .inr (o_1) => (.exit 2, (⟨[(0, .val false [.seq (eL e_u8 a0)]), (5, .val false [.int .i64 v1]), (6, .val false [.seq (eL e_u8 v2)]), (8, .val false [.seq (eL e_u8 v3)]), (9, .val false [.int .i64 o_1]), (98, .val false [.bool false])], [], 0⟩ : S))) := by
  induction m with
  | zero => intro v4 o h; cases h
  | succ m ih =>
    intro v4 o h
    rw [L_spec_l4split_l1] at h
    rcases ite_some h with ⟨c1, h⟩ | ⟨c1, h⟩
    ·obtain ⟨i2, hi2, h⟩ := bs h
     obtain ⟨x3, hx3, h⟩ := bs h
     let p4 : List (Q cfg) := [.le e_u8 v3, .lT c1, .na hi2, .ix0 e_u8 hx3]
     rcases ite_some h with ⟨c4, h⟩ | ⟨c4, h⟩
     ·obtain rfl := Option.some.inj h
      exact loop_eQ (p4 ++ [.lT c4]) (by kernel_rfl) (by intro h; cases h)
     ·rcases ite_some h with ⟨c5, h⟩ | ⟨c5, h⟩
      ·obtain rfl := Option.some.inj h
       exact loop_eQ (p4 ++ [.lF c4, .na hi2, .ix0 e_u8 hx3, .lT c5]) (by kernel_rfl) (by intro h; cases h)
      ·exact loop_nQ (p4 ++ [.lF c4, .na hi2, .ix0 e_u8 hx3, .lF c5, .ad v4 1]) (by kernel_rfl) (ih (w64 (v4 + 1)) o h)
    ·obtain rfl := Option.some.inj h
     exact loop_eQ [.le e_u8 v3, .lF c1] (by kernel_rfl) (by intro h; cases h)
def T_spec_l4split (n : Nat) (a0 : (List UInt8)) : Option ((List UInt8) × (List UInt8) × Bool) :=
  (L_spec_l4split_l0 a0 n 0).bind fun o1 =>
  (natO o1).bind fun i2 =>
  (cutO a0 none (some i2)).bind fun s3 =>
  (S_spec_NameOk s3).bind fun r4 =>
  match r4 with
  | true =>
    (cutO a0 (some i2) none).bind fun s6 =>
    if ((s6.length : Nat) : Int) = 0 then
      some (a0, s6, true)
    else
      if ((s6.length : Nat) : Int) < 3 then
        some ([], [], false)
      else
        (natO (w64 (((s6.length : Nat) : Int) - 1))).bind fun i9 =>
        (s6[i9]?).bind fun x10 =>
        if ((x10.toNat : Nat) : Int) = 93 then
          (cutO s6 (some 1) (some i9)).bind fun s12 =>
          (s12[0]?).bind fun x13 =>
          if ((x13.toNat : Nat) : Int) = 34 then
            if ((s12.length : Nat) : Int) < 3 then
              some ([], [], false)
            else
              (natO (w64 (((s12.length : Nat) : Int) - 1))).bind fun i16 =>
              (s12[i16]?).bind fun x17 =>
              if ((x17.toNat : Nat) : Int) = 34 then
                (cutO s12 (some 1) (some i16)).bind fun s19 =>
                (S_spec_NameOk s19).bind fun r20 =>
                match r20 with
                | true =>
                  some (s3, s6, true)
                | false =>
                  some ([], [], false)
              else
                some ([], [], false)
          else
            if 2 < ((s12.length : Nat) : Int) then
              some ([], [], false)
            else
              if ((s12.length : Nat) : Int) = 2 then
                if ((x13.toNat : Nat) : Int) = 48 then
                  some ([], [], false)
                else
                  (L_spec_l4split_l1 a0 o1 s6 s12 n 0).bind fun o18 =>
                  match o18 with
                  | .inl ⟨o18_0_0, o18_0_1⟩ =>
                    some (o18_0_1, o18_0_1, o18_0_0)
                  | .inr (o18_1) =>
                    some (s3, s6, true)
              else
                (L_spec_l4split_l1 a0 o1 s6 s12 n 0).bind fun o17 =>
                match o17 with
                | .inl ⟨o17_0_0, o17_0_1⟩ =>
                  some (o17_0_1, o17_0_1, o17_0_0)
                | .inr (o17_1) =>
                  some (s3, s6, true)
        else
          some ([], [], false)
  | false =>
    some ([], [], false)
set_option maxRecDepth 100000 in
theorem fd_44 : cfg.funcs 44 = some (bodyOf Tryz.f44, Tryz.f44.ntmps, Tryz.f44.results.toList) := fn_of Tryz.func44 (by kernel_rfl) (by kernel_rfl)
theorem g_spec_l4split (n : Nat) (a0 : (List UInt8)) (r : ((List UInt8) × (List UInt8) × Bool)) (h : T_spec_l4split n a0 = some r) : (mach cfg).call 44 [] [.val false [.seq (eL e_u8 a0)]] = some (.tup [(false, [.seq (eL e_u8 r.1)]), (false, [.seq (eL e_u8 r.2.1)]), (false, [.bool r.2.2])], []) := by
  unfold T_spec_l4split at h
  obtain ⟨o1, ho1, h⟩ := bs h
  obtain ⟨i2, hi2, h⟩ := bs h
  obtain ⟨s3, hs3, h⟩ := bs h
  obtain ⟨r4, hr4, h⟩ := bs h
  cases r4 with
  | true =>
   try dsimp only at h
   obtain ⟨s6, hs6, h⟩ := bs h
   rcases ite_some h with ⟨c7, h⟩ | ⟨c7, h⟩
   ·obtain rfl := Option.some.inj h
    exact call_wQ [.lp (gl_spec_l4split_l0 a0 _ 0 _ ho1), .na hi2, ⟨.cut (eL e_u8 a0) none (some i2), .l (eL e_u8 s3), (A.cut hs3)⟩, ⟨.uni 1 (eL e_u8 a0), .b true, (A.uni E_u8)⟩, .cl (ok_spec_NameOk s3 _ hr4), .nt true, .na hi2, ⟨.cut (eL e_u8 a0) (some i2) none, .l (eL e_u8 s6), (A.cut hs6)⟩, ⟨.uni 1 (eL e_u8 a0), .b true, (A.uni E_u8)⟩, .le e_u8 s6, .eT c7] rfl fd_44 (by kernel_rfl)
   ·let p5 : List (Q cfg) := [.lp (gl_spec_l4split_l0 a0 _ 0 _ ho1), .na hi2, ⟨.cut (eL e_u8 a0) none (some i2), .l (eL e_u8 s3), (A.cut hs3)⟩, ⟨.uni 1 (eL e_u8 a0), .b true, (A.uni E_u8)⟩, .cl (ok_spec_NameOk s3 _ hr4), .nt true, .na hi2]
    rcases ite_some h with ⟨c8, h⟩ | ⟨c8, h⟩
    ·obtain rfl := Option.some.inj h
     exact (call_wQ (r := (.tup [(false, [.seq (viewL (eL e_u8 []))]), (false, [.seq (viewL (eL e_u8 []))]), (false, [.bool false])], [])) (p5 ++ [⟨.cut (eL e_u8 a0) (some i2) none, .l (eL e_u8 s6), (A.cut hs6)⟩, ⟨.uni 1 (eL e_u8 a0), .b true, (A.uni E_u8)⟩, .le e_u8 s6, .eF c7, .le e_u8 s6, .lT c8]) rfl fd_44 (by kernel_rfl)).trans (by simp only [viewL_eL E_u8] <;> rfl)
    ·obtain ⟨i9, hi9, h⟩ := bs h
     obtain ⟨x10, hx10, h⟩ := bs h
     let p6 : List (Q cfg) := p5 ++ [⟨.cut (eL e_u8 a0) (some i2) none, .l (eL e_u8 s6), (A.cut hs6)⟩, ⟨.uni 1 (eL e_u8 a0), .b true, (A.uni E_u8)⟩, .le e_u8 s6, .eF c7, .le e_u8 s6, .lF c8]
     rcases ite_some h with ⟨c11, h⟩ | ⟨c11, h⟩
     ·obtain ⟨s12, hs12, h⟩ := bs h
      obtain ⟨x13, hx13, h⟩ := bs h
      rcases ite_some h with ⟨c14, h⟩ | ⟨c14, h⟩
      ·rcases ite_some h with ⟨c15, h⟩ | ⟨c15, h⟩
       ·obtain rfl := Option.some.inj h
        exact (call_wQ (r := (.tup [(false, [.seq (viewL (eL e_u8 []))]), (false, [.seq (viewL (eL e_u8 []))]), (false, [.bool false])], [])) (p6 ++ [.su ((s6.length : Nat) : Int) 1, .na hi9, .ix0 e_u8 hx10, .eT c11, .nt true, .su ((s6.length : Nat) : Int) 1, ⟨.nat 1, .n 1, rfl⟩, .na hi9, ⟨.cut (eL e_u8 s6) (some 1) (some i9), .l (eL e_u8 s12), (A.cut hs12)⟩, ⟨.uni 1 (eL e_u8 s6), .b true, (A.uni E_u8)⟩, ⟨.nat 0, .n 0, rfl⟩, .ix0 e_u8 hx13, .eT c14, .le e_u8 s12, .lT c15]) rfl fd_44 (by kernel_rfl)).trans (by simp only [viewL_eL E_u8] <;> rfl)
       ·obtain ⟨i16, hi16, h⟩ := bs h
        obtain ⟨x17, hx17, h⟩ := bs h
        rcases ite_some h with ⟨c18, h⟩ | ⟨c18, h⟩
        ·obtain ⟨s19, hs19, h⟩ := bs h
         obtain ⟨r20, hr20, h⟩ := bs h
         let p7 : List (Q cfg) := p6 ++ [.su ((s6.length : Nat) : Int) 1, .na hi9, .ix0 e_u8 hx10, .eT c11, .nt true, .su ((s6.length : Nat) : Int) 1, ⟨.nat 1, .n 1, rfl⟩, .na hi9, ⟨.cut (eL e_u8 s6) (some 1) (some i9), .l (eL e_u8 s12), (A.cut hs12)⟩, ⟨.uni 1 (eL e_u8 s6), .b true, (A.uni E_u8)⟩, ⟨.nat 0, .n 0, rfl⟩, .ix0 e_u8 hx13, .eT c14, .le e_u8 s12, .lF c15, .le e_u8 s12, .su ((s12.length : Nat) : Int) 1, .na hi16, .ix0 e_u8 hx17, .eT c18, .nt true, .le e_u8 s12, .su ((s12.length : Nat) : Int) 1, ⟨.nat 1, .n 1, rfl⟩, .na hi16, ⟨.cut (eL e_u8 s12) (some 1) (some i16), .l (eL e_u8 s19), (A.cut hs19)⟩, ⟨.uni 1 (eL e_u8 s12), .b true, (A.uni E_u8)⟩, .cl (ok_spec_NameOk s19 _ hr20)]
         cases r20 with
         | true =>
          try dsimp only at h
          obtain rfl := Option.some.inj h
          exact call_wQ (p7 ++ [.nt true, .na hi2, ⟨.cut (eL e_u8 a0) none (some i2), .l (eL e_u8 s3), (A.cut hs3)⟩, ⟨.uni 1 (eL e_u8 a0), .b true, (A.uni E_u8)⟩]) rfl fd_44 (by kernel_rfl)
         | false =>
          try dsimp only at h
          obtain rfl := Option.some.inj h
          exact (call_wQ (r := (.tup [(false, [.seq (viewL (eL e_u8 []))]), (false, [.seq (viewL (eL e_u8 []))]), (false, [.bool false])], [])) (p7 ++ [.nt false]) rfl fd_44 (by kernel_rfl)).trans (by simp only [viewL_eL E_u8] <;> rfl)
        ·obtain rfl := Option.some.inj h
         exact (call_wQ (r := (.tup [(false, [.seq (viewL (eL e_u8 []))]), (false, [.seq (viewL (eL e_u8 []))]), (false, [.bool false])], [])) (p6 ++ [.su ((s6.length : Nat) : Int) 1, .na hi9, .ix0 e_u8 hx10, .eT c11, .nt true, .su ((s6.length : Nat) : Int) 1, ⟨.nat 1, .n 1, rfl⟩, .na hi9, ⟨.cut (eL e_u8 s6) (some 1) (some i9), .l (eL e_u8 s12), (A.cut hs12)⟩, ⟨.uni 1 (eL e_u8 s6), .b true, (A.uni E_u8)⟩, ⟨.nat 0, .n 0, rfl⟩, .ix0 e_u8 hx13, .eT c14, .le e_u8 s12, .lF c15, .le e_u8 s12, .su ((s12.length : Nat) : Int) 1, .na hi16, .ix0 e_u8 hx17, .eF c18, .nt false]) rfl fd_44 (by kernel_rfl)).trans (by simp only [viewL_eL E_u8] <;> rfl)
      ·rcases ite_some h with ⟨c15, h⟩ | ⟨c15, h⟩
       ·obtain rfl := Option.some.inj h
        exact (call_wQ (r := (.tup [(false, [.seq (viewL (eL e_u8 []))]), (false, [.seq (viewL (eL e_u8 []))]), (false, [.bool false])], [])) (p6 ++ [.su ((s6.length : Nat) : Int) 1, .na hi9, .ix0 e_u8 hx10, .eT c11, .nt true, .su ((s6.length : Nat) : Int) 1, ⟨.nat 1, .n 1, rfl⟩, .na hi9, ⟨.cut (eL e_u8 s6) (some 1) (some i9), .l (eL e_u8 s12), (A.cut hs12)⟩, ⟨.uni 1 (eL e_u8 s6), .b true, (A.uni E_u8)⟩, ⟨.nat 0, .n 0, rfl⟩, .ix0 e_u8 hx13, .eF c14, .le e_u8 s12, .lT c15]) rfl fd_44 (by kernel_rfl)).trans (by simp only [viewL_eL E_u8] <;> rfl)
       ·rcases ite_some h with ⟨c16, h⟩ | ⟨c16, h⟩
        ·rcases ite_some h with ⟨c17, h⟩ | ⟨c17, h⟩
         ·obtain rfl := Option.some.inj h
          exact (call_wQ (r := (.tup [(false, [.seq (viewL (eL e_u8 []))]), (false, [.seq (viewL (eL e_u8 []))]), (false, [.bool false])], [])) (p6 ++ [.su ((s6.length : Nat) : Int) 1, .na hi9, .ix0 e_u8 hx10, .eT c11, .nt true, .su ((s6.length : Nat) : Int) 1, ⟨.nat 1, .n 1, rfl⟩, .na hi9, ⟨.cut (eL e_u8 s6) (some 1) (some i9), .l (eL e_u8 s12), (A.cut hs12)⟩, ⟨.uni 1 (eL e_u8 s6), .b true, (A.uni E_u8)⟩, ⟨.nat 0, .n 0, rfl⟩, .ix0 e_u8 hx13, .eF c14, .le e_u8 s12, .lF c15, .le e_u8 s12, .eT c16, ⟨.nat 0, .n 0, rfl⟩, .ix0 e_u8 hx13, .eT c17]) rfl fd_44 (by kernel_rfl)).trans (by simp only [viewL_eL E_u8] <;> rfl)
         ·obtain ⟨o18, ho18, h⟩ := bs h
          let p8 : List (Q cfg) := p6 ++ [.su ((s6.length : Nat) : Int) 1, .na hi9, .ix0 e_u8 hx10, .eT c11, .nt true, .su ((s6.length : Nat) : Int) 1, ⟨.nat 1, .n 1, rfl⟩, .na hi9, ⟨.cut (eL e_u8 s6) (some 1) (some i9), .l (eL e_u8 s12), (A.cut hs12)⟩, ⟨.uni 1 (eL e_u8 s6), .b true, (A.uni E_u8)⟩, ⟨.nat 0, .n 0, rfl⟩, .ix0 e_u8 hx13, .eF c14, .le e_u8 s12, .lF c15, .le e_u8 s12, .eT c16, ⟨.nat 0, .n 0, rfl⟩, .ix0 e_u8 hx13, .eF c17, .lp (gl_spec_l4split_l1 a0 o1 s6 s12 _ 0 _ ho18)]
          rcases o18 with ⟨o18_0_0, o18_0_1⟩ | o18_1
          · try dsimp only at h
            obtain rfl := Option.some.inj h
            exact (call_wQ (r := (.tup [(false, [.seq (viewL (eL e_u8 o18_0_1))]), (false, [.seq (viewL (eL e_u8 o18_0_1))]), (false, [.bool o18_0_0])], [])) p8 rfl fd_44 (by kernel_rfl)).trans (by simp only [viewL_eL E_u8] <;> rfl)
          · try dsimp only at h
            obtain rfl := Option.some.inj h
            exact call_wQ (p8 ++ [.na hi2, ⟨.cut (eL e_u8 a0) none (some i2), .l (eL e_u8 s3), (A.cut hs3)⟩, ⟨.uni 1 (eL e_u8 a0), .b true, (A.uni E_u8)⟩]) rfl fd_44 (by kernel_rfl)
        ·obtain ⟨o17, ho17, h⟩ := bs h
         let p9 : List (Q cfg) := p6 ++ [.su ((s6.length : Nat) : Int) 1, .na hi9, .ix0 e_u8 hx10, .eT c11, .nt true, .su ((s6.length : Nat) : Int) 1, ⟨.nat 1, .n 1, rfl⟩, .na hi9, ⟨.cut (eL e_u8 s6) (some 1) (some i9), .l (eL e_u8 s12), (A.cut hs12)⟩, ⟨.uni 1 (eL e_u8 s6), .b true, (A.uni E_u8)⟩, ⟨.nat 0, .n 0, rfl⟩, .ix0 e_u8 hx13, .eF c14, .le e_u8 s12, .lF c15, .le e_u8 s12, .eF c16, .lp (gl_spec_l4split_l1 a0 o1 s6 s12 _ 0 _ ho17)]
         rcases o17 with ⟨o17_0_0, o17_0_1⟩ | o17_1
         · try dsimp only at h
           obtain rfl := Option.some.inj h
           exact (call_wQ (r := (.tup [(false, [.seq (viewL (eL e_u8 o17_0_1))]), (false, [.seq (viewL (eL e_u8 o17_0_1))]), (false, [.bool o17_0_0])], [])) p9 rfl fd_44 (by kernel_rfl)).trans (by simp only [viewL_eL E_u8] <;> rfl)
         · try dsimp only at h
           obtain rfl := Option.some.inj h
           exact call_wQ (p9 ++ [.na hi2, ⟨.cut (eL e_u8 a0) none (some i2), .l (eL e_u8 s3), (A.cut hs3)⟩, ⟨.uni 1 (eL e_u8 a0), .b true, (A.uni E_u8)⟩]) rfl fd_44 (by kernel_rfl)
     ·obtain rfl := Option.some.inj h
      exact (call_wQ (r := (.tup [(false, [.seq (viewL (eL e_u8 []))]), (false, [.seq (viewL (eL e_u8 []))]), (false, [.bool false])], [])) (p6 ++ [.su ((s6.length : Nat) : Int) 1, .na hi9, .ix0 e_u8 hx10, .eF c11, .nt false]) rfl fd_44 (by kernel_rfl)).trans (by simp only [viewL_eL E_u8] <;> rfl)
  | false =>
   try dsimp only at h
   obtain rfl := Option.some.inj h
   exact (call_wQ (r := (.tup [(false, [.seq (viewL (eL e_u8 []))]), (false, [.seq (viewL (eL e_u8 []))]), (false, [.bool false])], [])) [.lp (gl_spec_l4split_l0 a0 _ 0 _ ho1), .na hi2, ⟨.cut (eL e_u8 a0) none (some i2), .l (eL e_u8 s3), (A.cut hs3)⟩, ⟨.uni 1 (eL e_u8 a0), .b true, (A.uni E_u8)⟩, .cl (ok_spec_NameOk s3 _ hr4), .nt false] rfl fd_44 (by kernel_rfl)).trans (by simp only [viewL_eL E_u8] <;> rfl)
theorem l4s_find {a : List UInt8} (ha : a.length <= 2 ^ 20) : ∀ (d i m : Nat), i + d = a.length → d < m → L_spec_l4split_l0 a m (i : Int) = some ((i + (nm91 (a.drop i)).length : Nat) : Int) := by
  intro d
  induction d with
  | zero =>
    intro i m hi hm
    obtain ⟨m, rfl, _⟩ := fuel hm
    rw [L_spec_l4split_l0, if_neg (by omega), List.drop_eq_nil_of_le (by omega)]; rfl
  | succ d ih =>
    intro i m hi hm
    obtain ⟨m, rfl, hm'⟩ := fuel hm
    have hil : i < a.length := by omega
    rw [L_spec_l4split_l0, if_pos (by omega), natO_nat, Option.bind_some, get_some hil, Option.bind_some, drop_cons hil]
    unfold nm91
    rw [List.takeWhile_cons]
    by_cases h : a[i] = 91
    · rw [h, if_pos (by decide), if_neg (by simp)]; rfl
    · have : ¬ ((a[i].toNat : Nat) : Int) = 91 := fun e => h (UInt8.toNat_inj.1 (by show a[i].toNat = 91; omega))
      rw [if_neg this, if_pos (by simpa using h), w64_succ (by omega), ih (i + 1) m (by omega) (by omega)]
      unfold nm91
      rw [List.length_cons]
      congr 2; omega
theorem l4s_dig {a v2 l : List UInt8} {v1 : Int} (hl : l.length <= 2 ^ 20) : ∀ (d i m : Nat), i + d = l.length → d < m → ∃ z, L_spec_l4split_l1 a v1 v2 l m (i : Int) = some (if (l.drop i).all (inB 48 57) = true then .inr z else .inl (false, [])) := by
  intro d
  induction d with
  | zero =>
    intro i m hi hm
    obtain ⟨m, rfl, _⟩ := fuel hm
    exact ⟨_, by rw [L_spec_l4split_l1, if_neg (by omega), List.drop_eq_nil_of_le (by omega)]; rfl⟩
  | succ d ih =>
    intro i m hi hm
    obtain ⟨m, rfl, hm'⟩ := fuel hm
    have hil : i < l.length := by omega
    rw [L_spec_l4split_l1, if_pos (by omega), natO_nat, Option.bind_some, get_some hil, Option.bind_some, w64_succ (by omega), drop_cons hil, List.all_cons]
    by_cases h1 : ((l[i].toNat : Nat) : Int) < 48
    · exact ⟨0, by rw [if_pos h1, if_neg]; simp [inB]; omega⟩
    · rw [if_neg h1]
      by_cases h2 : (57 : Int) < ((l[i].toNat : Nat) : Int)
      · exact ⟨0, by rw [if_pos h2, if_neg]; simp [inB]; omega⟩
      · rw [if_neg h2, show inB 48 57 l[i] = true by simp [inB]; omega, Bool.true_and]
        exact ih (i + 1) m (by omega) (by omega)
def splitR (a : List UInt8) : (List UInt8) × (List UInt8) × Bool := if addrB a = true then (nm91 a, rs91 a, true) else ([], [], false)
theorem u8_eq {x : UInt8} {n : Nat} (hn : n < 256) : ((x.toNat : Nat) : Int) = (n : Int) ↔ x = UInt8.ofNat n := by
  constructor
  · intro h
    refine UInt8.toNat_inj.1 ?_
    rw [UInt8.toNat_ofNat_of_lt' hn]; omega
  · intro h
    subst h
    rw [UInt8.toNat_ofNat_of_lt' hn]
theorem l4split_val {a : List UInt8} (ha : a.length <= 2 ^ 20) : T_spec_l4split (a.length + 5) a = some (splitR a) := by
  have hlen := nm_len a
  have h0 := l4s_find ha a.length 0 (a.length + 5) (by omega) (by omega)
  rw [List.drop_zero, Nat.zero_add, show ((0 : Nat) : Int) = 0 from rfl] at h0
  unfold T_spec_l4split
  rw [h0, Option.bind_some, natO_nat, Option.bind_some, cut_to (by omega), Option.bind_some, nm_take]
  unfold S_spec_NameOk
  rw [if_pos (by omega), Option.bind_some]
  unfold splitR
  have hfalse : ∀ {x : (List UInt8) × (List UInt8) × Bool}, addrB a = false → some (([] : List UInt8), ([] : List UInt8), false) = some (if addrB a = true then x else ([], [], false)) := fun h => by rw [h]; rfl
  cases hn : nameB (nm91 a) with
  | false => exact hfalse (by unfold addrB; rw [hn]; rfl)
  | true =>
    dsimp only
    have hA : addrB a = (if rs91 a = [] then true else if ((rs91 a).drop 1).getLast? = some 93 then insB ((rs91 a).drop 1).dropLast else false) := by unfold addrB; rw [hn, Bool.true_and]
    rw [cut_from (by omega), Option.bind_some, nm_drop]
    by_cases hr : rs91 a = []
    · rw [hr, if_pos (by simp), hA, if_pos hr]
      have := nm_rs a
      rw [hr, List.append_nil] at this
      rw [this]; rfl
    obtain ⟨t, ht⟩ := rs_head hr
    rw [ht] at hlen hA ⊢
    rw [if_neg (by simp)] at hA
    simp only [List.drop_succ_cons, List.drop_zero] at hA
    rw [if_neg (by simp; omega)]
    by_cases h3 : (((91 :: t : List UInt8).length : Nat) : Int) < 3
    · rw [if_pos h3]
      refine hfalse ?_
      rw [hA]
      simp only [List.length_cons] at h3
      match t, h3 with
      | [], _ => rfl
      | [x], _ =>
        split
        · rfl
        · rfl
      | x :: y :: t, h3 => simp at h3; omega
    rw [if_neg h3]
    simp only [List.length_cons] at h3
    have ht0 : 0 < t.length := by omega
    rw [show w64 ((((91 :: t : List UInt8).length : Nat) : Int) - 1) = (((91 :: t : List UInt8).length - 1 : Nat) : Int) from w64_pred (by simp only [List.length_cons] at hlen ⊢; omega) (by simp), natO_nat, Option.bind_some]
    have hlast : (91 :: t : List UInt8)[(91 :: t : List UInt8).length - 1]? = t.getLast? := by
      rw [last_get (by simp), List.getLast?_cons]
      cases t with
      | nil => simp at ht0
      | cons x t => rw [List.getLast?_cons]; rfl
    rw [hlast]
    obtain ⟨x, hx⟩ : ∃ x, t.getLast? = some x := by
      cases t with
      | nil => simp at ht0
      | cons y t => exact ⟨_, List.getLast?_cons⟩
    rw [hx, Option.bind_some]
    rw [hx] at hA
    have htrue : ∀ {x : (List UInt8) × (List UInt8) × Bool}, addrB a = true → some x = some (if addrB a = true then x else ([], [], false)) := fun h => by rw [h]; rfl
    by_cases h93 : ¬ x = 93
    · rw [if_neg (show ¬ ((x.toNat : Nat) : Int) = 93 from fun h => h93 ((u8_eq (n := 93) (by decide)).1 h))]
      refine hfalse ?_
      rw [hA, if_neg (by simpa using h93)]
    have h93 : x = 93 := Classical.not_not.1 h93
    subst h93
    rw [if_pos (by decide)]
    rw [if_pos rfl] at hA
    have hmid := cut_mid (l := 91 :: t) (by simp; omega)
    rw [List.drop_succ_cons, List.drop_zero] at hmid
    rw [hmid, Option.bind_some]
    have hdl : t.dropLast.length = t.length - 1 := List.length_dropLast
    generalize t.dropLast = l at hdl hA ⊢
    cases l with
    | nil => simp at hdl; omega
    | cons c r =>
    rw [show (c :: r : List UInt8)[0]? = some c from rfl, Option.bind_some]
    unfold insB at hA
    rw [show (c :: r : List UInt8)[0]? = some c from rfl, List.drop_succ_cons, List.drop_zero] at hA
    have hcl : (c :: r : List UInt8).length <= 2 ^ 20 := by simp only [List.length_cons] at hdl hlen ⊢; omega
    by_cases h34 : c = 34
    · subst h34
      rw [if_pos (by decide)]
      rw [if_pos rfl] at hA
      by_cases hl3 : (((34 :: r : List UInt8).length : Nat) : Int) < 3
      · rw [if_pos hl3]
        refine hfalse ?_
        rw [hA]
        simp only [List.length_cons] at hl3
        match r, hl3 with
        | [], _ => rfl
        | [y], _ =>
          split
          · rfl
          · rfl
        | x :: y :: r, h => simp at h; omega
      rw [if_neg hl3]
      simp only [List.length_cons] at hl3
      have hr0 : 0 < r.length := by omega
      rw [show w64 ((((34 :: r : List UInt8).length : Nat) : Int) - 1) = (((34 :: r : List UInt8).length - 1 : Nat) : Int) from w64_pred (by omega) (by simp), natO_nat, Option.bind_some]
      have hlast2 : (34 :: r : List UInt8)[(34 :: r : List UInt8).length - 1]? = r.getLast? := by
        rw [last_get (by simp), List.getLast?_cons]
        cases r with
        | nil => simp at hr0
        | cons x r => rw [List.getLast?_cons]; rfl
      obtain ⟨y, hy⟩ : ∃ y, r.getLast? = some y := by
        cases r with
        | nil => simp at hr0
        | cons y r => exact ⟨_, List.getLast?_cons⟩
      rw [hlast2, hy, Option.bind_some]
      rw [hy] at hA
      by_cases hy34 : y = 34
      · subst hy34
        rw [if_pos (by decide)]
        rw [if_pos rfl] at hA
        have hm2 := cut_mid (l := 34 :: r) (by simp; omega)
        rw [List.drop_succ_cons, List.drop_zero] at hm2
        rw [hm2, Option.bind_some, if_pos (by rw [List.length_dropLast]; simp only [List.length_cons] at hcl; omega), Option.bind_some]
        cases hk : nameB r.dropLast with
        | true => exact htrue (by rw [hA, hk])
        | false => exact hfalse (by rw [hA, hk])
      · rw [if_neg (show ¬ ((y.toNat : Nat) : Int) = 34 from fun h => hy34 ((u8_eq (n := 34) (by decide)).1 h))]
        exact hfalse (by rw [hA, if_neg (by simpa using hy34)])
    · rw [if_neg (show ¬ ((c.toNat : Nat) : Int) = 34 from fun h => h34 ((u8_eq (n := 34) (by decide)).1 h))]
      rw [if_neg (by simpa using h34)] at hA
      unfold digB at hA
      rw [show (c :: r : List UInt8)[0]? = some c from rfl] at hA
      obtain ⟨z, hz⟩ := l4s_dig (a := a) (v2 := 91 :: t) (l := c :: r) (v1 := (((nm91 a).length : Nat) : Int)) hcl (c :: r).length 0 (a.length + 5) (by omega) (by simp only [List.length_cons] at hlen hdl ⊢; omega)
      rw [List.drop_zero, show ((0 : Nat) : Int) = 0 from rfl] at hz
      by_cases h2 : (2 : Int) < (((c :: r : List UInt8).length : Nat) : Int)
      · rw [if_pos h2]
        exact hfalse (by rw [hA, decide_eq_false (by omega)]; rfl)
      rw [if_neg h2]
      have h12 : decide (1 <= (c :: r : List UInt8).length ∧ (c :: r : List UInt8).length <= 2) = true := decide_eq_true ⟨by simp, by omega⟩
      rw [h12, Bool.true_and] at hA
      have fin : (decide ((c :: r : List UInt8).length = 2) && decide (some c = some 48)) = false → addrB a = (c :: r : List UInt8).all (inB 48 57) := fun h => by
        rw [h, Bool.not_false, Bool.true_and] at hA
        exact hA
      by_cases he : (((c :: r : List UInt8).length : Nat) : Int) = 2
      · rw [if_pos he]
        by_cases h48 : c = 48
        · subst h48
          rw [if_pos (by decide)]
          exact hfalse (by rw [hA, decide_eq_true (by omega)]; rfl)
        · rw [if_neg (show ¬ ((c.toNat : Nat) : Int) = 48 from fun h => h48 ((u8_eq (n := 48) (by decide)).1 h)), hz, Option.bind_some, fin (by rw [decide_eq_false (p := some c = some 48) (by simpa using h48), Bool.and_false])]
          cases (c :: r : List UInt8).all (inB 48 57) <;> rfl
      · rw [if_neg he, hz, Option.bind_some, fin (by rw [decide_eq_false (by omega), Bool.false_and])]
        cases (c :: r : List UInt8).all (inB 48 57) <;> rfl
def S_spec_l4split (a0 : (List UInt8)) : Option ((List UInt8) × (List UInt8) × Bool) := if a0.length <= 2 ^ 20 then some (splitR a0) else none
theorem spec_spec_l4split (a0 : (List UInt8)) (r : ((List UInt8) × (List UInt8) × Bool)) (h : S_spec_l4split a0 = some r) : ∃ n, T_spec_l4split n a0 = some r := by
  unfold S_spec_l4split at h
  obtain ⟨ha, h⟩ := need_c h
  exact ⟨a0.length + 5, by rw [<- h]; exact l4split_val ha⟩
theorem specA_eq {a : List UInt8} (h : a.length <= 2 ^ 20) : (S_spec_l4split a).bind (fun r => some r.2.2) = some (addrB a) := by
  unfold S_spec_l4split splitR
  rw [if_pos h, Option.bind_some]
  cases addrB a <;> rfl
theorem ok_spec_l4split (a0 : (List UInt8)) (r : ((List UInt8) × (List UInt8) × Bool)) (h : S_spec_l4split a0 = some r) : (mach cfg).call 44 [] [.val false [.seq (eL e_u8 a0)]] = some (.tup [(false, [.seq (eL e_u8 r.1)]), (false, [.seq (eL e_u8 r.2.1)]), (false, [.bool r.2.2])], []) := by
  obtain ⟨n, hn⟩ := spec_spec_l4split a0 r h
  exact g_spec_l4split n a0 r hn
def S_spec_AddrOk (a0 : (List UInt8)) : Option Bool :=
  (S_spec_l4split a0).bind fun ⟨r1_0, r1_1, r1_2⟩ =>
  some r1_2
set_option maxRecDepth 100000 in
theorem fd_27 : cfg.funcs 27 = some (bodyOf Tryz.f27, Tryz.f27.ntmps, Tryz.f27.results.toList) := fn_of Tryz.func27 (by kernel_rfl) (by kernel_rfl)
theorem ok_spec_AddrOk (a0 : (List UInt8)) (r : Bool) (h : S_spec_AddrOk a0 = some r) : (mach cfg).call 27 [] [.val false [.seq (eL e_u8 a0)]] = some (.val false [.bool r], []) := by
  unfold S_spec_AddrOk at h
  obtain ⟨⟨r1_0, r1_1, r1_2⟩, hr1, h⟩ := bs h
  try dsimp only at h
  obtain rfl := Option.some.inj h
  exact call_wQ [.cl (ok_spec_l4split a0 _ hr1)] rfl fd_27 (by kernel_rfl)
def L_spec_l2text_l0 (a0 : (List UInt8)) : Nat → Int → Option (Bool ⊕ Int)
  | 0, _ => none
  | m + 1, v1 =>
    if v1 < ((a0.length : Nat) : Int) then
      (natO v1).bind fun i2 =>
      (a0[i2]?).bind fun x3 =>
      if ((x3.toNat : Nat) : Int) < 32 then
        some (.inl false)
      else
        if 126 < ((x3.toNat : Nat) : Int) then
          some (.inl false)
        else
          L_spec_l2text_l0 a0 m (w64 (v1 + 1))
    else
      some (.inr v1)
theorem gl_spec_l2text_l0 (a0 : (List UInt8)) (m : Nat) : ∀ (v1 : Int) (o : (Bool ⊕ Int)), L_spec_l2text_l0 a0 m v1 = some o → (mach cfg).loop 59 (loopB Tryz.f59 0) ⟨[(0, .val false [.seq (eL e_u8 a0)]), (3, .val false [.int .i64 v1])], [], 0⟩ = some (match o with | .inl o_0 => (.ret, (⟨[(2, .val false [.bool o_0])], [], 0⟩ : S)) | .inr (o_1) => (.exit 0, (⟨[(0, .val false [.seq (eL e_u8 a0)]), (3, .val false [.int .i64 o_1]), (10, .val false [.bool false])], [], 0⟩ : S))) := by
  induction m with
  | zero => intro v1 o h; cases h
  | succ m ih =>
    intro v1 o h
    rw [L_spec_l2text_l0] at h
    rcases ite_some h with ⟨c1, h⟩ | ⟨c1, h⟩
    ·obtain ⟨i2, hi2, h⟩ := bs h
     obtain ⟨x3, hx3, h⟩ := bs h
     let p10 : List (Q cfg) := [.le e_u8 a0, .lT c1, .na hi2, .ix0 e_u8 hx3]
     rcases ite_some h with ⟨c4, h⟩ | ⟨c4, h⟩
     ·obtain rfl := Option.some.inj h
      exact loop_eQ (p10 ++ [.lT c4]) (by kernel_rfl) (by intro h; cases h)
     ·rcases ite_some h with ⟨c5, h⟩ | ⟨c5, h⟩
      ·obtain rfl := Option.some.inj h
       exact loop_eQ (p10 ++ [.lF c4, .na hi2, .ix0 e_u8 hx3, .lT c5]) (by kernel_rfl) (by intro h; cases h)
      ·exact loop_nQ (p10 ++ [.lF c4, .na hi2, .ix0 e_u8 hx3, .lF c5, .ad v1 1]) (by kernel_rfl) (ih (w64 (v1 + 1)) o h)
    ·obtain rfl := Option.some.inj h
     exact loop_eQ [.le e_u8 a0, .lF c1] (by kernel_rfl) (by intro h; cases h)
def T_spec_l2text (n : Nat) (a0 : (List UInt8)) : Option Bool :=
  if 20 < ((a0.length : Nat) : Int) then
    some false
  else
    (L_spec_l2text_l0 a0 n 0).bind fun o2 =>
    match o2 with
    | .inl o2_0 =>
      some o2_0
    | .inr (o2_1) =>
      some true
set_option maxRecDepth 100000 in
theorem fd_59 : cfg.funcs 59 = some (bodyOf Tryz.f59, Tryz.f59.ntmps, Tryz.f59.results.toList) := fn_of Tryz.func59 (by kernel_rfl) (by kernel_rfl)
theorem g_spec_l2text (n : Nat) (a0 : (List UInt8)) (r : Bool) (h : T_spec_l2text n a0 = some r) : (mach cfg).call 59 [] [.val false [.seq (eL e_u8 a0)]] = some (.val false [.bool r], []) := by
  unfold T_spec_l2text at h
  rcases ite_some h with ⟨c1, h⟩ | ⟨c1, h⟩
  ·obtain rfl := Option.some.inj h
   exact call_wQ [.le e_u8 a0, .lT c1] rfl fd_59 (by kernel_rfl)
  ·obtain ⟨o2, ho2, h⟩ := bs h
   rcases o2 with o2_0 | o2_1
   · try dsimp only at h
     obtain rfl := Option.some.inj h
     exact call_wQ [.le e_u8 a0, .lF c1, .lp (gl_spec_l2text_l0 a0 _ 0 _ ho2)] rfl fd_59 (by kernel_rfl)
   · try dsimp only at h
     obtain rfl := Option.some.inj h
     exact call_wQ [.le e_u8 a0, .lF c1, .lp (gl_spec_l2text_l0 a0 _ 0 _ ho2)] rfl fd_59 (by kernel_rfl)
theorem spec_l2text_loop {a : List UInt8} (ha : a.length <= 2 ^ 20) : ∀ (d i m : Nat), i + d = a.length → d < m → ∃ z, L_spec_l2text_l0 a m (i : Int) = some (if (a.drop i).all (inB 32 126) = true then .inr z else .inl false) := by
  intro d
  induction d with
  | zero =>
    intro i m hi hm
    obtain ⟨m, rfl, _⟩ := fuel hm
    exact ⟨_, by rw [L_spec_l2text_l0, if_neg (by omega), List.drop_eq_nil_of_le (by omega)]; rfl⟩
  | succ d ih =>
    intro i m hi hm
    obtain ⟨m, rfl, hm'⟩ := fuel hm
    have hil : i < a.length := by omega
    rw [L_spec_l2text_l0, if_pos (by omega), natO_nat, Option.bind_some, get_some hil, Option.bind_some, w64_succ (by omega), drop_cons hil, List.all_cons]
    by_cases h1 : ((a[i].toNat : Nat) : Int) < 32
    · exact ⟨0, by rw [if_pos h1, if_neg]; simp [inB]; omega⟩
    · rw [if_neg h1]
      by_cases h2 : (126 : Int) < ((a[i].toNat : Nat) : Int)
      · exact ⟨0, by rw [if_pos h2, if_neg]; simp [inB]; omega⟩
      · rw [if_neg h2, show inB 32 126 a[i] = true by simp [inB]; omega, Bool.true_and]
        exact ih (i + 1) m (by omega) (by omega)
def S_spec_l2text (a0 : (List UInt8)) : Option Bool := if a0.length <= 2 ^ 20 then some (textB a0) else none
theorem spec_spec_l2text (a0 : (List UInt8)) (r : Bool) (h : S_spec_l2text a0 = some r) : ∃ n, T_spec_l2text n a0 = some r := by
  unfold S_spec_l2text at h
  obtain ⟨ha, h⟩ := need_c h
  refine ⟨a0.length + 1, ?_⟩
  obtain ⟨z, hz⟩ := spec_l2text_loop ha a0.length 0 (a0.length + 1) (by omega) (by omega)
  rw [show ((0 : Nat) : Int) = 0 from rfl, List.drop_zero] at hz
  unfold T_spec_l2text
  rw [<- h, hz]
  unfold textB
  by_cases hl : a0.length <= 20
  · rw [if_neg (by omega), decide_eq_true hl]
    cases a0.all (inB 32 126) <;> rfl
  · rw [if_pos (by omega), decide_eq_false hl]; rfl
theorem ok_spec_l2text (a0 : (List UInt8)) (r : Bool) (h : S_spec_l2text a0 = some r) : (mach cfg).call 59 [] [.val false [.seq (eL e_u8 a0)]] = some (.val false [.bool r], []) := by
  obtain ⟨n, hn⟩ := spec_spec_l2text a0 r h
  exact g_spec_l2text n a0 r hn
def S_spec_l2int (a0 : Int) : Option Bool :=
  if (-1000000000000) <= a0 then
    some (decide (a0 <= 1000000000000))
  else
    some false
set_option maxRecDepth 100000 in
theorem fd_58 : cfg.funcs 58 = some (bodyOf Tryz.f58, Tryz.f58.ntmps, Tryz.f58.results.toList) := fn_of Tryz.func58 (by kernel_rfl) (by kernel_rfl)
theorem ok_spec_l2int (a0 : Int) (r : Bool) (h : S_spec_l2int a0 = some r) : (mach cfg).call 58 [] [.val false [.int .i64 a0]] = some (.val false [.bool r], []) := by
  unfold S_spec_l2int at h
  rcases ite_some h with ⟨c1, h⟩ | ⟨c1, h⟩
  ·obtain rfl := Option.some.inj h
   exact call_wQ [.gT c1, .gD a0 1000000000000] rfl fd_58 (by kernel_rfl)
  ·obtain rfl := Option.some.inj h
   exact call_wQ [.gF c1] rfl fd_58 (by kernel_rfl)
def L_spec_l2ok_l0 (G_spec_l2ok : GValue → Int → Int → Option Int) (a1 : Int) (a0 : GValue) : Nat → Int → Int → Option (Int ⊕ (Int × Int))
  | 0, _, _ => none
  | m + 1, v1, v2 =>
    if v2 < ((a0.L.length : Nat) : Int) then
      if a0.Kind = 5 then
        (natO v2).bind fun i3 =>
        (a0.K[i3]?).bind fun x4 =>
        (S_spec_NameOk x4).bind fun r5 =>
        match r5 with
        | true =>
          if 0 < v2 then
            (natO (w64 (v2 - 1))).bind fun i8 =>
            (a0.K[i8]?).bind fun x9 =>
            if Op.bytesLess x9 x4 = true then
              (a0.L[i3]?).bind fun x11 =>
              (G_spec_l2ok x11 (w64 (a1 + 1)) v1).bind fun r12 =>
              if r12 < 0 then
                some (.inl (-1))
              else
                L_spec_l2ok_l0 G_spec_l2ok a1 a0 m r12 (w64 (v2 + 1))
            else
              some (.inl (-1))
          else
            (a0.L[i3]?).bind fun x8 =>
            (G_spec_l2ok x8 (w64 (a1 + 1)) v1).bind fun r9 =>
            if r9 < 0 then
              some (.inl (-1))
            else
              L_spec_l2ok_l0 G_spec_l2ok a1 a0 m r9 (w64 (v2 + 1))
        | false =>
          some (.inl (-1))
      else
        (natO v2).bind fun i3 =>
        (a0.L[i3]?).bind fun x4 =>
        (G_spec_l2ok x4 (w64 (a1 + 1)) v1).bind fun r5 =>
        if r5 < 0 then
          some (.inl (-1))
        else
          L_spec_l2ok_l0 G_spec_l2ok a1 a0 m r5 (w64 (v2 + 1))
    else
      some (.inr (v1, v2))
theorem gl_spec_l2ok_l0 (G_spec_l2ok : GValue → Int → Int → Option Int) (H_spec_l2ok : ∀ (a0 : GValue) (a1 : Int) (a2 : Int) (r : Int), G_spec_l2ok a0 a1 a2 = some r → (mach cfg).call 46 [] [.val true [.int .i64 a0.Kind, .int .i64 a0.N, .seq (eL e_u8 a0.S), .seq (eL (e_sl e_u8) a0.K), .seq (eL e_GValue a0.L)], .val false [.int .i64 a1], .val false [.int .i64 a2]] = some (.val false [.int .i64 r], [])) (a1 : Int) (a0 : GValue) (m : Nat) : ∀ (v1 : Int) (v2 : Int) (o : (Int ⊕ (Int × Int))), L_spec_l2ok_l0 G_spec_l2ok a1 a0 m v1 v2 = some o → (mach cfg).loop 46 (loopB Tryz.f46 0) ⟨[(1, .val false [.int .i64 a1]), (2, .val false [.int .i64 v1]), (3, .val false [.ptr 0 0]), (7, .val false [.int .i64 v2])], [.var [.int .i64 a0.Kind, .int .i64 a0.N, .seq (eL e_u8 a0.S), .seq (eL (e_sl e_u8) a0.K), .seq (eL e_GValue a0.L)]], 0⟩ = some (match o with | .inl o_0 => (.ret, (⟨[(6, .val false [.int .i64 o_0])], [], 0⟩ : S)) | .inr (⟨o_1_0, o_1_1⟩) => (.exit 1, (⟨[(1, .val false [.int .i64 a1]), (2, .val false [.int .i64 o_1_0]), (3, .val false [.ptr 0 0]), (7, .val false [.int .i64 o_1_1]), (117, .val false [.bool false])], [.var [.int .i64 a0.Kind, .int .i64 a0.N, .seq (eL e_u8 a0.S), .seq (eL (e_sl e_u8) a0.K), .seq (eL e_GValue a0.L)]], 0⟩ : S))) := by
  induction m with
  | zero => intro v1 v2 o h; cases h
  | succ m ih =>
    intro v1 v2 o h
    rw [L_spec_l2ok_l0] at h
    rcases ite_some h with ⟨c1, h⟩ | ⟨c1, h⟩
    ·rcases ite_some h with ⟨c2, h⟩ | ⟨c2, h⟩
     ·obtain ⟨i3, hi3, h⟩ := bs h
      obtain ⟨x4, hx4, h⟩ := bs h
      obtain ⟨r5, hr5, h⟩ := bs h
      let p11 : List (Q cfg) := [.le e_GValue a0.L, .lT c1, .eT c2, .na hi3, .ix0 (e_sl e_u8) hx4]
      cases r5 with
      | true =>
       try dsimp only at h
       rcases ite_some h with ⟨c7, h⟩ | ⟨c7, h⟩
       ·obtain ⟨i8, hi8, h⟩ := bs h
        obtain ⟨x9, hx9, h⟩ := bs h
        rcases ite_some h with ⟨c10, h⟩ | ⟨c10, h⟩
        ·obtain ⟨x11, hx11, h⟩ := bs h
         obtain ⟨r12, hr12, h⟩ := bs h
         let p12 : List (Q cfg) := p11 ++ [.cl (ok_spec_NameOk x4 _ hr5), .nt true, .lT c7, .su v2 1, .na hi8, .ix0 (e_sl e_u8) hx9, ⟨.bytes (eL e_u8 x9), .s x9, A.bytes⟩, .na hi3, .ix0 (e_sl e_u8) hx4, ⟨.bytes (eL e_u8 x4), .s x4, A.bytes⟩, ⟨.ltS x9 x4, .b true, (A.ltS_t c10)⟩, .nt true, .na hi3, .ix hx11 (eq_GValue x11), .ad a1 1, .cl (H_spec_l2ok x11 (w64 (a1 + 1)) v1 _ hr12)]
         rcases ite_some h with ⟨c13, h⟩ | ⟨c13, h⟩
         ·obtain rfl := Option.some.inj h
          exact loop_eQ (p12 ++ [.lT c13]) (by kernel_rfl) (by intro h; cases h)
         ·exact loop_nQ (p12 ++ [.lF c13, .ad v2 1]) (by kernel_rfl) (ih r12 (w64 (v2 + 1)) o h)
        ·obtain rfl := Option.some.inj h
         exact loop_eQ (p11 ++ [.cl (ok_spec_NameOk x4 _ hr5), .nt true, .lT c7, .su v2 1, .na hi8, .ix0 (e_sl e_u8) hx9, ⟨.bytes (eL e_u8 x9), .s x9, A.bytes⟩, .na hi3, .ix0 (e_sl e_u8) hx4, ⟨.bytes (eL e_u8 x4), .s x4, A.bytes⟩, ⟨.ltS x9 x4, .b false, (A.ltS_f c10)⟩, .nt false]) (by kernel_rfl) (by intro h; cases h)
       ·obtain ⟨x8, hx8, h⟩ := bs h
        obtain ⟨r9, hr9, h⟩ := bs h
        let p13 : List (Q cfg) := p11 ++ [.cl (ok_spec_NameOk x4 _ hr5), .nt true, .lF c7, .na hi3, .ix hx8 (eq_GValue x8), .ad a1 1, .cl (H_spec_l2ok x8 (w64 (a1 + 1)) v1 _ hr9)]
        rcases ite_some h with ⟨c10, h⟩ | ⟨c10, h⟩
        ·obtain rfl := Option.some.inj h
         exact loop_eQ (p13 ++ [.lT c10]) (by kernel_rfl) (by intro h; cases h)
        ·exact loop_nQ (p13 ++ [.lF c10, .ad v2 1]) (by kernel_rfl) (ih r9 (w64 (v2 + 1)) o h)
      | false =>
       try dsimp only at h
       obtain rfl := Option.some.inj h
       exact loop_eQ (p11 ++ [.cl (ok_spec_NameOk x4 _ hr5), .nt false]) (by kernel_rfl) (by intro h; cases h)
     ·obtain ⟨i3, hi3, h⟩ := bs h
      obtain ⟨x4, hx4, h⟩ := bs h
      obtain ⟨r5, hr5, h⟩ := bs h
      let p14 : List (Q cfg) := [.le e_GValue a0.L, .lT c1, .eF c2, .na hi3, .ix hx4 (eq_GValue x4), .ad a1 1, .cl (H_spec_l2ok x4 (w64 (a1 + 1)) v1 _ hr5)]
      rcases ite_some h with ⟨c6, h⟩ | ⟨c6, h⟩
      ·obtain rfl := Option.some.inj h
       exact loop_eQ (p14 ++ [.lT c6]) (by kernel_rfl) (by intro h; cases h)
      ·exact loop_nQ (p14 ++ [.lF c6, .ad v2 1]) (by kernel_rfl) (ih r5 (w64 (v2 + 1)) o h)
    ·obtain rfl := Option.some.inj h
     exact loop_eQ [.le e_GValue a0.L, .lF c1] (by kernel_rfl) (by intro h; cases h)
def T_spec_l2ok (G_spec_l2ok : GValue → Int → Int → Option Int) (n : Nat) (a0 : GValue) (a1 : Int) (a2 : Int) : Option Int :=
  if (w64 (a2 - 1)) < 0 then
    some (-1)
  else
    if 5 < a1 then
      some (-1)
    else
      if a0.Kind = 3 then
        if 0 < ((a0.K.length : Nat) : Int) then
          some (-1)
        else
          if a0.N = 0 then
            if 0 < ((a0.L.length : Nat) : Int) then
              some (-1)
            else
              (S_spec_l2text a0.S).bind fun r7 =>
              match r7 with
              | true =>
                some (w64 (a2 - 1))
              | false =>
                some (-1)
          else
            some (-1)
      else
        if 0 < ((a0.S.length : Nat) : Int) then
          some (-1)
        else
          if a0.Kind = 5 then
            if a0.N = 0 then
              if ((a0.K.length : Nat) : Int) = ((a0.L.length : Nat) : Int) then
                (L_spec_l2ok_l0 G_spec_l2ok a1 a0 n (w64 (a2 - 1)) 0).bind fun o8 =>
                match o8 with
                | .inl o8_0 =>
                  some o8_0
                | .inr (⟨o8_1_0, o8_1_1⟩) =>
                  some o8_1_0
              else
                some (-1)
            else
              some (-1)
          else
            if 0 < ((a0.K.length : Nat) : Int) then
              some (-1)
            else
              if a0.Kind = 1 then
                if 0 < ((a0.L.length : Nat) : Int) then
                  some (-1)
                else
                  if a0.N < 0 then
                    some (-1)
                  else
                    if 1 < a0.N then
                      some (-1)
                    else
                      some (w64 (a2 - 1))
              else
                if a0.Kind = 2 then
                  if 0 < ((a0.L.length : Nat) : Int) then
                    some (-1)
                  else
                    (S_spec_l2int a0.N).bind fun r10 =>
                    match r10 with
                    | true =>
                      some (w64 (a2 - 1))
                    | false =>
                      some (-1)
                else
                  if a0.N = 0 then
                    if a0.Kind = 4 then
                      (L_spec_l2ok_l0 G_spec_l2ok a1 a0 n (w64 (a2 - 1)) 0).bind fun o11 =>
                      match o11 with
                      | .inl o11_0 =>
                        some o11_0
                      | .inr (⟨o11_1_0, o11_1_1⟩) =>
                        some o11_1_0
                    else
                      if 0 < ((a0.L.length : Nat) : Int) then
                        some (-1)
                      else
                        if a0.Kind = 0 then
                          some (w64 (a2 - 1))
                        else
                          if a0.Kind = 6 then
                            some (w64 (a2 - 1))
                          else
                            some (-1)
                  else
                    some (-1)
set_option maxRecDepth 100000 in
theorem fd_46 : cfg.funcs 46 = some (bodyOf Tryz.f46, Tryz.f46.ntmps, Tryz.f46.results.toList) := fn_of Tryz.func46 (by kernel_rfl) (by kernel_rfl)
theorem g_spec_l2ok (G_spec_l2ok : GValue → Int → Int → Option Int) (H_spec_l2ok : ∀ (a0 : GValue) (a1 : Int) (a2 : Int) (r : Int), G_spec_l2ok a0 a1 a2 = some r → (mach cfg).call 46 [] [.val true [.int .i64 a0.Kind, .int .i64 a0.N, .seq (eL e_u8 a0.S), .seq (eL (e_sl e_u8) a0.K), .seq (eL e_GValue a0.L)], .val false [.int .i64 a1], .val false [.int .i64 a2]] = some (.val false [.int .i64 r], [])) (n : Nat) (a0 : GValue) (a1 : Int) (a2 : Int) (r : Int) (h : T_spec_l2ok G_spec_l2ok n a0 a1 a2 = some r) : (mach cfg).call 46 [] [.val true [.int .i64 a0.Kind, .int .i64 a0.N, .seq (eL e_u8 a0.S), .seq (eL (e_sl e_u8) a0.K), .seq (eL e_GValue a0.L)], .val false [.int .i64 a1], .val false [.int .i64 a2]] = some (.val false [.int .i64 r], []) := by
  unfold T_spec_l2ok at h
  rcases ite_some h with ⟨c1, h⟩ | ⟨c1, h⟩
  ·obtain rfl := Option.some.inj h
   exact call_wQ [.su a2 1, .lT c1] rfl fd_46 (by kernel_rfl)
  ·rcases ite_some h with ⟨c2, h⟩ | ⟨c2, h⟩
   ·obtain rfl := Option.some.inj h
    exact call_wQ [.su a2 1, .lF c1, .lT c2] rfl fd_46 (by kernel_rfl)
   ·rcases ite_some h with ⟨c3, h⟩ | ⟨c3, h⟩
    ·let p15 : List (Q cfg) := [.su a2 1, .lF c1, .lF c2, .eT c3, .nt true]
     rcases ite_some h with ⟨c4, h⟩ | ⟨c4, h⟩
     ·obtain rfl := Option.some.inj h
      exact call_wQ (p15 ++ [.eFo a0.Kind 5 (by omega), .nt false, .le (e_sl e_u8) a0.K, .lT c4]) rfl fd_46 (by kernel_rfl)
     ·rcases ite_some h with ⟨c5, h⟩ | ⟨c5, h⟩
      ·rcases ite_some h with ⟨c6, h⟩ | ⟨c6, h⟩
       ·obtain rfl := Option.some.inj h
        exact call_wQ (p15 ++ [.eFo a0.Kind 5 (by omega), .nt false, .le (e_sl e_u8) a0.K, .lF c4, .eFo a0.Kind 1 (by omega), .nt false, .eFo a0.Kind 2 (by omega), .nt false, .eT c5, .nt true, .eFo a0.Kind 4 (by omega), .nt false, .eFo a0.Kind 5 (by omega), .nt false, .le e_GValue a0.L, .lT c6]) rfl fd_46 (by kernel_rfl)
       ·obtain ⟨r7, hr7, h⟩ := bs h
        let p16 : List (Q cfg) := p15 ++ [.eFo a0.Kind 5 (by omega), .nt false, .le (e_sl e_u8) a0.K, .lF c4, .eFo a0.Kind 1 (by omega), .nt false, .eFo a0.Kind 2 (by omega), .nt false, .eT c5, .nt true, .eFo a0.Kind 4 (by omega), .nt false, .eFo a0.Kind 5 (by omega), .nt false, .le e_GValue a0.L, .lF c6, .eFo a0.Kind 0 (by omega), .eFo a0.Kind 6 (by omega), .eFo a0.Kind 1 (by omega), .eFo a0.Kind 2 (by omega), .eT c3, .cl (ok_spec_l2text a0.S _ hr7)]
        cases r7 with
        | true =>
         try dsimp only at h
         obtain rfl := Option.some.inj h
         exact call_wQ (p16 ++ [.nt true]) rfl fd_46 (by kernel_rfl)
        | false =>
         try dsimp only at h
         obtain rfl := Option.some.inj h
         exact call_wQ (p16 ++ [.nt false]) rfl fd_46 (by kernel_rfl)
      ·obtain rfl := Option.some.inj h
       exact call_wQ (p15 ++ [.eFo a0.Kind 5 (by omega), .nt false, .le (e_sl e_u8) a0.K, .lF c4, .eFo a0.Kind 1 (by omega), .nt false, .eFo a0.Kind 2 (by omega), .nt false, .eF c5, .nt false]) rfl fd_46 (by kernel_rfl)
    ·rcases ite_some h with ⟨c4, h⟩ | ⟨c4, h⟩
     ·obtain rfl := Option.some.inj h
      exact call_wQ [.su a2 1, .lF c1, .lF c2, .eF c3, .nt false, .le e_u8 a0.S, .lT c4] rfl fd_46 (by kernel_rfl)
     ·rcases ite_some h with ⟨c5, h⟩ | ⟨c5, h⟩
      ·let p17 : List (Q cfg) := [.su a2 1, .lF c1, .lF c2, .eF c3, .nt false]
       rcases ite_some h with ⟨c6, h⟩ | ⟨c6, h⟩
       ·rcases ite_some h with ⟨c7, h⟩ | ⟨c7, h⟩
        ·obtain ⟨o8, ho8, h⟩ := bs h
         let p18 : List (Q cfg) := p17 ++ [.le e_u8 a0.S, .lF c4, .eT c5, .nt true, .eFo a0.Kind 1 (by omega), .nt false, .eFo a0.Kind 2 (by omega), .nt false, .eT c6, .nt true, .eFo a0.Kind 4 (by omega), .nt false, .eT c5, .nt true, .eFo a0.Kind 0 (by omega), .eFo a0.Kind 6 (by omega), .eFo a0.Kind 1 (by omega), .eFo a0.Kind 2 (by omega), .eF c3, .eFo a0.Kind 4 (by omega), .eT c5, .eT c5, .le (e_sl e_u8) a0.K, .le e_GValue a0.L, .eT c7, .nt true, .lp (gl_spec_l2ok_l0 G_spec_l2ok H_spec_l2ok a1 a0 _ (w64 (a2 - 1)) 0 _ ho8)]
         rcases o8 with o8_0 | ⟨o8_1_0, o8_1_1⟩
         · try dsimp only at h
           obtain rfl := Option.some.inj h
           exact call_wQ p18 rfl fd_46 (by kernel_rfl)
         · try dsimp only at h
           obtain rfl := Option.some.inj h
           exact call_wQ p18 rfl fd_46 (by kernel_rfl)
        ·obtain rfl := Option.some.inj h
         exact call_wQ (p17 ++ [.le e_u8 a0.S, .lF c4, .eT c5, .nt true, .eFo a0.Kind 1 (by omega), .nt false, .eFo a0.Kind 2 (by omega), .nt false, .eT c6, .nt true, .eFo a0.Kind 4 (by omega), .nt false, .eT c5, .nt true, .eFo a0.Kind 0 (by omega), .eFo a0.Kind 6 (by omega), .eFo a0.Kind 1 (by omega), .eFo a0.Kind 2 (by omega), .eF c3, .eFo a0.Kind 4 (by omega), .eT c5, .eT c5, .le (e_sl e_u8) a0.K, .le e_GValue a0.L, .eF c7, .nt false]) rfl fd_46 (by kernel_rfl)
       ·obtain rfl := Option.some.inj h
        exact call_wQ (p17 ++ [.le e_u8 a0.S, .lF c4, .eT c5, .nt true, .eFo a0.Kind 1 (by omega), .nt false, .eFo a0.Kind 2 (by omega), .nt false, .eF c6, .nt false]) rfl fd_46 (by kernel_rfl)
      ·rcases ite_some h with ⟨c6, h⟩ | ⟨c6, h⟩
       ·obtain rfl := Option.some.inj h
        exact call_wQ [.su a2 1, .lF c1, .lF c2, .eF c3, .nt false, .le e_u8 a0.S, .lF c4, .eF c5, .nt false, .le (e_sl e_u8) a0.K, .lT c6] rfl fd_46 (by kernel_rfl)
       ·rcases ite_some h with ⟨c7, h⟩ | ⟨c7, h⟩
        ·rcases ite_some h with ⟨c8, h⟩ | ⟨c8, h⟩
         ·obtain rfl := Option.some.inj h
          exact call_wQ [.su a2 1, .lF c1, .lF c2, .eF c3, .nt false, .le e_u8 a0.S, .lF c4, .eF c5, .nt false, .le (e_sl e_u8) a0.K, .lF c6, .eT c7, .nt true, .eFo a0.Kind 4 (by omega), .nt false, .eF c5, .nt false, .le e_GValue a0.L, .lT c8] rfl fd_46 (by kernel_rfl)
         ·rcases ite_some h with ⟨c9, h⟩ | ⟨c9, h⟩
          ·obtain rfl := Option.some.inj h
           exact call_wQ [.su a2 1, .lF c1, .lF c2, .eF c3, .nt false, .le e_u8 a0.S, .lF c4, .eF c5, .nt false, .le (e_sl e_u8) a0.K, .lF c6, .eT c7, .nt true, .eFo a0.Kind 4 (by omega), .nt false, .eF c5, .nt false, .le e_GValue a0.L, .lF c8, .eFo a0.Kind 0 (by omega), .eFo a0.Kind 6 (by omega), .eT c7, .lT c9] rfl fd_46 (by kernel_rfl)
          ·rcases ite_some h with ⟨c10, h⟩ | ⟨c10, h⟩
           ·obtain rfl := Option.some.inj h
            exact call_wQ [.su a2 1, .lF c1, .lF c2, .eF c3, .nt false, .le e_u8 a0.S, .lF c4, .eF c5, .nt false, .le (e_sl e_u8) a0.K, .lF c6, .eT c7, .nt true, .eFo a0.Kind 4 (by omega), .nt false, .eF c5, .nt false, .le e_GValue a0.L, .lF c8, .eFo a0.Kind 0 (by omega), .eFo a0.Kind 6 (by omega), .eT c7, .lF c9, .lT c10] rfl fd_46 (by kernel_rfl)
           ·obtain rfl := Option.some.inj h
            exact call_wQ [.su a2 1, .lF c1, .lF c2, .eF c3, .nt false, .le e_u8 a0.S, .lF c4, .eF c5, .nt false, .le (e_sl e_u8) a0.K, .lF c6, .eT c7, .nt true, .eFo a0.Kind 4 (by omega), .nt false, .eF c5, .nt false, .le e_GValue a0.L, .lF c8, .eFo a0.Kind 0 (by omega), .eFo a0.Kind 6 (by omega), .eT c7, .lF c9, .lF c10] rfl fd_46 (by kernel_rfl)
        ·let p19 : List (Q cfg) := [.su a2 1, .lF c1, .lF c2, .eF c3, .nt false]
         rcases ite_some h with ⟨c8, h⟩ | ⟨c8, h⟩
         ·rcases ite_some h with ⟨c9, h⟩ | ⟨c9, h⟩
          ·obtain rfl := Option.some.inj h
           exact call_wQ (p19 ++ [.le e_u8 a0.S, .lF c4, .eF c5, .nt false, .le (e_sl e_u8) a0.K, .lF c6, .eF c7, .nt false, .eT c8, .nt true, .eFo a0.Kind 4 (by omega), .nt false, .eF c5, .nt false, .le e_GValue a0.L, .lT c9]) rfl fd_46 (by kernel_rfl)
          ·obtain ⟨r10, hr10, h⟩ := bs h
           let p20 : List (Q cfg) := p19 ++ [.le e_u8 a0.S, .lF c4, .eF c5, .nt false, .le (e_sl e_u8) a0.K, .lF c6, .eF c7, .nt false, .eT c8, .nt true, .eFo a0.Kind 4 (by omega), .nt false, .eF c5, .nt false, .le e_GValue a0.L, .lF c9, .eFo a0.Kind 0 (by omega), .eFo a0.Kind 6 (by omega), .eF c7, .eT c8, .cl (ok_spec_l2int a0.N _ hr10)]
           cases r10 with
           | true =>
            try dsimp only at h
            obtain rfl := Option.some.inj h
            exact call_wQ (p20 ++ [.nt true]) rfl fd_46 (by kernel_rfl)
           | false =>
            try dsimp only at h
            obtain rfl := Option.some.inj h
            exact call_wQ (p20 ++ [.nt false]) rfl fd_46 (by kernel_rfl)
         ·rcases ite_some h with ⟨c9, h⟩ | ⟨c9, h⟩
          ·rcases ite_some h with ⟨c10, h⟩ | ⟨c10, h⟩
           ·obtain ⟨o11, ho11, h⟩ := bs h
            let p21 : List (Q cfg) := p19 ++ [.le e_u8 a0.S, .lF c4, .eF c5, .nt false, .le (e_sl e_u8) a0.K, .lF c6, .eF c7, .nt false, .eF c8, .nt false, .eT c9, .nt true, .eT c10, .nt true, .eFo a0.Kind 0 (by omega), .eFo a0.Kind 6 (by omega), .eF c7, .eF c8, .eF c3, .eT c10, .eF c5, .lp (gl_spec_l2ok_l0 G_spec_l2ok H_spec_l2ok a1 a0 _ (w64 (a2 - 1)) 0 _ ho11)]
            rcases o11 with o11_0 | ⟨o11_1_0, o11_1_1⟩
            · try dsimp only at h
              obtain rfl := Option.some.inj h
              exact call_wQ p21 rfl fd_46 (by kernel_rfl)
            · try dsimp only at h
              obtain rfl := Option.some.inj h
              exact call_wQ p21 rfl fd_46 (by kernel_rfl)
           ·rcases ite_some h with ⟨c11, h⟩ | ⟨c11, h⟩
            ·obtain rfl := Option.some.inj h
             exact call_wQ (p19 ++ [.le e_u8 a0.S, .lF c4, .eF c5, .nt false, .le (e_sl e_u8) a0.K, .lF c6, .eF c7, .nt false, .eF c8, .nt false, .eT c9, .nt true, .eF c10, .nt false, .eF c5, .nt false, .le e_GValue a0.L, .lT c11]) rfl fd_46 (by kernel_rfl)
            ·rcases ite_some h with ⟨c12, h⟩ | ⟨c12, h⟩
             ·obtain rfl := Option.some.inj h
              exact call_wQ (p19 ++ [.le e_u8 a0.S, .lF c4, .eF c5, .nt false, .le (e_sl e_u8) a0.K, .lF c6, .eF c7, .nt false, .eF c8, .nt false, .eT c9, .nt true, .eF c10, .nt false, .eF c5, .nt false, .le e_GValue a0.L, .lF c11, .eT c12]) rfl fd_46 (by kernel_rfl)
             ·rcases ite_some h with ⟨c13, h⟩ | ⟨c13, h⟩
              ·obtain rfl := Option.some.inj h
               exact call_wQ (p19 ++ [.le e_u8 a0.S, .lF c4, .eF c5, .nt false, .le (e_sl e_u8) a0.K, .lF c6, .eF c7, .nt false, .eF c8, .nt false, .eT c9, .nt true, .eF c10, .nt false, .eF c5, .nt false, .le e_GValue a0.L, .lF c11, .eF c12, .eT c13]) rfl fd_46 (by kernel_rfl)
              ·obtain rfl := Option.some.inj h
               exact call_wQ (p19 ++ [.le e_u8 a0.S, .lF c4, .eF c5, .nt false, .le (e_sl e_u8) a0.K, .lF c6, .eF c7, .nt false, .eF c8, .nt false, .eT c9, .nt true, .eF c10, .nt false, .eF c5, .nt false, .le e_GValue a0.L, .lF c11, .eF c12, .eF c13, .eF c7, .eF c8, .eF c3, .eF c10, .eF c5]) rfl fd_46 (by kernel_rfl)
          ·obtain rfl := Option.some.inj h
           exact call_wQ (p19 ++ [.le e_u8 a0.S, .lF c4, .eF c5, .nt false, .le (e_sl e_u8) a0.K, .lF c6, .eF c7, .nt false, .eF c8, .nt false, .eF c9, .nt false]) rfl fd_46 (by kernel_rfl)
def U_spec_l2ok : Nat → GValue → Int → Int → Option Int
  | 0, _, _, _ => none
  | n + 1, a0, a1, a2 => T_spec_l2ok (U_spec_l2ok n) n a0 a1 a2
theorem rec_spec_l2ok (n : Nat) : (∀ (a0 : GValue) (a1 : Int) (a2 : Int) (r : Int), U_spec_l2ok n a0 a1 a2 = some r → (mach cfg).call 46 [] [.val true [.int .i64 a0.Kind, .int .i64 a0.N, .seq (eL e_u8 a0.S), .seq (eL (e_sl e_u8) a0.K), .seq (eL e_GValue a0.L)], .val false [.int .i64 a1], .val false [.int .i64 a2]] = some (.val false [.int .i64 r], [])) := by
  induction n with
  | zero => exact fun _ _ _ _ h => (by rw [U_spec_l2ok] at h; cases h)
  | succ n ih =>
    have ih_spec_l2ok := ih
    exact fun a0 a1 a2 r h => g_spec_l2ok (U_spec_l2ok n) ih_spec_l2ok n a0 a1 a2 r (by rw [U_spec_l2ok] at h; exact h)
def okV (d : Nat) (left : Int) (v : GValue) : Int := if shV d v = true ∧ (ptV v : Int) <= left then left - ptV v else -1
theorem nameOk_eq {a : List UInt8} (h : a.length <= 2 ^ 20) : S_spec_NameOk a = some (nameB a) := if_pos h
theorem l2text_eq {a : List UInt8} (h : a.length <= 2 ^ 20) : S_spec_l2text a = some (textB a) := if_pos h
theorem l2int_eq (n : Int) : S_spec_l2int n = some (decide (-1000000000000 <= n ∧ n <= 1000000000000)) := by
  unfold S_spec_l2int
  by_cases h : (-1000000000000 : Int) <= n
  · rw [if_pos h]; simp [h]
  · rw [if_neg h]; simp [h]
theorem l2ok_loop {G : GValue → Int → Int → Option Int} {v : GValue} {dd : Nat} {deep : Int} (hdd : deep + dd = 5) (h1d : 1 <= deep) (hs : vsz v <= 2 ^ 20) (hk : v.Kind = 4 ∨ (v.Kind = 5 ∧ v.K.length = v.L.length))
    (hG : ∀ x ∈ v.L, ∀ r : Int, 0 <= r → r <= 40 → G x (deep + 1) r = some (okV dd r x)) : ∀ (d i m : Nat) (r : Int), i + d = v.L.length → d < m → 0 <= r → r <= 40 →
    ∃ z, L_spec_l2ok_l0 G deep v m r (i : Int) = some (if ((v.Kind = 5 → kAll v.K i d = true) ∧ (v.L.drop i).all (shV dd) = true) ∧ (ptVs (v.L.drop i) : Int) <= r then .inr (r - ptVs (v.L.drop i), z) else .inl (-1)) := by
  have he := vsz_eq v
  have hl := vszs_len v.L
  intro d
  induction d with
  | zero =>
    intro i m r hi hm h0 h1
    obtain ⟨m, rfl, _⟩ := fuel hm
    refine ⟨(i : Int), ?_⟩
    rw [L_spec_l2ok_l0, if_neg (by omega), List.drop_eq_nil_of_le (by omega), if_pos ⟨⟨fun _ => rfl, rfl⟩, by simpa [ptVs] using h0⟩]
    simp [ptVs]
  | succ d ih =>
    intro i m r hi hm h0 h1
    obtain ⟨m, rfl, hm'⟩ := fuel hm
    have hil : i < v.L.length := by omega
    have hp : ptVs (v.L.drop i) = ptV v.L[i] + ptVs (v.L.drop (i + 1)) := by rw [drop_cons hil]; simp only [ptVs]
    have ha : (v.L.drop i).all (shV dd) = (shV dd v.L[i] && (v.L.drop (i + 1)).all (shV dd)) := by rw [drop_cons hil, List.all_cons]
    have hd1 : w64 (deep + 1) = deep + 1 := w64_id (by omega) (by omega)
    have tail : (v.Kind = 5 → kOk v.K i = true) → ∃ z, ((G v.L[i] (w64 (deep + 1)) r).bind fun r12 => if r12 < 0 then some (.inl (-1)) else L_spec_l2ok_l0 G deep v m r12 (w64 ((i : Int) + 1))) =
        some (if ((v.Kind = 5 → kAll v.K i (d + 1) = true) ∧ (v.L.drop i).all (shV dd) = true) ∧ (ptVs (v.L.drop i) : Int) <= r then .inr (r - ptVs (v.L.drop i), z) else .inl (-1)) := by
      intro hki
      rw [hd1, hG _ (List.getElem_mem hil) r h0 h1, Option.bind_some, w64_succ (by omega), hp, ha]
      unfold okV
      by_cases hc : shV dd v.L[i] = true ∧ (ptV v.L[i] : Int) <= r
      · rw [if_pos hc, if_neg (by omega)]
        obtain ⟨z, hz⟩ := ih (i + 1) m (r - ptV v.L[i]) (by omega) (by omega) (by omega) (by omega)
        refine ⟨z, ?_⟩
        rw [hz, hc.1, Bool.true_and]
        have hcond : (((v.Kind = 5 → kAll v.K (i + 1) d = true) ∧ (v.L.drop (i + 1)).all (shV dd) = true) ∧ (ptVs (v.L.drop (i + 1)) : Int) <= r - ptV v.L[i]) ↔
            (((v.Kind = 5 → kAll v.K i (d + 1) = true) ∧ (v.L.drop (i + 1)).all (shV dd) = true) ∧ ((ptV v.L[i] + ptVs (v.L.drop (i + 1)) : Nat) : Int) <= r) := by
          have hka : (v.Kind = 5 → kAll v.K (i + 1) d = true) ↔ (v.Kind = 5 → kAll v.K i (d + 1) = true) := by
            constructor
            · intro h hk; rw [kAll_succ, hki hk, h hk]; rfl
            · intro h hk; have := h hk; rw [kAll_succ, hki hk, Bool.true_and] at this; exact this
          rw [hka]
          constructor
          · rintro ⟨h1, h2⟩; exact ⟨h1, by omega⟩
          · rintro ⟨h1, h2⟩; exact ⟨h1, by omega⟩
        by_cases hd : ((v.Kind = 5 → kAll v.K (i + 1) d = true) ∧ (v.L.drop (i + 1)).all (shV dd) = true) ∧ (ptVs (v.L.drop (i + 1)) : Int) <= r - ptV v.L[i]
        · rw [if_pos hd, if_pos (hcond.1 hd)]; congr 3; omega
        · rw [if_neg hd, if_neg (fun h => hd (hcond.2 h))]
      · refine ⟨0, ?_⟩
        rw [if_neg hc, if_pos (by omega), if_neg]
        rintro ⟨⟨_, h2⟩, h3⟩
        rw [Bool.and_eq_true] at h2
        exact hc ⟨h2.1, by omega⟩
    have bad : v.Kind = 5 → kOk v.K i = false → ∃ z, (some (.inl (-1)) : Option (Int ⊕ (Int × Int))) = some (if ((v.Kind = 5 → kAll v.K i (d + 1) = true) ∧ (v.L.drop i).all (shV dd) = true) ∧ (ptVs (v.L.drop i) : Int) <= r then .inr (r - ptVs (v.L.drop i), z) else .inl (-1)) := by
      intro hk hki
      refine ⟨0, ?_⟩
      rw [if_neg]
      rintro ⟨⟨h1, _⟩, _⟩
      have := h1 hk
      rw [kAll_succ, hki] at this
      cases this
    rw [L_spec_l2ok_l0, if_pos (by omega)]
    rcases hk with hk | ⟨hk, hkl⟩
    · rw [if_neg (by omega), natO_nat, Option.bind_some, get_some hil, Option.bind_some]
      exact tail fun h => by omega
    · have hik : i < v.K.length := by omega
      have hx := bsz_mem (List.getElem_mem hik)
      rw [if_pos hk, natO_nat, Option.bind_some, get_some hik, Option.bind_some, nameOk_eq (by omega), Option.bind_some]
      cases hnm : nameB v.K[i] with
      | false =>
        dsimp only
        refine bad hk ?_
        by_cases h0 : i = 0
        · subst h0; rw [kOk_zero hik, hnm]
        · rw [kOk_eq hik (by omega), hnm]; rfl
      | true =>
        dsimp only
        by_cases h0 : 0 < i
        · rw [if_pos (by omega), w64_pred (by omega) h0, natO_nat, Option.bind_some, get_some (show i - 1 < v.K.length by omega), Option.bind_some]
          by_cases hb : Op.bytesLess (v.K[i - 1]'(by omega)) v.K[i] = true
          · rw [if_pos hb, get_some hil, Option.bind_some]
            exact tail fun _ => by rw [kOk_eq hik h0, hnm, hb]; rfl
          · rw [if_neg hb]
            refine bad hk ?_
            rw [kOk_eq hik h0, hnm]; simpa using hb
        · have : i = 0 := by omega
          subst this
          rw [if_neg (by omega), get_some hil, Option.bind_some]
          exact tail fun _ => by rw [kOk_zero hik, hnm]
theorem l2ok_T {G : GValue → Int → Int → Option Int} {v : GValue} {f dd : Nat} {deep left : Int} (hdd : deep + dd = 5 ∨ (deep = 6 ∧ dd = 0)) (h1d : 1 <= deep) (hs : vsz v <= 2 ^ 20) (hf : v.L.length < f) (h0 : 0 <= left) (h1 : left <= 40)
    (hG : deep <= 5 → ∀ x ∈ v.L, ∀ r : Int, 0 <= r → r <= 40 → G x (deep + 1) r = some (okV dd r x)) : T_spec_l2ok G f v deep left = some (okV (if deep <= 5 then dd + 1 else 0) left v) := by
  have he := vsz_eq v
  have hl := vszs_len v.L
  have hpt := ptV_eq v
  have hpl := ptVs_len v.L
  unfold T_spec_l2ok
  rw [w64_id (by omega) (by omega)]
  by_cases hleft : left - 1 < 0
  · rw [if_pos hleft]
    unfold okV; rw [if_neg (by rintro ⟨_, h⟩; omega)]
  rw [if_neg hleft]
  by_cases hdeep : 5 < deep
  · rw [if_pos hdeep, if_neg (show ¬ deep <= 5 by omega)]
    unfold okV; rw [if_neg (by rintro ⟨h, _⟩; simp [shV] at h)]
  rw [if_neg hdeep, if_pos (show deep <= 5 by omega)]
  have hdd : deep + dd = 5 := by omega
  have hG := hG (by omega)
  unfold okV
  simp only [shV]
  have fin0 : v.L.length = 0 → (v.L.all (shV dd) = true ∧ ptV v = 1) := fun h => by
    have : v.L = [] := List.eq_nil_of_length_eq_zero h
    rw [hpt, this]; exact ⟨rfl, rfl⟩
  have yes : locV v = true → v.L.length = 0 → some (left - 1) = some (if (locV v && v.L.all (shV dd)) = true ∧ (ptV v : Int) <= left then left - ptV v else -1) := fun h1 h2 => by
    obtain ⟨a1, a2⟩ := fin0 h2
    rw [h1, a1, a2, if_pos ⟨rfl, by omega⟩]; rfl
  have no : locV v = false → some (-1) = some (if (locV v && v.L.all (shV dd)) = true ∧ (ptV v : Int) <= left then left - ptV v else -1) := fun h1 => by
    rw [h1, if_neg (by rintro ⟨h, _⟩; cases h)]
  have lp : v.Kind = 4 ∨ (v.Kind = 5 ∧ v.K.length = v.L.length) → (∀ b : Bool, v.L.length <= 40 → ((v.Kind = 5 → kAll v.K 0 v.L.length = true) ↔ b = true) → locV v = b) → ((L_spec_l2ok_l0 G deep v f (left - 1) 0).bind fun o8 => match o8 with | .inl o8_0 => some o8_0 | .inr (⟨o8_1_0, o8_1_1⟩) => some o8_1_0) =
      some (if (locV v && v.L.all (shV dd)) = true ∧ (ptV v : Int) <= left then left - ptV v else -1) := fun hk hloc => by
    obtain ⟨z, hz⟩ := l2ok_loop (G := G) hdd h1d hs hk hG v.L.length 0 f (left - 1) (by omega) (by omega) (by omega) (by omega)
    rw [show ((0 : Nat) : Int) = 0 from rfl, List.drop_zero] at hz
    rw [hz, Option.bind_some]
    by_cases hc : ((v.Kind = 5 → kAll v.K 0 v.L.length = true) ∧ v.L.all (shV dd) = true) ∧ (ptVs v.L : Int) <= left - 1
    · rw [if_pos hc]
      have h40 : v.L.length <= 40 := by omega
      have := hloc true h40 ⟨fun _ => rfl, fun _ => hc.1.1⟩
      rw [this, hc.1.2, if_pos ⟨rfl, by omega⟩, hpt]
      dsimp only
      congr 1; omega
    · rw [if_neg hc, if_neg]
      rintro ⟨h2, h3⟩
      rw [Bool.and_eq_true] at h2
      refine hc ⟨⟨?_, h2.2⟩, by omega⟩
      by_cases h40 : v.L.length <= 40
      · by_cases hb : (v.Kind = 5 → kAll v.K 0 v.L.length = true)
        · exact hb
        · have := hloc false h40 ⟨fun h => (hb h).elim, fun h => by cases h⟩
          rw [this] at h2; cases h2.1
      · omega
  have hloc : ∀ k, v.Kind = k → locV v = (if k = 0 ∨ k = 6 then decide (v.N = 0 ∧ v.S.length = 0 ∧ v.K.length = 0 ∧ v.L.length = 0)
      else if k = 1 then decide ((0 <= v.N ∧ v.N <= 1) ∧ v.S.length = 0 ∧ v.K.length = 0 ∧ v.L.length = 0)
      else if k = 2 then decide ((-1000000000000 <= v.N ∧ v.N <= 1000000000000) ∧ v.S.length = 0 ∧ v.K.length = 0 ∧ v.L.length = 0)
      else if k = 3 then textB v.S && decide (v.N = 0 ∧ v.K.length = 0 ∧ v.L.length = 0)
      else if k = 4 then decide (v.N = 0 ∧ v.S.length = 0 ∧ v.K.length = 0 ∧ v.L.length <= 40)
      else if k = 5 then decide (v.K.length = v.L.length ∧ v.N = 0 ∧ v.S.length = 0 ∧ v.L.length <= 40) && kAll v.K 0 v.K.length
      else false) := fun k hk => by unfold locV; rw [hk]
  by_cases k3 : v.Kind = 3
  · have hv := hloc 3 k3
    simp only [show ¬ ((3 : Int) = 0 ∨ (3 : Int) = 6) by omega, if_false, show ¬ ((3 : Int) = 1) by omega, show ¬ ((3 : Int) = 2) by omega, if_true] at hv
    rw [if_pos k3]
    by_cases a1 : 0 < ((v.K.length : Nat) : Int)
    · rw [if_pos a1]; exact no (by rw [hv, decide_eq_false (by omega)]; simp)
    · rw [if_neg a1]
      by_cases a2 : v.N = 0
      · rw [if_pos a2]
        by_cases a3 : 0 < ((v.L.length : Nat) : Int)
        · rw [if_pos a3]; exact no (by rw [hv, decide_eq_false (by omega)]; simp)
        · rw [if_neg a3, l2text_eq (by omega), Option.bind_some]
          rw [decide_eq_true (by omega), Bool.and_true] at hv
          cases ht : textB v.S with
          | true => exact yes (by rw [hv, ht]) (by omega)
          | false => exact no (by rw [hv, ht])
      · rw [if_neg a2]; exact no (by rw [hv, decide_eq_false (by omega)]; simp)
  rw [if_neg k3]
  by_cases hS : 0 < ((v.S.length : Nat) : Int)
  · rw [if_pos hS]
    refine no ?_
    unfold locV
    simp only [k3, if_false]
    repeat' split
    all_goals first | rfl | (rw [decide_eq_false (by omega)]; try rfl)
  rw [if_neg hS]
  by_cases k5 : v.Kind = 5
  · have hv := hloc 5 k5
    simp only [show ¬ ((5 : Int) = 0 ∨ (5 : Int) = 6) by omega, if_false, show ¬ ((5 : Int) = 1) by omega, show ¬ ((5 : Int) = 2) by omega, show ¬ ((5 : Int) = 3) by omega, show ¬ ((5 : Int) = 4) by omega, if_true] at hv
    rw [if_pos k5]
    by_cases a2 : v.N = 0
    · rw [if_pos a2]
      by_cases a3 : ((v.K.length : Nat) : Int) = ((v.L.length : Nat) : Int)
      · rw [if_pos a3]
        refine lp (.inr ⟨k5, by omega⟩) fun b h40 hb => ?_
        rw [hv, decide_eq_true (by omega), Bool.true_and, show v.K.length = v.L.length by omega, Bool.eq_iff_iff, <- hb]
        exact ⟨fun h _ => h, fun h => h k5⟩
      · rw [if_neg a3]; exact no (by rw [hv, decide_eq_false (by omega)]; rfl)
    · rw [if_neg a2]; exact no (by rw [hv, decide_eq_false (by omega)]; rfl)
  rw [if_neg k5]
  by_cases hK : 0 < ((v.K.length : Nat) : Int)
  · rw [if_pos hK]
    refine no ?_
    unfold locV
    simp only [k3, k5, if_false]
    repeat' split
    all_goals first | rfl | (rw [decide_eq_false (by omega)]; try rfl)
  rw [if_neg hK]
  by_cases k1 : v.Kind = 1
  · have hv := hloc 1 k1
    simp only [show ¬ ((1 : Int) = 0 ∨ (1 : Int) = 6) by omega, if_false, if_true] at hv
    rw [if_pos k1]
    by_cases a3 : 0 < ((v.L.length : Nat) : Int)
    · rw [if_pos a3]; exact no (by rw [hv, decide_eq_false (by omega)])
    · rw [if_neg a3]
      by_cases a4 : v.N < 0
      · rw [if_pos a4]; exact no (by rw [hv, decide_eq_false (by omega)])
      · rw [if_neg a4]
        by_cases a5 : 1 < v.N
        · rw [if_pos a5]; exact no (by rw [hv, decide_eq_false (by omega)])
        · rw [if_neg a5]; exact yes (by rw [hv, decide_eq_true (by omega)]) (by omega)
  rw [if_neg k1]
  by_cases k2 : v.Kind = 2
  · have hv := hloc 2 k2
    simp only [show ¬ ((2 : Int) = 0 ∨ (2 : Int) = 6) by omega, if_false, show ¬ ((2 : Int) = 1) by omega, if_true] at hv
    rw [if_pos k2]
    by_cases a3 : 0 < ((v.L.length : Nat) : Int)
    · rw [if_pos a3]; exact no (by rw [hv, decide_eq_false (by omega)])
    · rw [if_neg a3, l2int_eq, Option.bind_some]
      by_cases a4 : -1000000000000 <= v.N ∧ v.N <= 1000000000000
      · rw [decide_eq_true a4]; exact yes (by rw [hv, decide_eq_true (by omega)]) (by omega)
      · rw [decide_eq_false a4]; exact no (by rw [hv, decide_eq_false (by omega)])
  rw [if_neg k2]
  by_cases a2 : v.N = 0
  · rw [if_pos a2]
    by_cases k4 : v.Kind = 4
    · have hv := hloc 4 k4
      simp only [show ¬ ((4 : Int) = 0 ∨ (4 : Int) = 6) by omega, if_false, show ¬ ((4 : Int) = 1) by omega, show ¬ ((4 : Int) = 2) by omega, show ¬ ((4 : Int) = 3) by omega, if_true] at hv
      rw [if_pos k4]
      refine lp (.inl k4) fun b h40 hb => ?_
      rw [hv, decide_eq_true (by omega)]
      exact (hb.1 fun h => by omega).symm
    · rw [if_neg k4]
      by_cases a3 : 0 < ((v.L.length : Nat) : Int)
      · rw [if_pos a3]
        refine no ?_
        unfold locV
        simp only [k1, k2, k3, k4, k5, if_false]
        repeat' split
        all_goals first | rfl | (rw [decide_eq_false (by omega)])
      · rw [if_neg a3]
        by_cases k0 : v.Kind = 0
        · rw [if_pos k0]; exact yes (by unfold locV; rw [if_pos (.inl k0), decide_eq_true (by omega)]) (by omega)
        · rw [if_neg k0]
          by_cases k6 : v.Kind = 6
          · rw [if_pos k6]; exact yes (by unfold locV; rw [if_pos (.inr k6), decide_eq_true (by omega)]) (by omega)
          · rw [if_neg k6]
            exact no (by unfold locV; simp only [k0, k1, k2, k3, k4, k5, k6, or_self, if_false])
  · rw [if_neg a2]
    refine no ?_
    unfold locV
    simp only [k1, k2, k3, k5, if_false]
    repeat' split
    all_goals first | rfl | (rw [decide_eq_false (by omega)])
theorem l2ok_U : ∀ (N : Nat) (v : GValue), vsz v < N → vsz v <= 2 ^ 20 → ∀ (f : Nat) (deep left : Int), vsz v + 2 <= f → 1 <= deep → deep <= 6 → 0 <= left → left <= 40 → U_spec_l2ok f v deep left = some (okV (6 - deep).toNat left v) := by
  intro N
  induction N with
  | zero => intro v hv; omega
  | succ N ih =>
    intro v hv hs f deep left hf h1 h2 h3 h4
    obtain ⟨f, rfl, _⟩ := fuel (show 0 < f by omega)
    have he := vsz_eq v
    have hl := vszs_len v.L
    rw [U_spec_l2ok]
    have := l2ok_T (G := U_spec_l2ok f) (f := f) (dd := (5 - deep).toNat) (deep := deep) (left := left) (by omega) h1 hs (by omega) h3 h4 fun hd x hx r g0 g1 => by
      have hm := vszs_mem hx
      have := ih x (by omega) (by omega) f (deep + 1) r (by omega) (by omega) (by omega) g0 g1
      rw [show (6 - (deep + 1)).toNat = (5 - deep).toNat by omega] at this
      exact this
    rw [this]
    congr 2
    by_cases hd : deep <= 5
    · rw [if_pos hd]; omega
    · rw [if_neg hd]; omega
def S_spec_l2ok (a0 : GValue) (a1 : Int) (a2 : Int) : Option Int := if vsz a0 <= 2 ^ 20 ∧ (1 <= a1 ∧ a1 <= 6) ∧ 0 <= a2 ∧ a2 <= 40 then some (okV (6 - a1).toNat a2 a0) else none
theorem spec_spec_l2ok (a0 : GValue) (a1 : Int) (a2 : Int) (r : Int) (h : S_spec_l2ok a0 a1 a2 = some r) : ∃ n, U_spec_l2ok n a0 a1 a2 = some r := by
  unfold S_spec_l2ok at h
  obtain ⟨⟨hs, ⟨h1, h2⟩, h3, h4⟩, h⟩ := need_c h
  exact ⟨vsz a0 + 2, by rw [<- h]; exact l2ok_U _ a0 (Nat.lt_succ_self _) hs _ a1 a2 (Nat.le_refl _) h1 h2 h3 h4⟩
theorem ok_spec_l2ok (a0 : GValue) (a1 : Int) (a2 : Int) (r : Int) (h : S_spec_l2ok a0 a1 a2 = some r) : (mach cfg).call 46 [] [.val true [.int .i64 a0.Kind, .int .i64 a0.N, .seq (eL e_u8 a0.S), .seq (eL (e_sl e_u8) a0.K), .seq (eL e_GValue a0.L)], .val false [.int .i64 a1], .val false [.int .i64 a2]] = some (.val false [.int .i64 r], []) := by
  obtain ⟨n, hn⟩ := spec_spec_l2ok a0 a1 a2 r h
  exact (rec_spec_l2ok n) a0 a1 a2 r hn
def S_spec_ValOk (a0 : GValue) : Option Bool :=
  (S_spec_l2ok a0 1 40).bind fun r1 =>
  some (decide (0 <= r1))
set_option maxRecDepth 100000 in
theorem fd_30 : cfg.funcs 30 = some (bodyOf Tryz.f30, Tryz.f30.ntmps, Tryz.f30.results.toList) := fn_of Tryz.func30 (by kernel_rfl) (by kernel_rfl)
theorem ok_spec_ValOk (a0 : GValue) (r : Bool) (h : S_spec_ValOk a0 = some r) : (mach cfg).call 30 [] [.val true [.int .i64 a0.Kind, .int .i64 a0.N, .seq (eL e_u8 a0.S), .seq (eL (e_sl e_u8) a0.K), .seq (eL e_GValue a0.L)]] = some (.val false [.bool r], []) := by
  unfold S_spec_ValOk at h
  obtain ⟨r1, hr1, h⟩ := bs h
  obtain rfl := Option.some.inj h
  exact call_wQ [.cl (ok_spec_l2ok a0 1 40 _ hr1), .gD 0 r1] rfl fd_30 (by kernel_rfl)
def S_spec_l2bytes (a0 : (List UInt8)) (a1 : (List UInt8)) : Option Int :=
  if Op.bytesLess a0 a1 = true then
    some (-1)
  else
    if Op.bytesLess a1 a0 = true then
      some 1
    else
      some 0
set_option maxRecDepth 100000 in
theorem fd_61 : cfg.funcs 61 = some (bodyOf Tryz.f61, Tryz.f61.ntmps, Tryz.f61.results.toList) := fn_of Tryz.func61 (by kernel_rfl) (by kernel_rfl)
theorem ok_spec_l2bytes (a0 : (List UInt8)) (a1 : (List UInt8)) (r : Int) (h : S_spec_l2bytes a0 a1 = some r) : (mach cfg).call 61 [] [.val false [.seq (eL e_u8 a0)], .val false [.seq (eL e_u8 a1)]] = some (.val false [.int .i64 r], []) := by
  unfold S_spec_l2bytes at h
  rcases ite_some h with ⟨c1, h⟩ | ⟨c1, h⟩
  ·obtain rfl := Option.some.inj h
   exact call_wQ [⟨.bytes (eL e_u8 a0), .s a0, A.bytes⟩, ⟨.bytes (eL e_u8 a1), .s a1, A.bytes⟩, ⟨.ltS a0 a1, .b true, (A.ltS_t c1)⟩] rfl fd_61 (by kernel_rfl)
  ·rcases ite_some h with ⟨c2, h⟩ | ⟨c2, h⟩
   ·obtain rfl := Option.some.inj h
    exact call_wQ [⟨.bytes (eL e_u8 a0), .s a0, A.bytes⟩, ⟨.bytes (eL e_u8 a1), .s a1, A.bytes⟩, ⟨.ltS a0 a1, .b false, (A.ltS_f c1)⟩, ⟨.bytes (eL e_u8 a0), .s a0, A.bytes⟩, ⟨.bytes (eL e_u8 a1), .s a1, A.bytes⟩, ⟨.ltS a1 a0, .b true, (A.ltS_t c2)⟩] rfl fd_61 (by kernel_rfl)
   ·obtain rfl := Option.some.inj h
    exact call_wQ [⟨.bytes (eL e_u8 a0), .s a0, A.bytes⟩, ⟨.bytes (eL e_u8 a1), .s a1, A.bytes⟩, ⟨.ltS a0 a1, .b false, (A.ltS_f c1)⟩, ⟨.bytes (eL e_u8 a0), .s a0, A.bytes⟩, ⟨.bytes (eL e_u8 a1), .s a1, A.bytes⟩, ⟨.ltS a1 a0, .b false, (A.ltS_f c2)⟩] rfl fd_61 (by kernel_rfl)
def S_spec_l2num (a0 : Int) (a1 : Int) : Option Int :=
  if a0 < a1 then
    some (-1)
  else
    if a1 < a0 then
      some 1
    else
      some 0
set_option maxRecDepth 100000 in
theorem fd_60 : cfg.funcs 60 = some (bodyOf Tryz.f60, Tryz.f60.ntmps, Tryz.f60.results.toList) := fn_of Tryz.func60 (by kernel_rfl) (by kernel_rfl)
theorem ok_spec_l2num (a0 : Int) (a1 : Int) (r : Int) (h : S_spec_l2num a0 a1 = some r) : (mach cfg).call 60 [] [.val false [.int .i64 a0], .val false [.int .i64 a1]] = some (.val false [.int .i64 r], []) := by
  unfold S_spec_l2num at h
  rcases ite_some h with ⟨c1, h⟩ | ⟨c1, h⟩
  ·obtain rfl := Option.some.inj h
   exact call_wQ [.lT c1] rfl fd_60 (by kernel_rfl)
  ·rcases ite_some h with ⟨c2, h⟩ | ⟨c2, h⟩
   ·obtain rfl := Option.some.inj h
    exact call_wQ [.lF c1, .lT c2] rfl fd_60 (by kernel_rfl)
   ·obtain rfl := Option.some.inj h
    exact call_wQ [.lF c1, .lF c2] rfl fd_60 (by kernel_rfl)
def L_spec_l2cmp_l0 (G_spec_l2cmp : GValue → GValue → Option Int) (a0 : GValue) (a1 : GValue) : Nat → Int → Option (Int ⊕ Int)
  | 0, _ => none
  | m + 1, v0 =>
    if v0 < ((a0.L.length : Nat) : Int) then
      if v0 < ((a1.L.length : Nat) : Int) then
        if a0.Kind = 5 then
          (natO v0).bind fun i4 =>
          (a0.K[i4]?).bind fun x5 =>
          (a1.K[i4]?).bind fun x6 =>
          (S_spec_l2bytes x5 x6).bind fun r7 =>
          if r7 = 0 then
            (a0.L[i4]?).bind fun x9 =>
            (a1.L[i4]?).bind fun x10 =>
            (G_spec_l2cmp x9 x10).bind fun r11 =>
            if r11 = 0 then
              L_spec_l2cmp_l0 G_spec_l2cmp a0 a1 m (w64 (v0 + 1))
            else
              some (.inl r11)
          else
            some (.inl r7)
        else
          (natO v0).bind fun i4 =>
          (a0.L[i4]?).bind fun x5 =>
          (a1.L[i4]?).bind fun x6 =>
          (G_spec_l2cmp x5 x6).bind fun r7 =>
          if r7 = 0 then
            L_spec_l2cmp_l0 G_spec_l2cmp a0 a1 m (w64 (v0 + 1))
          else
            some (.inl r7)
      else
        some (.inr v0)
    else
      some (.inr v0)
theorem gl_spec_l2cmp_l0 (G_spec_l2cmp : GValue → GValue → Option Int) (H_spec_l2cmp : ∀ (a0 : GValue) (a1 : GValue) (r : Int), G_spec_l2cmp a0 a1 = some r → (mach cfg).call 47 [] [.val true [.int .i64 a0.Kind, .int .i64 a0.N, .seq (eL e_u8 a0.S), .seq (eL (e_sl e_u8) a0.K), .seq (eL e_GValue a0.L)], .val true [.int .i64 a1.Kind, .int .i64 a1.N, .seq (eL e_u8 a1.S), .seq (eL (e_sl e_u8) a1.K), .seq (eL e_GValue a1.L)]] = some (.val false [.int .i64 r], [])) (a0 : GValue) (a1 : GValue) (m : Nat) : ∀ (v0 : Int) (o : (Int ⊕ Int)), L_spec_l2cmp_l0 G_spec_l2cmp a0 a1 m v0 = some o → (mach cfg).loop 47 (loopB Tryz.f47 0) ⟨[(2, .val false [.ptr 0 0]), (3, .val false [.ptr 1 0]), (5, .val false [.int .i64 v0])], [.var [.int .i64 a0.Kind, .int .i64 a0.N, .seq (eL e_u8 a0.S), .seq (eL (e_sl e_u8) a0.K), .seq (eL e_GValue a0.L)], .var [.int .i64 a1.Kind, .int .i64 a1.N, .seq (eL e_u8 a1.S), .seq (eL (e_sl e_u8) a1.K), .seq (eL e_GValue a1.L)]], 0⟩ = some (match o with | .inl o_0 => (.ret, (⟨[(4, .val false [.int .i64 o_0])], [], 0⟩ : S)) | .inr (o_1) => (.exit 0, (⟨[(2, .val false [.ptr 0 0]), (3, .val false [.ptr 1 0]), (5, .val false [.int .i64 o_1]), (47, .val false [.bool false])], [.var [.int .i64 a0.Kind, .int .i64 a0.N, .seq (eL e_u8 a0.S), .seq (eL (e_sl e_u8) a0.K), .seq (eL e_GValue a0.L)], .var [.int .i64 a1.Kind, .int .i64 a1.N, .seq (eL e_u8 a1.S), .seq (eL (e_sl e_u8) a1.K), .seq (eL e_GValue a1.L)]], 0⟩ : S))) := by
  induction m with
  | zero => intro v0 o h; cases h
  | succ m ih =>
    intro v0 o h
    rw [L_spec_l2cmp_l0] at h
    rcases ite_some h with ⟨c1, h⟩ | ⟨c1, h⟩
    ·rcases ite_some h with ⟨c2, h⟩ | ⟨c2, h⟩
     ·rcases ite_some h with ⟨c3, h⟩ | ⟨c3, h⟩
      ·obtain ⟨i4, hi4, h⟩ := bs h
       obtain ⟨x5, hx5, h⟩ := bs h
       obtain ⟨x6, hx6, h⟩ := bs h
       obtain ⟨r7, hr7, h⟩ := bs h
       let p22 : List (Q cfg) := [.le e_GValue a0.L, .lT c1, .le e_GValue a1.L, .lT c2, .eT c3, .na hi4, .ix0 (e_sl e_u8) hx5, .na hi4, .ix0 (e_sl e_u8) hx6, .cl (ok_spec_l2bytes x5 x6 _ hr7)]
       rcases ite_some h with ⟨c8, h⟩ | ⟨c8, h⟩
       ·obtain ⟨x9, hx9, h⟩ := bs h
        obtain ⟨x10, hx10, h⟩ := bs h
        obtain ⟨r11, hr11, h⟩ := bs h
        let p23 : List (Q cfg) := p22 ++ [.eT c8, .nt true, .na hi4, .ix hx9 (eq_GValue x9), .na hi4, .ix hx10 (eq_GValue x10), .cl (H_spec_l2cmp x9 x10 _ hr11)]
        rcases ite_some h with ⟨c12, h⟩ | ⟨c12, h⟩
        ·exact loop_nQ (p23 ++ [.eT c12, .nt true, .ad v0 1]) (by kernel_rfl) (ih (w64 (v0 + 1)) o h)
        ·obtain rfl := Option.some.inj h
         exact loop_eQ (p23 ++ [.eF c12, .nt false]) (by kernel_rfl) (by intro h; cases h)
       ·obtain rfl := Option.some.inj h
        exact loop_eQ (p22 ++ [.eF c8, .nt false]) (by kernel_rfl) (by intro h; cases h)
      ·obtain ⟨i4, hi4, h⟩ := bs h
       obtain ⟨x5, hx5, h⟩ := bs h
       obtain ⟨x6, hx6, h⟩ := bs h
       obtain ⟨r7, hr7, h⟩ := bs h
       let p24 : List (Q cfg) := [.le e_GValue a0.L, .lT c1, .le e_GValue a1.L, .lT c2, .eF c3, .na hi4, .ix hx5 (eq_GValue x5), .na hi4, .ix hx6 (eq_GValue x6), .cl (H_spec_l2cmp x5 x6 _ hr7)]
       rcases ite_some h with ⟨c8, h⟩ | ⟨c8, h⟩
       ·exact loop_nQ (p24 ++ [.eT c8, .nt true, .ad v0 1]) (by kernel_rfl) (ih (w64 (v0 + 1)) o h)
       ·obtain rfl := Option.some.inj h
        exact loop_eQ (p24 ++ [.eF c8, .nt false]) (by kernel_rfl) (by intro h; cases h)
     ·obtain rfl := Option.some.inj h
      exact loop_eQ [.le e_GValue a0.L, .lT c1, .le e_GValue a1.L, .lF c2] (by kernel_rfl) (by intro h; cases h)
    ·obtain rfl := Option.some.inj h
     exact loop_eQ [.le e_GValue a0.L, .lF c1] (by kernel_rfl) (by intro h; cases h)
def T_spec_l2cmp (G_spec_l2cmp : GValue → GValue → Option Int) (n : Nat) (a0 : GValue) (a1 : GValue) : Option Int :=
  if a0.Kind = a1.Kind then
    if a0.Kind = 3 then
      (S_spec_l2bytes a0.S a1.S).bind fun r3 =>
      some r3
    else
      if a0.N = a1.N then
        (L_spec_l2cmp_l0 G_spec_l2cmp a0 a1 n 0).bind fun o4 =>
        match o4 with
        | .inl o4_0 =>
          some o4_0
        | .inr (o4_1) =>
          (S_spec_l2num ((a0.L.length : Nat) : Int) ((a1.L.length : Nat) : Int)).bind fun r5 =>
          some r5
      else
        (S_spec_l2num a0.N a1.N).bind fun r4 =>
        some r4
  else
    (S_spec_l2num a0.Kind a1.Kind).bind fun r2 =>
    some r2
set_option maxRecDepth 100000 in
theorem fd_47 : cfg.funcs 47 = some (bodyOf Tryz.f47, Tryz.f47.ntmps, Tryz.f47.results.toList) := fn_of Tryz.func47 (by kernel_rfl) (by kernel_rfl)
theorem g_spec_l2cmp (G_spec_l2cmp : GValue → GValue → Option Int) (H_spec_l2cmp : ∀ (a0 : GValue) (a1 : GValue) (r : Int), G_spec_l2cmp a0 a1 = some r → (mach cfg).call 47 [] [.val true [.int .i64 a0.Kind, .int .i64 a0.N, .seq (eL e_u8 a0.S), .seq (eL (e_sl e_u8) a0.K), .seq (eL e_GValue a0.L)], .val true [.int .i64 a1.Kind, .int .i64 a1.N, .seq (eL e_u8 a1.S), .seq (eL (e_sl e_u8) a1.K), .seq (eL e_GValue a1.L)]] = some (.val false [.int .i64 r], [])) (n : Nat) (a0 : GValue) (a1 : GValue) (r : Int) (h : T_spec_l2cmp G_spec_l2cmp n a0 a1 = some r) : (mach cfg).call 47 [] [.val true [.int .i64 a0.Kind, .int .i64 a0.N, .seq (eL e_u8 a0.S), .seq (eL (e_sl e_u8) a0.K), .seq (eL e_GValue a0.L)], .val true [.int .i64 a1.Kind, .int .i64 a1.N, .seq (eL e_u8 a1.S), .seq (eL (e_sl e_u8) a1.K), .seq (eL e_GValue a1.L)]] = some (.val false [.int .i64 r], []) := by
  unfold T_spec_l2cmp at h
  rcases ite_some h with ⟨c1, h⟩ | ⟨c1, h⟩
  ·rcases ite_some h with ⟨c2, h⟩ | ⟨c2, h⟩
   ·obtain ⟨r3, hr3, h⟩ := bs h
    obtain rfl := Option.some.inj h
    exact call_wQ [.eT c1, .nt true, .eT c2, .cl (ok_spec_l2bytes a0.S a1.S _ hr3)] rfl fd_47 (by kernel_rfl)
   ·rcases ite_some h with ⟨c3, h⟩ | ⟨c3, h⟩
    ·obtain ⟨o4, ho4, h⟩ := bs h
     let p25 : List (Q cfg) := [.eT c1, .nt true, .eF c2, .eT c3, .nt true, .lp (gl_spec_l2cmp_l0 G_spec_l2cmp H_spec_l2cmp a0 a1 _ 0 _ ho4)]
     rcases o4 with o4_0 | o4_1
     · try dsimp only at h
       obtain rfl := Option.some.inj h
       exact call_wQ p25 rfl fd_47 (by kernel_rfl)
     · try dsimp only at h
       obtain ⟨r5, hr5, h⟩ := bs h
       obtain rfl := Option.some.inj h
       exact call_wQ (p25 ++ [.le e_GValue a0.L, .le e_GValue a1.L, .cl (ok_spec_l2num ((a0.L.length : Nat) : Int) ((a1.L.length : Nat) : Int) _ hr5)]) rfl fd_47 (by kernel_rfl)
    ·obtain ⟨r4, hr4, h⟩ := bs h
     obtain rfl := Option.some.inj h
     exact call_wQ [.eT c1, .nt true, .eF c2, .eF c3, .nt false, .cl (ok_spec_l2num a0.N a1.N _ hr4)] rfl fd_47 (by kernel_rfl)
  ·obtain ⟨r2, hr2, h⟩ := bs h
   obtain rfl := Option.some.inj h
   exact call_wQ [.eF c1, .nt false, .cl (ok_spec_l2num a0.Kind a1.Kind _ hr2)] rfl fd_47 (by kernel_rfl)
def U_spec_l2cmp : Nat → GValue → GValue → Option Int
  | 0, _, _ => none
  | n + 1, a0, a1 => T_spec_l2cmp (U_spec_l2cmp n) n a0 a1
theorem rec_spec_l2cmp (n : Nat) : (∀ (a0 : GValue) (a1 : GValue) (r : Int), U_spec_l2cmp n a0 a1 = some r → (mach cfg).call 47 [] [.val true [.int .i64 a0.Kind, .int .i64 a0.N, .seq (eL e_u8 a0.S), .seq (eL (e_sl e_u8) a0.K), .seq (eL e_GValue a0.L)], .val true [.int .i64 a1.Kind, .int .i64 a1.N, .seq (eL e_u8 a1.S), .seq (eL (e_sl e_u8) a1.K), .seq (eL e_GValue a1.L)]] = some (.val false [.int .i64 r], [])) := by
  induction n with
  | zero => exact fun _ _ _ h => (by rw [U_spec_l2cmp] at h; cases h)
  | succ n ih =>
    have ih_spec_l2cmp := ih
    exact fun a0 a1 r h => g_spec_l2cmp (U_spec_l2cmp n) ih_spec_l2cmp n a0 a1 r (by rw [U_spec_l2cmp] at h; exact h)
def S_spec_l2cmp (a0 : GValue) (a1 : GValue) : Option Int := U_spec_l2cmp (vsz a0 + 3) a0 a1
theorem spec_spec_l2cmp (a0 : GValue) (a1 : GValue) (r : Int) (h : S_spec_l2cmp a0 a1 = some r) : ∃ n, U_spec_l2cmp n a0 a1 = some r := ⟨_, h⟩
theorem ok_spec_l2cmp (a0 : GValue) (a1 : GValue) (r : Int) (h : S_spec_l2cmp a0 a1 = some r) : (mach cfg).call 47 [] [.val true [.int .i64 a0.Kind, .int .i64 a0.N, .seq (eL e_u8 a0.S), .seq (eL (e_sl e_u8) a0.K), .seq (eL e_GValue a0.L)], .val true [.int .i64 a1.Kind, .int .i64 a1.N, .seq (eL e_u8 a1.S), .seq (eL (e_sl e_u8) a1.K), .seq (eL e_GValue a1.L)]] = some (.val false [.int .i64 r], []) := by
  obtain ⟨n, hn⟩ := spec_spec_l2cmp a0 a1 r h
  exact (rec_spec_l2cmp n) a0 a1 r hn
def S_spec_l4zero (a0 : GValue) : Option Bool :=
  (S_spec_l2cmp a0 (GValue.mk 0 0 [] [] [])).bind fun r1 =>
  if r1 = 0 then
    some (decide (a0.N = 0))
  else
    some false
set_option maxRecDepth 100000 in
theorem fd_31 : cfg.funcs 31 = some (bodyOf Tryz.f31, Tryz.f31.ntmps, Tryz.f31.results.toList) := fn_of Tryz.func31 (by kernel_rfl) (by kernel_rfl)
theorem ok_spec_l4zero (a0 : GValue) (r : Bool) (h : S_spec_l4zero a0 = some r) : (mach cfg).call 31 [] [.val true [.int .i64 a0.Kind, .int .i64 a0.N, .seq (eL e_u8 a0.S), .seq (eL (e_sl e_u8) a0.K), .seq (eL e_GValue a0.L)]] = some (.val false [.bool r], []) := by
  unfold S_spec_l4zero at h
  obtain ⟨r1, hr1, h⟩ := bs h
  rcases ite_some h with ⟨c2, h⟩ | ⟨c2, h⟩
  ·obtain rfl := Option.some.inj h
   exact call_wQ [.cl (ok_spec_l2cmp a0 (GValue.mk 0 0 [] [] []) _ hr1), .eT c2, .eD a0.N 0] rfl fd_31 (by kernel_rfl)
  ·obtain rfl := Option.some.inj h
   exact call_wQ [.cl (ok_spec_l2cmp a0 (GValue.mk 0 0 [] [] []) _ hr1), .eF c2] rfl fd_31 (by kernel_rfl)
def L_spec_l2known_l0 (G_spec_l2known : GValue → Option Bool) (a0 : GValue) : Nat → Int → Option (Bool ⊕ Int)
  | 0, _ => none
  | m + 1, v0 =>
    if v0 < ((a0.L.length : Nat) : Int) then
      (natO v0).bind fun i2 =>
      (a0.L[i2]?).bind fun x3 =>
      (G_spec_l2known x3).bind fun r4 =>
      match r4 with
      | true =>
        L_spec_l2known_l0 G_spec_l2known a0 m (w64 (v0 + 1))
      | false =>
        some (.inl false)
    else
      some (.inr v0)
theorem gl_spec_l2known_l0 (G_spec_l2known : GValue → Option Bool) (H_spec_l2known : ∀ (a0 : GValue) (r : Bool), G_spec_l2known a0 = some r → (mach cfg).call 45 [] [.val true [.int .i64 a0.Kind, .int .i64 a0.N, .seq (eL e_u8 a0.S), .seq (eL (e_sl e_u8) a0.K), .seq (eL e_GValue a0.L)]] = some (.val false [.bool r], [])) (a0 : GValue) (m : Nat) : ∀ (v0 : Int) (o : (Bool ⊕ Int)), L_spec_l2known_l0 G_spec_l2known a0 m v0 = some o → (mach cfg).loop 45 (loopB Tryz.f45 0) ⟨[(1, .val false [.ptr 0 0]), (3, .val false [.int .i64 v0])], [.var [.int .i64 a0.Kind, .int .i64 a0.N, .seq (eL e_u8 a0.S), .seq (eL (e_sl e_u8) a0.K), .seq (eL e_GValue a0.L)]], 0⟩ = some (match o with | .inl o_0 => (.ret, (⟨[(2, .val false [.bool o_0])], [], 0⟩ : S)) | .inr (o_1) => (.exit 0, (⟨[(1, .val false [.ptr 0 0]), (3, .val false [.int .i64 o_1]), (11, .val false [.bool false])], [.var [.int .i64 a0.Kind, .int .i64 a0.N, .seq (eL e_u8 a0.S), .seq (eL (e_sl e_u8) a0.K), .seq (eL e_GValue a0.L)]], 0⟩ : S))) := by
  induction m with
  | zero => intro v0 o h; cases h
  | succ m ih =>
    intro v0 o h
    rw [L_spec_l2known_l0] at h
    rcases ite_some h with ⟨c1, h⟩ | ⟨c1, h⟩
    ·obtain ⟨i2, hi2, h⟩ := bs h
     obtain ⟨x3, hx3, h⟩ := bs h
     obtain ⟨r4, hr4, h⟩ := bs h
     let p26 : List (Q cfg) := [.le e_GValue a0.L, .lT c1, .na hi2, .ix hx3 (eq_GValue x3), .cl (H_spec_l2known x3 _ hr4)]
     cases r4 with
     | true =>
      try dsimp only at h
      exact loop_nQ (p26 ++ [.nt true, .ad v0 1]) (by kernel_rfl) (ih (w64 (v0 + 1)) o h)
     | false =>
      try dsimp only at h
      obtain rfl := Option.some.inj h
      exact loop_eQ (p26 ++ [.nt false]) (by kernel_rfl) (by intro h; cases h)
    ·obtain rfl := Option.some.inj h
     exact loop_eQ [.le e_GValue a0.L, .lF c1] (by kernel_rfl) (by intro h; cases h)
def T_spec_l2known (G_spec_l2known : GValue → Option Bool) (n : Nat) (a0 : GValue) : Option Bool :=
  if a0.Kind = 6 then
    some false
  else
    (L_spec_l2known_l0 G_spec_l2known a0 n 0).bind fun o2 =>
    match o2 with
    | .inl o2_0 =>
      some o2_0
    | .inr (o2_1) =>
      some true
set_option maxRecDepth 100000 in
theorem fd_45 : cfg.funcs 45 = some (bodyOf Tryz.f45, Tryz.f45.ntmps, Tryz.f45.results.toList) := fn_of Tryz.func45 (by kernel_rfl) (by kernel_rfl)
theorem g_spec_l2known (G_spec_l2known : GValue → Option Bool) (H_spec_l2known : ∀ (a0 : GValue) (r : Bool), G_spec_l2known a0 = some r → (mach cfg).call 45 [] [.val true [.int .i64 a0.Kind, .int .i64 a0.N, .seq (eL e_u8 a0.S), .seq (eL (e_sl e_u8) a0.K), .seq (eL e_GValue a0.L)]] = some (.val false [.bool r], [])) (n : Nat) (a0 : GValue) (r : Bool) (h : T_spec_l2known G_spec_l2known n a0 = some r) : (mach cfg).call 45 [] [.val true [.int .i64 a0.Kind, .int .i64 a0.N, .seq (eL e_u8 a0.S), .seq (eL (e_sl e_u8) a0.K), .seq (eL e_GValue a0.L)]] = some (.val false [.bool r], []) := by
  unfold T_spec_l2known at h
  rcases ite_some h with ⟨c1, h⟩ | ⟨c1, h⟩
  ·obtain rfl := Option.some.inj h
   exact call_wQ [.eT c1] rfl fd_45 (by kernel_rfl)
  ·obtain ⟨o2, ho2, h⟩ := bs h
   rcases o2 with o2_0 | o2_1
   · try dsimp only at h
     obtain rfl := Option.some.inj h
     exact call_wQ [.eF c1, .lp (gl_spec_l2known_l0 G_spec_l2known H_spec_l2known a0 _ 0 _ ho2)] rfl fd_45 (by kernel_rfl)
   · try dsimp only at h
     obtain rfl := Option.some.inj h
     exact call_wQ [.eF c1, .lp (gl_spec_l2known_l0 G_spec_l2known H_spec_l2known a0 _ 0 _ ho2)] rfl fd_45 (by kernel_rfl)
def U_spec_l2known : Nat → GValue → Option Bool
  | 0, _ => none
  | n + 1, a0 => T_spec_l2known (U_spec_l2known n) n a0
theorem rec_spec_l2known (n : Nat) : (∀ (a0 : GValue) (r : Bool), U_spec_l2known n a0 = some r → (mach cfg).call 45 [] [.val true [.int .i64 a0.Kind, .int .i64 a0.N, .seq (eL e_u8 a0.S), .seq (eL (e_sl e_u8) a0.K), .seq (eL e_GValue a0.L)]] = some (.val false [.bool r], [])) := by
  induction n with
  | zero => exact fun _ _ h => (by rw [U_spec_l2known] at h; cases h)
  | succ n ih =>
    have ih_spec_l2known := ih
    exact fun a0 r h => g_spec_l2known (U_spec_l2known n) ih_spec_l2known n a0 r (by rw [U_spec_l2known] at h; exact h)
theorem l2known_loop {G : GValue → Option Bool} {v : GValue} (ha : v.L.length <= 2 ^ 40) (hG : ∀ x ∈ v.L, G x = some (knV x)) : ∀ (l p : List GValue) (m : Nat), v.L = p ++ l → l.length < m → ∃ z, L_spec_l2known_l0 G v m ((p.length : Nat) : Int) = some (if knVs l = true then .inr z else .inl false) := by
  intro l
  induction l with
  | nil =>
    intro p m he hm
    obtain ⟨m, rfl, _⟩ := fuel hm
    exact ⟨_, by rw [L_spec_l2known_l0, if_neg (by rw [he]; exact nlt_end p)]; rfl⟩
  | cons x l ih =>
    intro p m he hm
    obtain ⟨m, rfl, hm'⟩ := fuel hm
    have hlen : v.L.length = p.length + (l.length + 1) := by rw [he]; simp
    rw [L_spec_l2known_l0, if_pos (by omega), natO_nat, Option.bind_some, show v.L[p.length]? = some x by rw [he]; exact get_mid p x l, Option.bind_some, hG x (by rw [he]; simp), Option.bind_some, knVs]
    cases hx : knV x with
    | true =>
      dsimp only
      rw [w64_len p x (by omega), Bool.true_and]
      exact ih (p ++ [x]) m (by rw [he]; simp) (by simp only [List.length_cons] at hm'; omega)
    | false => exact ⟨0, rfl⟩
theorem l2known_U : ∀ (N : Nat) (v : GValue), vsz v < N → vsz v <= 2 ^ 39 → ∀ f, vsz v + 2 <= f → U_spec_l2known f v = some (knV v) := by
  intro N
  induction N with
  | zero => intro v hv; omega
  | succ N ih =>
    intro v hv hs f hf
    have he := vsz_eq v
    have hl := vszs_len v.L
    obtain ⟨f, rfl, _⟩ := fuel (show 0 < f by omega)
    rw [U_spec_l2known]
    unfold T_spec_l2known
    rw [knV_eq]
    by_cases h6 : v.Kind = 6
    · rw [if_pos h6, h6]; rfl
    · rw [if_neg h6]
      obtain ⟨z, hz⟩ := l2known_loop (G := U_spec_l2known f) (v := v) (by omega) (fun x hx => by
        have := vszs_mem hx
        exact ih x (by omega) (by omega) f (by omega)) v.L [] f rfl (by omega)
      simp only [List.length_nil, Int.natCast_zero] at hz
      rw [hz, Option.bind_some, decide_eq_true h6, Bool.true_and]
      cases knVs v.L <;> rfl
def S_spec_l2known (a0 : GValue) : Option Bool := if vsz a0 <= 2 ^ 39 then some (knV a0) else none
theorem spec_spec_l2known (a0 : GValue) (r : Bool) (h : S_spec_l2known a0 = some r) : ∃ n, U_spec_l2known n a0 = some r := by
  unfold S_spec_l2known at h
  obtain ⟨ha, h⟩ := need_c h
  exact ⟨vsz a0 + 2, by rw [<- h]; exact l2known_U _ a0 (Nat.lt_succ_self _) ha _ (Nat.le_refl _)⟩
theorem ok_spec_l2known (a0 : GValue) (r : Bool) (h : S_spec_l2known a0 = some r) : (mach cfg).call 45 [] [.val true [.int .i64 a0.Kind, .int .i64 a0.N, .seq (eL e_u8 a0.S), .seq (eL (e_sl e_u8) a0.K), .seq (eL e_GValue a0.L)]] = some (.val false [.bool r], []) := by
  obtain ⟨n, hn⟩ := spec_spec_l2known a0 r h
  exact (rec_spec_l2known n) a0 r hn
def S_spec_l4map (a0 : GValue) : Option Bool :=
  if a0.Kind = 5 then
    (S_spec_ValOk a0).bind fun r2 =>
    match r2 with
    | true =>
      (S_spec_l2known a0).bind fun r4 =>
      some r4
    | false =>
      some false
  else
    some false
set_option maxRecDepth 100000 in
theorem fd_28 : cfg.funcs 28 = some (bodyOf Tryz.f28, Tryz.f28.ntmps, Tryz.f28.results.toList) := fn_of Tryz.func28 (by kernel_rfl) (by kernel_rfl)
theorem ok_spec_l4map (a0 : GValue) (r : Bool) (h : S_spec_l4map a0 = some r) : (mach cfg).call 28 [] [.val true [.int .i64 a0.Kind, .int .i64 a0.N, .seq (eL e_u8 a0.S), .seq (eL (e_sl e_u8) a0.K), .seq (eL e_GValue a0.L)]] = some (.val false [.bool r], []) := by
  unfold S_spec_l4map at h
  rcases ite_some h with ⟨c1, h⟩ | ⟨c1, h⟩
  ·obtain ⟨r2, hr2, h⟩ := bs h
   cases r2 with
   | true =>
    try dsimp only at h
    obtain ⟨r4, hr4, h⟩ := bs h
    obtain rfl := Option.some.inj h
    exact call_wQ [.eT c1, .cl (ok_spec_ValOk a0 _ hr2), .cl (ok_spec_l2known a0 _ hr4)] rfl fd_28 (by kernel_rfl)
   | false =>
    try dsimp only at h
    obtain rfl := Option.some.inj h
    exact call_wQ [.eT c1, .cl (ok_spec_ValOk a0 _ hr2)] rfl fd_28 (by kernel_rfl)
  ·obtain rfl := Option.some.inj h
   exact call_wQ [.eF c1] rfl fd_28 (by kernel_rfl)
end
end Go.Am.Try
