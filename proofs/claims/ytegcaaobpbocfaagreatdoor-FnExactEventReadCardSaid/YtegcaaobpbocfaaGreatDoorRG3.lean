/- The functions of the program in plain Lean, and that the machine answers as they do; conditions at each theorem. -/
import Derived.Test.YtegcaaobpbocfaaGreatDoorRG2
set_option linter.unusedVariables false
set_option linter.unusedSimpArgs false
namespace Go.Am.Try
open Go.Am Go.Proofs
set_option linter.unusedVariables false
set_option maxRecDepth 20000
set_option maxHeartbeats 2000000
noncomputable section
def S_bytes_Cut (a0 : (List UInt8)) (a1 : (List UInt8)) : Option ((List UInt8) × (List UInt8) × Bool) :=
  (S_bytes_Index a0 a1).bind fun r1 =>
  if 0 <= r1 then
    (natO r1).bind fun i3 =>
    (cutO a0 none (some i3)).bind fun s4 =>
    (natO (w64 (r1 + ((a1.length : Nat) : Int)))).bind fun i5 =>
    (cutO a0 (some i5) none).bind fun s6 =>
    some (s4, s6, true)
  else
    some (a0, [], false)
set_option maxRecDepth 100000 in
theorem fd_62 : cfg.funcs 62 = some (bodyOf Tryz.f62, Tryz.f62.ntmps, Tryz.f62.results.toList) := fn_of Tryz.func62 (by kernel_rfl) (by kernel_rfl)
theorem ok_bytes_Cut (a0 : (List UInt8)) (a1 : (List UInt8)) (r : ((List UInt8) × (List UInt8) × Bool)) (h : S_bytes_Cut a0 a1 = some r) : (mach cfg).call 62 [] [.val false [.seq (eL e_u8 a0)], .val false [.seq (eL e_u8 a1)]] = some (.tup [(false, [.seq (eL e_u8 r.1)]), (false, [.seq (eL e_u8 r.2.1)]), (false, [.bool r.2.2])], []) := by
  unfold S_bytes_Cut at h
  obtain ⟨r1, hr1, h⟩ := bs h
  rcases ite_some h with ⟨c2, h⟩ | ⟨c2, h⟩
  ·obtain ⟨i3, hi3, h⟩ := bs h
   obtain ⟨s4, hs4, h⟩ := bs h
   obtain ⟨i5, hi5, h⟩ := bs h
   obtain ⟨s6, hs6, h⟩ := bs h
   obtain rfl := Option.some.inj h
   exact call_wQ [.cl (ok_bytes_Index a0 a1 _ hr1), .gT c2, .na hi3, ⟨.cut (eL e_u8 a0) none (some i3), .l (eL e_u8 s4), (A.cut hs4)⟩, ⟨.uni 1 (eL e_u8 a0), .b true, (A.uni E_u8)⟩, .le e_u8 a1, .ad r1 ((a1.length : Nat) : Int), .na hi5, ⟨.cut (eL e_u8 a0) (some i5) none, .l (eL e_u8 s6), (A.cut hs6)⟩, ⟨.uni 1 (eL e_u8 a0), .b true, (A.uni E_u8)⟩] rfl fd_62 (by kernel_rfl)
  ·obtain rfl := Option.some.inj h
   exact (call_wQ (r := (.tup [(false, [.seq (eL e_u8 a0)]), (false, [.seq (viewL (eL e_u8 []))]), (false, [.bool false])], [])) [.cl (ok_bytes_Index a0 a1 _ hr1), .gF c2] rfl fd_62 (by kernel_rfl)).trans (by simp only [viewL_eL E_u8] <;> rfl)
def L_impl_isName_l0 (a0 : (List UInt8)) (v1 : Int) : Nat → Int → Option (Bool ⊕ Int)
  | 0, _ => none
  | m + 1, v2 =>
    if v2 < v1 then
      (natO v2).bind fun i2 =>
      (a0[i2]?).bind fun x3 =>
      if ((x3.toNat : Nat) : Int) < 97 then
        some (.inl false)
      else
        if 122 < ((x3.toNat : Nat) : Int) then
          some (.inl false)
        else
          L_impl_isName_l0 a0 v1 m (w64 (v2 + 1))
    else
      some (.inr v2)
theorem gl_impl_isName_l0 (a0 : (List UInt8)) (v1 : Int) (m : Nat) : ∀ (v2 : Int) (o : (Bool ⊕ Int)), L_impl_isName_l0 a0 v1 m v2 = some o → (mach cfg).loop 63 (loopB Tryz.f63 0) ⟨[(0, .val false [.seq (eL e_u8 a0)]), (5, .val false [.seq (eL e_u8 a0)]), (6, .val false [.int .i64 v1]), (7, .val false [.int .i64 v2])], [], 0⟩ = some (match o with | .inl o_0 => (.ret, (⟨[(2, .val false [.bool o_0])], [], 0⟩ : S)) | .inr (o_1) => (.exit 0, (⟨[(0, .val false [.seq (eL e_u8 a0)]), (5, .val false [.seq (eL e_u8 a0)]), (6, .val false [.int .i64 v1]), (7, .val false [.int .i64 o_1]), (8, .val false [.bool false])], [], 0⟩ : S))) := by
  induction m with
  | zero => intro v2 o h; cases h
  | succ m ih =>
    intro v2 o h
    rw [L_impl_isName_l0] at h
    rcases ite_some h with ⟨c1, h⟩ | ⟨c1, h⟩
    ·obtain ⟨i2, hi2, h⟩ := bs h
     obtain ⟨x3, hx3, h⟩ := bs h
     rcases ite_some h with ⟨c4, h⟩ | ⟨c4, h⟩
     ·obtain rfl := Option.some.inj h
      exact loop_eQ [.lT c1, .na hi2, .ix0 e_u8 hx3, .lT c4] (by kernel_rfl) (by intro h; cases h)
     ·rcases ite_some h with ⟨c5, h⟩ | ⟨c5, h⟩
      ·obtain rfl := Option.some.inj h
       exact loop_eQ [.lT c1, .na hi2, .ix0 e_u8 hx3, .lF c4, .lT c5] (by kernel_rfl) (by intro h; cases h)
      ·exact loop_nQ [.lT c1, .na hi2, .ix0 e_u8 hx3, .lF c4, .lF c5, .ad v2 1] (by kernel_rfl) (ih (w64 (v2 + 1)) o h)
    ·obtain rfl := Option.some.inj h
     exact loop_eQ [.lF c1] (by kernel_rfl) (by intro h; cases h)
def T_impl_isName (n : Nat) (a0 : (List UInt8)) : Option Bool :=
  (L_impl_isName_l0 a0 ((a0.length : Nat) : Int) n 0).bind fun o1 =>
  match o1 with
  | .inl o1_0 =>
    some o1_0
  | .inr (o1_1) =>
    (S_impl_in ((a0.length : Nat) : Int) 1 8).bind fun r2 =>
    some r2
set_option maxRecDepth 100000 in
theorem fd_63 : cfg.funcs 63 = some (bodyOf Tryz.f63, Tryz.f63.ntmps, Tryz.f63.results.toList) := fn_of Tryz.func63 (by kernel_rfl) (by kernel_rfl)
theorem g_impl_isName (n : Nat) (a0 : (List UInt8)) (r : Bool) (h : T_impl_isName n a0 = some r) : (mach cfg).call 63 [] [.val false [.seq (eL e_u8 a0)]] = some (.val false [.bool r], []) := by
  unfold T_impl_isName at h
  obtain ⟨o1, ho1, h⟩ := bs h
  let p47 : List (Q cfg) := [.le e_u8 a0, .lp (gl_impl_isName_l0 a0 ((a0.length : Nat) : Int) _ 0 _ ho1)]
  rcases o1 with o1_0 | o1_1
  · try dsimp only at h
    obtain rfl := Option.some.inj h
    exact call_wQ p47 rfl fd_63 (by kernel_rfl)
  · try dsimp only at h
    obtain ⟨r2, hr2, h⟩ := bs h
    obtain rfl := Option.some.inj h
    exact call_wQ (p47 ++ [.le e_u8 a0, .cl (ok_impl_in ((a0.length : Nat) : Int) 1 8 _ hr2)]) rfl fd_63 (by kernel_rfl)
theorem impl_isName_loop {a : List UInt8} (ha : a.length <= 2 ^ 20) : ∀ (d i m : Nat), i + d = a.length → d < m → ∃ z, L_impl_isName_l0 a (a.length : Int) m (i : Int) = some (if (a.drop i).all (inB 97 122) = true then .inr z else .inl false) := by
  intro d
  induction d with
  | zero =>
    intro i m hi hm
    obtain ⟨m, rfl, _⟩ := fuel hm
    exact ⟨_, by rw [L_impl_isName_l0, if_neg (by omega), List.drop_eq_nil_of_le (by omega)]; rfl⟩
  | succ d ih =>
    intro i m hi hm
    obtain ⟨m, rfl, hm'⟩ := fuel hm
    have hil : i < a.length := by omega
    rw [L_impl_isName_l0, if_pos (by omega), natO_nat, Option.bind_some, get_some hil, Option.bind_some, w64_succ (by omega), drop_cons hil, List.all_cons]
    by_cases h1 : ((a[i].toNat : Nat) : Int) < 97
    · exact ⟨0, by rw [if_pos h1, if_neg]; simp [inB]; omega⟩
    · rw [if_neg h1]
      by_cases h2 : (122 : Int) < ((a[i].toNat : Nat) : Int)
      · exact ⟨0, by rw [if_pos h2, if_neg]; simp [inB]; omega⟩
      · rw [if_neg h2, show inB 97 122 a[i] = true by simp [inB]; omega, Bool.true_and]
        exact ih (i + 1) m (by omega) (by omega)
theorem in_eq (a b c : Int) : S_impl_in a b c = some (decide (b <= a ∧ a <= c)) := by
  unfold S_impl_in
  by_cases h : b <= a
  · rw [if_pos h]; simp [h]
  · rw [if_neg h]; simp [h]
def S_impl_isName (a0 : (List UInt8)) : Option Bool := if a0.length <= 2 ^ 20 then some (nameB a0) else none
theorem spec_impl_isName (a0 : (List UInt8)) (r : Bool) (h : S_impl_isName a0 = some r) : ∃ n, T_impl_isName n a0 = some r := by
  unfold S_impl_isName at h
  obtain ⟨ha, h⟩ := need_c h
  refine ⟨a0.length + 1, ?_⟩
  obtain ⟨z, hz⟩ := impl_isName_loop ha a0.length 0 (a0.length + 1) (by omega) (by omega)
  rw [show ((0 : Nat) : Int) = 0 from rfl, List.drop_zero] at hz
  unfold T_impl_isName
  rw [<- h, hz]
  unfold nameB
  have hd : decide (1 <= a0.length ∧ a0.length <= 8) = decide ((1 : Int) <= (a0.length : Int) ∧ (a0.length : Int) <= 8) := decide_eq_decide.2 (by omega)
  rw [hd]
  cases a0.all (inB 97 122)
  · rw [Bool.and_false]; rfl
  · rw [Bool.and_true]
    simp only [if_true, Option.bind_some, in_eq]
theorem ok_impl_isName (a0 : (List UInt8)) (r : Bool) (h : S_impl_isName a0 = some r) : (mach cfg).call 63 [] [.val false [.seq (eL e_u8 a0)]] = some (.val false [.bool r], []) := by
  obtain ⟨n, hn⟩ := spec_impl_isName a0 r h
  exact g_impl_isName n a0 r hn
def S_bytes_HasSuffix (a0 : (List UInt8)) (a1 : (List UInt8)) : Option Bool :=
  if ((a1.length : Nat) : Int) <= ((a0.length : Nat) : Int) then
    (natO (w64 (((a0.length : Nat) : Int) - ((a1.length : Nat) : Int)))).bind fun i2 =>
    (cutO a0 (some i2) none).bind fun s3 =>
    (S_bytes_Equal s3 a1).bind fun r4 =>
    some r4
  else
    some false
set_option maxRecDepth 100000 in
theorem fd_72 : cfg.funcs 72 = some (bodyOf Tryz.f72, Tryz.f72.ntmps, Tryz.f72.results.toList) := fn_of Tryz.func72 (by kernel_rfl) (by kernel_rfl)
theorem ok_bytes_HasSuffix (a0 : (List UInt8)) (a1 : (List UInt8)) (r : Bool) (h : S_bytes_HasSuffix a0 a1 = some r) : (mach cfg).call 72 [] [.val false [.seq (eL e_u8 a0)], .val false [.seq (eL e_u8 a1)]] = some (.val false [.bool r], []) := by
  unfold S_bytes_HasSuffix at h
  rcases ite_some h with ⟨c1, h⟩ | ⟨c1, h⟩
  ·obtain ⟨i2, hi2, h⟩ := bs h
   obtain ⟨s3, hs3, h⟩ := bs h
   obtain ⟨r4, hr4, h⟩ := bs h
   obtain rfl := Option.some.inj h
   exact call_wQ [.le e_u8 a0, .le e_u8 a1, .gT c1, .le e_u8 a0, .le e_u8 a1, .su ((a0.length : Nat) : Int) ((a1.length : Nat) : Int), .na hi2, ⟨.cut (eL e_u8 a0) (some i2) none, .l (eL e_u8 s3), (A.cut hs3)⟩, ⟨.uni 1 (eL e_u8 a0), .b true, (A.uni E_u8)⟩, .cl (ok_bytes_Equal s3 a1 _ hr4)] rfl fd_72 (by kernel_rfl)
  ·obtain rfl := Option.some.inj h
   exact call_wQ [.le e_u8 a0, .le e_u8 a1, .gF c1] rfl fd_72 (by kernel_rfl)
def S_bytes_CutSuffix (a0 : (List UInt8)) (a1 : (List UInt8)) : Option ((List UInt8) × Bool) :=
  (S_bytes_HasSuffix a0 a1).bind fun r1 =>
  match r1 with
  | true =>
    (natO (w64 (((a0.length : Nat) : Int) - ((a1.length : Nat) : Int)))).bind fun i3 =>
    (cutO a0 none (some i3)).bind fun s4 =>
    some (s4, true)
  | false =>
    some (a0, false)
set_option maxRecDepth 100000 in
theorem fd_64 : cfg.funcs 64 = some (bodyOf Tryz.f64, Tryz.f64.ntmps, Tryz.f64.results.toList) := fn_of Tryz.func64 (by kernel_rfl) (by kernel_rfl)
theorem ok_bytes_CutSuffix (a0 : (List UInt8)) (a1 : (List UInt8)) (r : ((List UInt8) × Bool)) (h : S_bytes_CutSuffix a0 a1 = some r) : (mach cfg).call 64 [] [.val false [.seq (eL e_u8 a0)], .val false [.seq (eL e_u8 a1)]] = some (.tup [(false, [.seq (eL e_u8 r.1)]), (false, [.bool r.2])], []) := by
  unfold S_bytes_CutSuffix at h
  obtain ⟨r1, hr1, h⟩ := bs h
  cases r1 with
  | true =>
   try dsimp only at h
   obtain ⟨i3, hi3, h⟩ := bs h
   obtain ⟨s4, hs4, h⟩ := bs h
   obtain rfl := Option.some.inj h
   exact call_wQ [.cl (ok_bytes_HasSuffix a0 a1 _ hr1), .nt true, .le e_u8 a0, .le e_u8 a1, .su ((a0.length : Nat) : Int) ((a1.length : Nat) : Int), .na hi3, ⟨.cut (eL e_u8 a0) none (some i3), .l (eL e_u8 s4), (A.cut hs4)⟩, ⟨.uni 1 (eL e_u8 a0), .b true, (A.uni E_u8)⟩] rfl fd_64 (by kernel_rfl)
  | false =>
   try dsimp only at h
   obtain rfl := Option.some.inj h
   exact call_wQ [.cl (ok_bytes_HasSuffix a0 a1 _ hr1), .nt false] rfl fd_64 (by kernel_rfl)
def S_bytes_HasPrefix (a0 : (List UInt8)) (a1 : (List UInt8)) : Option Bool :=
  if ((a1.length : Nat) : Int) <= ((a0.length : Nat) : Int) then
    (natO ((a1.length : Nat) : Int)).bind fun i2 =>
    (cutO a0 none (some i2)).bind fun s3 =>
    (S_bytes_Equal s3 a1).bind fun r4 =>
    some r4
  else
    some false
set_option maxRecDepth 100000 in
theorem fd_73 : cfg.funcs 73 = some (bodyOf Tryz.f73, Tryz.f73.ntmps, Tryz.f73.results.toList) := fn_of Tryz.func73 (by kernel_rfl) (by kernel_rfl)
theorem ok_bytes_HasPrefix (a0 : (List UInt8)) (a1 : (List UInt8)) (r : Bool) (h : S_bytes_HasPrefix a0 a1 = some r) : (mach cfg).call 73 [] [.val false [.seq (eL e_u8 a0)], .val false [.seq (eL e_u8 a1)]] = some (.val false [.bool r], []) := by
  unfold S_bytes_HasPrefix at h
  rcases ite_some h with ⟨c1, h⟩ | ⟨c1, h⟩
  ·obtain ⟨i2, hi2, h⟩ := bs h
   obtain ⟨s3, hs3, h⟩ := bs h
   obtain ⟨r4, hr4, h⟩ := bs h
   obtain rfl := Option.some.inj h
   exact call_wQ [.le e_u8 a0, .le e_u8 a1, .gT c1, .le e_u8 a1, .na hi2, ⟨.cut (eL e_u8 a0) none (some i2), .l (eL e_u8 s3), (A.cut hs3)⟩, ⟨.uni 1 (eL e_u8 a0), .b true, (A.uni E_u8)⟩, .cl (ok_bytes_Equal s3 a1 _ hr4)] rfl fd_73 (by kernel_rfl)
  ·obtain rfl := Option.some.inj h
   exact call_wQ [.le e_u8 a0, .le e_u8 a1, .gF c1] rfl fd_73 (by kernel_rfl)
def S_bytes_CutPrefix (a0 : (List UInt8)) (a1 : (List UInt8)) : Option ((List UInt8) × Bool) :=
  (S_bytes_HasPrefix a0 a1).bind fun r1 =>
  match r1 with
  | true =>
    (natO ((a1.length : Nat) : Int)).bind fun i3 =>
    (cutO a0 (some i3) none).bind fun s4 =>
    some (s4, true)
  | false =>
    some (a0, false)
set_option maxRecDepth 100000 in
theorem fd_65 : cfg.funcs 65 = some (bodyOf Tryz.f65, Tryz.f65.ntmps, Tryz.f65.results.toList) := fn_of Tryz.func65 (by kernel_rfl) (by kernel_rfl)
theorem ok_bytes_CutPrefix (a0 : (List UInt8)) (a1 : (List UInt8)) (r : ((List UInt8) × Bool)) (h : S_bytes_CutPrefix a0 a1 = some r) : (mach cfg).call 65 [] [.val false [.seq (eL e_u8 a0)], .val false [.seq (eL e_u8 a1)]] = some (.tup [(false, [.seq (eL e_u8 r.1)]), (false, [.bool r.2])], []) := by
  unfold S_bytes_CutPrefix at h
  obtain ⟨r1, hr1, h⟩ := bs h
  cases r1 with
  | true =>
   try dsimp only at h
   obtain ⟨i3, hi3, h⟩ := bs h
   obtain ⟨s4, hs4, h⟩ := bs h
   obtain rfl := Option.some.inj h
   exact call_wQ [.cl (ok_bytes_HasPrefix a0 a1 _ hr1), .nt true, .le e_u8 a1, .na hi3, ⟨.cut (eL e_u8 a0) (some i3) none, .l (eL e_u8 s4), (A.cut hs4)⟩, ⟨.uni 1 (eL e_u8 a0), .b true, (A.uni E_u8)⟩] rfl fd_65 (by kernel_rfl)
  | false =>
   try dsimp only at h
   obtain rfl := Option.some.inj h
   exact call_wQ [.cl (ok_bytes_HasPrefix a0 a1 _ hr1), .nt false] rfl fd_65 (by kernel_rfl)
def S_internal_strconv_small (a0 : Int) : Option (List UInt8) :=
  if a0 < 10 then
    (natO a0).bind fun i2 =>
    (natO (w64 (a0 + 1))).bind fun i3 =>
    (cutO [48, 49, 50, 51, 52, 53, 54, 55, 56, 57, 97, 98, 99, 100, 101, 102, 103, 104, 105, 106, 107, 108, 109, 110, 111, 112, 113, 114, 115, 116, 117, 118, 119, 120, 121, 122] (some i2) (some i3)).bind fun s4 =>
    some s4
  else
    (natO (w64 (a0 * 2))).bind fun i2 =>
    (natO (w64 ((w64 (a0 * 2)) + 2))).bind fun i3 =>
    (cutO [48, 48, 48, 49, 48, 50, 48, 51, 48, 52, 48, 53, 48, 54, 48, 55, 48, 56, 48, 57, 49, 48, 49, 49, 49, 50, 49, 51, 49, 52, 49, 53, 49, 54, 49, 55, 49, 56, 49, 57, 50, 48, 50, 49, 50, 50, 50, 51, 50, 52, 50, 53, 50, 54, 50, 55, 50, 56, 50, 57, 51, 48, 51, 49, 51, 50, 51, 51, 51, 52, 51, 53, 51, 54, 51, 55, 51, 56, 51, 57, 52, 48, 52, 49, 52, 50, 52, 51, 52, 52, 52, 53, 52, 54, 52, 55, 52, 56, 52, 57, 53, 48, 53, 49, 53, 50, 53, 51, 53, 52, 53, 53, 53, 54, 53, 55, 53, 56, 53, 57, 54, 48, 54, 49, 54, 50, 54, 51, 54, 52, 54, 53, 54, 54, 54, 55, 54, 56, 54, 57, 55, 48, 55, 49, 55, 50, 55, 51, 55, 52, 55, 53, 55, 54, 55, 55, 55, 56, 55, 57, 56, 48, 56, 49, 56, 50, 56, 51, 56, 52, 56, 53, 56, 54, 56, 55, 56, 56, 56, 57, 57, 48, 57, 49, 57, 50, 57, 51, 57, 52, 57, 53, 57, 54, 57, 55, 57, 56, 57, 57] (some i2) (some i3)).bind fun s4 =>
    some s4
set_option maxRecDepth 100000 in
theorem fd_99 : cfg.funcs 99 = some (bodyOf Tryz.f99, Tryz.f99.ntmps, Tryz.f99.results.toList) := fn_of Tryz.func99 (by kernel_rfl) (by kernel_rfl)
theorem ok_internal_strconv_small (a0 : Int) (r : (List UInt8)) (h : S_internal_strconv_small a0 = some r) : (mach cfg).call 99 [] [.val false [.int .i64 a0]] = some (.val false [.str r], []) := by
  unfold S_internal_strconv_small at h
  rcases ite_some h with ⟨c1, h⟩ | ⟨c1, h⟩
  ·obtain ⟨i2, hi2, h⟩ := bs h
   obtain ⟨i3, hi3, h⟩ := bs h
   obtain ⟨s4, hs4, h⟩ := bs h
   obtain rfl := Option.some.inj h
   exact call_wQ [.lT c1, .ad a0 1, .na hi2, .na hi3, ⟨.cutS [48, 49, 50, 51, 52, 53, 54, 55, 56, 57, 97, 98, 99, 100, 101, 102, 103, 104, 105, 106, 107, 108, 109, 110, 111, 112, 113, 114, 115, 116, 117, 118, 119, 120, 121, 122] (some i2) (some i3), .s s4, (A.cutS hs4)⟩] rfl fd_99 (by kernel_rfl)
  ·obtain ⟨i2, hi2, h⟩ := bs h
   obtain ⟨i3, hi3, h⟩ := bs h
   obtain ⟨s4, hs4, h⟩ := bs h
   obtain rfl := Option.some.inj h
   exact call_wQ [.lF c1, ⟨.mul .i64 a0 2, .i (w64 (a0 * 2)), rfl⟩, ⟨.mul .i64 a0 2, .i (w64 (a0 * 2)), rfl⟩, .ad (w64 (a0 * 2)) 2, .na hi2, .na hi3, ⟨.cutS [48, 48, 48, 49, 48, 50, 48, 51, 48, 52, 48, 53, 48, 54, 48, 55, 48, 56, 48, 57, 49, 48, 49, 49, 49, 50, 49, 51, 49, 52, 49, 53, 49, 54, 49, 55, 49, 56, 49, 57, 50, 48, 50, 49, 50, 50, 50, 51, 50, 52, 50, 53, 50, 54, 50, 55, 50, 56, 50, 57, 51, 48, 51, 49, 51, 50, 51, 51, 51, 52, 51, 53, 51, 54, 51, 55, 51, 56, 51, 57, 52, 48, 52, 49, 52, 50, 52, 51, 52, 52, 52, 53, 52, 54, 52, 55, 52, 56, 52, 57, 53, 48, 53, 49, 53, 50, 53, 51, 53, 52, 53, 53, 53, 54, 53, 55, 53, 56, 53, 57, 54, 48, 54, 49, 54, 50, 54, 51, 54, 52, 54, 53, 54, 54, 54, 55, 54, 56, 54, 57, 55, 48, 55, 49, 55, 50, 55, 51, 55, 52, 55, 53, 55, 54, 55, 55, 55, 56, 55, 57, 56, 48, 56, 49, 56, 50, 56, 51, 56, 52, 56, 53, 56, 54, 56, 55, 56, 56, 56, 57, 57, 48, 57, 49, 57, 50, 57, 51, 57, 52, 57, 53, 57, 54, 57, 55, 57, 56, 57, 57] (some i2) (some i3), .s s4, (A.cutS hs4)⟩] rfl fd_99 (by kernel_rfl)
def S_internal_strconv_formatBits (a0 : (List UInt8)) (a1 : Int) (a2 : Int) (a3 : Bool) (a4 : Bool) : Option ((List UInt8) × (List UInt8)) :=
  none
set_option maxRecDepth 100000 in
theorem fd_102 : cfg.funcs 102 = some (bodyOf Tryz.f102, Tryz.f102.ntmps, Tryz.f102.results.toList) := fn_of Tryz.func102 (by kernel_rfl) (by kernel_rfl)
theorem ok_internal_strconv_formatBits (a0 : (List UInt8)) (a1 : Int) (a2 : Int) (a3 : Bool) (a4 : Bool) (r : ((List UInt8) × (List UInt8))) (h : S_internal_strconv_formatBits a0 a1 a2 a3 a4 = some r) : (mach cfg).call 102 [] [.val false [.seq (eL e_u8 a0)], .val false [.int .u64 a1], .val false [.int .i64 a2], .val false [.bool a3], .val false [.bool a4]] = some (.tup [(false, [.own 1 (eL e_u8 r.1)]), (false, [.str r.2])], []) := by
  unfold S_internal_strconv_formatBits at h
  cases h
def S_internal_strconv_FormatInt (a0 : Int) (a1 : Int) : Option (List UInt8) :=
  if a1 = 10 then
    if 0 <= a0 then
      if a0 < 100 then
        (S_internal_strconv_small a0).bind fun r4 =>
        some r4
      else
        none
    else
      none
  else
    if a0 < 0 then
      (S_internal_strconv_formatBits [] (IntKind.u64.wrap a0) a1 true false).bind fun ⟨r3_0, r3_1⟩ =>
      some r3_1
    else
      (S_internal_strconv_formatBits [] (IntKind.u64.wrap a0) a1 false false).bind fun ⟨r3_0, r3_1⟩ =>
      some r3_1
set_option maxRecDepth 100000 in
theorem fd_90 : cfg.funcs 90 = some (bodyOf Tryz.f90, Tryz.f90.ntmps, Tryz.f90.results.toList) := fn_of Tryz.func90 (by kernel_rfl) (by kernel_rfl)
theorem ok_internal_strconv_FormatInt (a0 : Int) (a1 : Int) (r : (List UInt8)) (h : S_internal_strconv_FormatInt a0 a1 = some r) : (mach cfg).call 90 [] [.val false [.int .i64 a0], .val false [.int .i64 a1]] = some (.val false [.str r], []) := by
  unfold S_internal_strconv_FormatInt at h
  rcases ite_some h with ⟨c1, h⟩ | ⟨c1, h⟩
  ·rcases ite_some h with ⟨c2, h⟩ | ⟨c2, h⟩
   ·rcases ite_some h with ⟨c3, h⟩ | ⟨c3, h⟩
    ·obtain ⟨r4, hr4, h⟩ := bs h
     obtain rfl := Option.some.inj h
     exact call_wQ [.eT c1, .gT c2, .lT c3, .cl (ok_internal_strconv_small a0 _ hr4)] rfl fd_90 (by kernel_rfl)
    ·cases h
   ·cases h
  ·rcases ite_some h with ⟨c2, h⟩ | ⟨c2, h⟩
   ·obtain ⟨⟨r3_0, r3_1⟩, hr3, h⟩ := bs h
    try dsimp only at h
    obtain rfl := Option.some.inj h
    exact call_wQ [.eF c1, ⟨.conv .u64 a0, .i (IntKind.u64.wrap a0), rfl⟩, .lT c2, .cl (ok_internal_strconv_formatBits [] (IntKind.u64.wrap a0) a1 true false _ hr3)] rfl fd_90 (by kernel_rfl)
   ·obtain ⟨⟨r3_0, r3_1⟩, hr3, h⟩ := bs h
    try dsimp only at h
    obtain rfl := Option.some.inj h
    exact call_wQ [.eF c1, ⟨.conv .u64 a0, .i (IntKind.u64.wrap a0), rfl⟩, .lF c2, .cl (ok_internal_strconv_formatBits [] (IntKind.u64.wrap a0) a1 false false _ hr3)] rfl fd_90 (by kernel_rfl)
def S_internal_strconv_Itoa (a0 : Int) : Option (List UInt8) :=
  (S_internal_strconv_FormatInt a0 10).bind fun r1 =>
  some r1
set_option maxRecDepth 100000 in
theorem fd_76 : cfg.funcs 76 = some (bodyOf Tryz.f76, Tryz.f76.ntmps, Tryz.f76.results.toList) := fn_of Tryz.func76 (by kernel_rfl) (by kernel_rfl)
theorem ok_internal_strconv_Itoa (a0 : Int) (r : (List UInt8)) (h : S_internal_strconv_Itoa a0 = some r) : (mach cfg).call 76 [] [.val false [.int .i64 a0]] = some (.val false [.str r], []) := by
  unfold S_internal_strconv_Itoa at h
  obtain ⟨r1, hr1, h⟩ := bs h
  obtain rfl := Option.some.inj h
  exact call_wQ [.cl (ok_internal_strconv_FormatInt a0 10 _ hr1)] rfl fd_76 (by kernel_rfl)
def S_strconv_Itoa (a0 : Int) : Option (List UInt8) :=
  (S_internal_strconv_Itoa a0).bind fun r1 =>
  some r1
set_option maxRecDepth 100000 in
theorem fd_67 : cfg.funcs 67 = some (bodyOf Tryz.f67, Tryz.f67.ntmps, Tryz.f67.results.toList) := fn_of Tryz.func67 (by kernel_rfl) (by kernel_rfl)
theorem ok_strconv_Itoa (a0 : Int) (r : (List UInt8)) (h : S_strconv_Itoa a0 = some r) : (mach cfg).call 67 [] [.val false [.int .i64 a0]] = some (.val false [.str r], []) := by
  unfold S_strconv_Itoa at h
  obtain ⟨r1, hr1, h⟩ := bs h
  obtain rfl := Option.some.inj h
  exact call_wQ [.cl (ok_internal_strconv_Itoa a0 _ hr1)] rfl fd_67 (by kernel_rfl)
def S_impl_isAddr (a0 : (List UInt8)) : Option Bool :=
  (S_bytes_Cut a0 [(91 : UInt8)]).bind fun ⟨r1_0, r1_1, r1_2⟩ =>
  (S_impl_isName r1_0).bind fun r2 =>
  match r2 with
  | true =>
    match r1_2 with
    | true =>
      (S_bytes_CutSuffix r1_1 [(93 : UInt8)]).bind fun ⟨r5_0, r5_1⟩ =>
      (S_bytes_CutPrefix r5_0 [(34 : UInt8)]).bind fun ⟨r6_0, r6_1⟩ =>
      (S_bytes_CutSuffix r6_0 [(34 : UInt8)]).bind fun ⟨r7_0, r7_1⟩ =>
      match r6_1 with
      | true =>
        match r5_1 with
        | true =>
          match r7_1 with
          | true =>
            (S_impl_isName r7_0).bind fun r11 =>
            some r11
          | false =>
            some false
        | false =>
          some false
      | false =>
        match r7_1 with
        | true =>
          match r5_1 with
          | true =>
            some false
          | false =>
            some false
        | false =>
          (S_strconv_Atoi r5_0).bind fun ⟨r10_0, r10_1⟩ =>
          match r10_1 with
          | true =>
            match r5_1 with
            | true =>
              some false
            | false =>
              some false
          | false =>
            match r5_1 with
            | true =>
              (S_impl_in r10_0 0 99).bind fun r13 =>
              match r13 with
              | true =>
                (S_strconv_Itoa r10_0).bind fun r15 =>
                some (decide (r15 = r5_0))
              | false =>
                some false
            | false =>
              some false
    | false =>
      some true
  | false =>
    some false
set_option maxRecDepth 100000 in
theorem fd_50 : cfg.funcs 50 = some (bodyOf Tryz.f50, Tryz.f50.ntmps, Tryz.f50.results.toList) := fn_of Tryz.func50 (by kernel_rfl) (by kernel_rfl)
theorem ok_impl_isAddr (a0 : (List UInt8)) (r : Bool) (h : S_impl_isAddr a0 = some r) : (mach cfg).call 50 [] [.val false [.seq (eL e_u8 a0)]] = some (.val false [.bool r], []) := by
  unfold S_impl_isAddr at h
  obtain ⟨⟨r1_0, r1_1, r1_2⟩, hr1, h⟩ := bs h
  try dsimp only at h
  obtain ⟨r2, hr2, h⟩ := bs h
  let p48 : List (Q cfg) := [.le e_u8 [(91 : UInt8)], .lTo 0 (([(91 : UInt8)].length : Nat) : Int) (by decide), ⟨.view (eL e_u8 [(91 : UInt8)]), .l (eL e_u8 [(91 : UInt8)]), (A.view E_u8)⟩, .cl (ok_bytes_Cut a0 [(91 : UInt8)] _ hr1), .cl (ok_impl_isName r1_0 _ hr2)]
  cases r2 with
  | true =>
   try dsimp only at h
   let p49 : List (Q cfg) := p48 ++ [.nt true]
   cases r1_2 with
   | true =>
    try dsimp only at h
    obtain ⟨⟨r5_0, r5_1⟩, hr5, h⟩ := bs h
    try dsimp only at h
    obtain ⟨⟨r6_0, r6_1⟩, hr6, h⟩ := bs h
    try dsimp only at h
    obtain ⟨⟨r7_0, r7_1⟩, hr7, h⟩ := bs h
    try dsimp only at h
    let p50 : List (Q cfg) := p49 ++ [.nt true, .le e_u8 [(93 : UInt8)], .lTo 0 (([(93 : UInt8)].length : Nat) : Int) (by decide), ⟨.view (eL e_u8 [(93 : UInt8)]), .l (eL e_u8 [(93 : UInt8)]), (A.view E_u8)⟩, .cl (ok_bytes_CutSuffix r1_1 [(93 : UInt8)] _ hr5), .le e_u8 [(34 : UInt8)], .lTo 0 (([(34 : UInt8)].length : Nat) : Int) (by decide), ⟨.view (eL e_u8 [(34 : UInt8)]), .l (eL e_u8 [(34 : UInt8)]), (A.view E_u8)⟩, .cl (ok_bytes_CutPrefix r5_0 [(34 : UInt8)] _ hr6), .le e_u8 [(34 : UInt8)], .lTo 0 (([(34 : UInt8)].length : Nat) : Int) (by decide), ⟨.view (eL e_u8 [(34 : UInt8)]), .l (eL e_u8 [(34 : UInt8)]), (A.view E_u8)⟩, .cl (ok_bytes_CutSuffix r6_0 [(34 : UInt8)] _ hr7)]
    cases r6_1 with
    | true =>
     try dsimp only at h
     cases r5_1 with
     | true =>
      try dsimp only at h
      cases r7_1 with
      | true =>
       try dsimp only at h
       obtain ⟨r11, hr11, h⟩ := bs h
       obtain rfl := Option.some.inj h
       exact call_wQ (p50 ++ [.cl (ok_impl_isName r7_0 _ hr11)]) rfl fd_50 (by kernel_rfl)
      | false =>
       try dsimp only at h
       obtain rfl := Option.some.inj h
       exact call_wQ p50 rfl fd_50 (by kernel_rfl)
     | false =>
      try dsimp only at h
      obtain rfl := Option.some.inj h
      exact call_wQ p50 rfl fd_50 (by kernel_rfl)
    | false =>
     try dsimp only at h
     cases r7_1 with
     | true =>
      try dsimp only at h
      cases r5_1 with
      | true =>
       try dsimp only at h
       obtain rfl := Option.some.inj h
       exact call_wQ p50 rfl fd_50 (by kernel_rfl)
      | false =>
       try dsimp only at h
       obtain rfl := Option.some.inj h
       exact call_wQ p50 rfl fd_50 (by kernel_rfl)
     | false =>
      try dsimp only at h
      obtain ⟨⟨r10_0, r10_1⟩, hr10, h⟩ := bs h
      try dsimp only at h
      let p51 : List (Q cfg) := p50 ++ [⟨.bytes (eL e_u8 r5_0), .s r5_0, A.bytes⟩, .cl (ok_strconv_Atoi r5_0 _ hr10)]
      cases r10_1 with
      | true =>
       try dsimp only at h
       cases r5_1 with
       | true =>
        try dsimp only at h
        obtain rfl := Option.some.inj h
        exact call_wQ p51 rfl fd_50 (by kernel_rfl)
       | false =>
        try dsimp only at h
        obtain rfl := Option.some.inj h
        exact call_wQ p51 rfl fd_50 (by kernel_rfl)
      | false =>
       try dsimp only at h
       cases r5_1 with
       | true =>
        try dsimp only at h
        obtain ⟨r13, hr13, h⟩ := bs h
        cases r13 with
        | true =>
         try dsimp only at h
         obtain ⟨r15, hr15, h⟩ := bs h
         obtain rfl := Option.some.inj h
         exact call_wQ (p51 ++ [.cl (ok_impl_in r10_0 0 99 _ hr13), .cl (ok_strconv_Itoa r10_0 _ hr15), ⟨.bytes (eL e_u8 r5_0), .s r5_0, A.bytes⟩, ⟨.eqS r15 r5_0, .b (decide (r15 = r5_0)), A.eqS_d⟩]) rfl fd_50 (by kernel_rfl)
        | false =>
         try dsimp only at h
         obtain rfl := Option.some.inj h
         exact call_wQ (p51 ++ [.cl (ok_impl_in r10_0 0 99 _ hr13)]) rfl fd_50 (by kernel_rfl)
       | false =>
        try dsimp only at h
        obtain rfl := Option.some.inj h
        exact call_wQ p51 rfl fd_50 (by kernel_rfl)
   | false =>
    try dsimp only at h
    obtain rfl := Option.some.inj h
    exact call_wQ (p49 ++ [.nt false]) rfl fd_50 (by kernel_rfl)
  | false =>
   try dsimp only at h
   obtain rfl := Option.some.inj h
   exact call_wQ (p48 ++ [.nt false]) rfl fd_50 (by kernel_rfl)
def L_impl_isText_l0 (a0 : (List UInt8)) (v1 : Int) : Nat → Int → Option (Bool ⊕ Int)
  | 0, _ => none
  | m + 1, v2 =>
    if v2 < v1 then
      (natO v2).bind fun i2 =>
      (a0[i2]?).bind fun x3 =>
      if ((x3.toNat : Nat) : Int) < 32 then
        some (.inl false)
      else
        if 126 < ((x3.toNat : Nat) : Int) then
          some (.inl false)
        else
          L_impl_isText_l0 a0 v1 m (w64 (v2 + 1))
    else
      some (.inr v2)
theorem gl_impl_isText_l0 (a0 : (List UInt8)) (v1 : Int) (m : Nat) : ∀ (v2 : Int) (o : (Bool ⊕ Int)), L_impl_isText_l0 a0 v1 m v2 = some o → (mach cfg).loop 103 (loopB Tryz.f103 0) ⟨[(0, .val false [.seq (eL e_u8 a0)]), (5, .val false [.seq (eL e_u8 a0)]), (6, .val false [.int .i64 v1]), (7, .val false [.int .i64 v2])], [], 0⟩ = some (match o with | .inl o_0 => (.ret, (⟨[(2, .val false [.bool o_0])], [], 0⟩ : S)) | .inr (o_1) => (.exit 0, (⟨[(0, .val false [.seq (eL e_u8 a0)]), (5, .val false [.seq (eL e_u8 a0)]), (6, .val false [.int .i64 v1]), (7, .val false [.int .i64 o_1]), (8, .val false [.bool false])], [], 0⟩ : S))) := by
  induction m with
  | zero => intro v2 o h; cases h
  | succ m ih =>
    intro v2 o h
    rw [L_impl_isText_l0] at h
    rcases ite_some h with ⟨c1, h⟩ | ⟨c1, h⟩
    ·obtain ⟨i2, hi2, h⟩ := bs h
     obtain ⟨x3, hx3, h⟩ := bs h
     rcases ite_some h with ⟨c4, h⟩ | ⟨c4, h⟩
     ·obtain rfl := Option.some.inj h
      exact loop_eQ [.lT c1, .na hi2, .ix0 e_u8 hx3, .lT c4] (by kernel_rfl) (by intro h; cases h)
     ·rcases ite_some h with ⟨c5, h⟩ | ⟨c5, h⟩
      ·obtain rfl := Option.some.inj h
       exact loop_eQ [.lT c1, .na hi2, .ix0 e_u8 hx3, .lF c4, .lT c5] (by kernel_rfl) (by intro h; cases h)
      ·exact loop_nQ [.lT c1, .na hi2, .ix0 e_u8 hx3, .lF c4, .lF c5, .ad v2 1] (by kernel_rfl) (ih (w64 (v2 + 1)) o h)
    ·obtain rfl := Option.some.inj h
     exact loop_eQ [.lF c1] (by kernel_rfl) (by intro h; cases h)
def T_impl_isText (n : Nat) (a0 : (List UInt8)) : Option Bool :=
  (L_impl_isText_l0 a0 ((a0.length : Nat) : Int) n 0).bind fun o1 =>
  match o1 with
  | .inl o1_0 =>
    some o1_0
  | .inr (o1_1) =>
    some (decide (((a0.length : Nat) : Int) <= 20))
set_option maxRecDepth 100000 in
theorem fd_103 : cfg.funcs 103 = some (bodyOf Tryz.f103, Tryz.f103.ntmps, Tryz.f103.results.toList) := fn_of Tryz.func103 (by kernel_rfl) (by kernel_rfl)
theorem g_impl_isText (n : Nat) (a0 : (List UInt8)) (r : Bool) (h : T_impl_isText n a0 = some r) : (mach cfg).call 103 [] [.val false [.seq (eL e_u8 a0)]] = some (.val false [.bool r], []) := by
  unfold T_impl_isText at h
  obtain ⟨o1, ho1, h⟩ := bs h
  let p52 : List (Q cfg) := [.le e_u8 a0, .lp (gl_impl_isText_l0 a0 ((a0.length : Nat) : Int) _ 0 _ ho1)]
  rcases o1 with o1_0 | o1_1
  · try dsimp only at h
    obtain rfl := Option.some.inj h
    exact call_wQ p52 rfl fd_103 (by kernel_rfl)
  · try dsimp only at h
    obtain rfl := Option.some.inj h
    exact call_wQ (p52 ++ [.le e_u8 a0, .gD ((a0.length : Nat) : Int) 20]) rfl fd_103 (by kernel_rfl)
theorem impl_isText_loop {a : List UInt8} (ha : a.length <= 2 ^ 20) : ∀ (d i m : Nat), i + d = a.length → d < m → ∃ z, L_impl_isText_l0 a (a.length : Int) m (i : Int) = some (if (a.drop i).all (inB 32 126) = true then .inr z else .inl false) := by
  intro d
  induction d with
  | zero =>
    intro i m hi hm
    obtain ⟨m, rfl, _⟩ := fuel hm
    exact ⟨_, by rw [L_impl_isText_l0, if_neg (by omega), List.drop_eq_nil_of_le (by omega)]; rfl⟩
  | succ d ih =>
    intro i m hi hm
    obtain ⟨m, rfl, hm'⟩ := fuel hm
    have hil : i < a.length := by omega
    rw [L_impl_isText_l0, if_pos (by omega), natO_nat, Option.bind_some, get_some hil, Option.bind_some, w64_succ (by omega), drop_cons hil, List.all_cons]
    by_cases h1 : ((a[i].toNat : Nat) : Int) < 32
    · exact ⟨0, by rw [if_pos h1, if_neg]; simp [inB]; omega⟩
    · rw [if_neg h1]
      by_cases h2 : (126 : Int) < ((a[i].toNat : Nat) : Int)
      · exact ⟨0, by rw [if_pos h2, if_neg]; simp [inB]; omega⟩
      · rw [if_neg h2, show inB 32 126 a[i] = true by simp [inB]; omega, Bool.true_and]
        exact ih (i + 1) m (by omega) (by omega)
def S_impl_isText (a0 : (List UInt8)) : Option Bool := if a0.length <= 2 ^ 20 then some (textB a0) else none
theorem spec_impl_isText (a0 : (List UInt8)) (r : Bool) (h : S_impl_isText a0 = some r) : ∃ n, T_impl_isText n a0 = some r := by
  unfold S_impl_isText at h
  obtain ⟨ha, h⟩ := need_c h
  refine ⟨a0.length + 1, ?_⟩
  obtain ⟨z, hz⟩ := impl_isText_loop ha a0.length 0 (a0.length + 1) (by omega) (by omega)
  rw [show ((0 : Nat) : Int) = 0 from rfl, List.drop_zero] at hz
  unfold T_impl_isText
  rw [<- h, hz]
  unfold textB
  by_cases hl : a0.length <= 20
  · rw [decide_eq_true hl]
    cases a0.all (inB 32 126)
    · rfl
    · show some (decide _) = _; rw [decide_eq_true (by omega)]; rfl
  · rw [decide_eq_false hl]
    cases a0.all (inB 32 126)
    · rfl
    · show some (decide _) = _; rw [decide_eq_false (by omega)]; rfl
theorem ok_impl_isText (a0 : (List UInt8)) (r : Bool) (h : S_impl_isText a0 = some r) : (mach cfg).call 103 [] [.val false [.seq (eL e_u8 a0)]] = some (.val false [.bool r], []) := by
  obtain ⟨n, hn⟩ := spec_impl_isText a0 r h
  exact g_impl_isText n a0 r hn
def S_bytes_Compare (a0 : (List UInt8)) (a1 : (List UInt8)) : Option Int :=
  (S_internal_bytealg_Compare a0 a1).bind fun r1 =>
  some r1
set_option maxRecDepth 100000 in
theorem fd_70 : cfg.funcs 70 = some (bodyOf Tryz.f70, Tryz.f70.ntmps, Tryz.f70.results.toList) := fn_of Tryz.func70 (by kernel_rfl) (by kernel_rfl)
theorem ok_bytes_Compare (a0 : (List UInt8)) (a1 : (List UInt8)) (r : Int) (h : S_bytes_Compare a0 a1 = some r) : (mach cfg).call 70 [] [.val false [.seq (eL e_u8 a0)], .val false [.seq (eL e_u8 a1)]] = some (.val false [.int .i64 r], []) := by
  unfold S_bytes_Compare at h
  obtain ⟨r1, hr1, h⟩ := bs h
  obtain rfl := Option.some.inj h
  exact call_wQ [.cl (ok_internal_bytealg_Compare a0 a1 _ hr1)] rfl fd_70 (by kernel_rfl)
def T_impl_isShaped_1 (G_impl_isShaped : GValue → Int → Option Bool) (a0 : GValue) (e0 : Int) : Option Bool :=
  (G_impl_isShaped a0 (w64 (e0 - 1))).bind fun r1 =>
  some (!r1)
set_option maxRecDepth 100000 in
theorem fd_104 : cfg.funcs 104 = some (bodyOf Tryz.f104, Tryz.f104.ntmps, Tryz.f104.results.toList) := fn_of Tryz.func104 (by kernel_rfl) (by kernel_rfl)
theorem g_impl_isShaped_1 (G_impl_isShaped : GValue → Int → Option Bool) (H_impl_isShaped : ∀ (a0 : GValue) (a1 : Int) (r : Bool), G_impl_isShaped a0 a1 = some r → (mach cfg).call 91 [] [.val true [.int .i64 a0.Kind, .int .i64 a0.N, .seq (eL e_u8 a0.S), .seq (eL (e_sl e_u8) a0.K), .seq (eL e_GValue a0.L)], .val false [.int .i64 a1]] = some (.val false [.bool r], [])) (a0 : GValue) (e0 : Int) (r : Bool) (h : T_impl_isShaped_1 G_impl_isShaped a0 e0 = some r) : (mach cfg).call 104 [.var [.int .i64 e0]] [.val true [.int .i64 a0.Kind, .int .i64 a0.N, .seq (eL e_u8 a0.S), .seq (eL (e_sl e_u8) a0.K), .seq (eL e_GValue a0.L)], .val false [.ptr 0 0]] = some (.val false [.bool r], [.var [.int .i64 e0]]) := by
  unfold T_impl_isShaped_1 at h
  obtain ⟨r1, hr1, h⟩ := bs h
  obtain rfl := Option.some.inj h
  exact call_wQ [.su e0 1, .cl (H_impl_isShaped a0 (w64 (e0 - 1)) _ hr1), .nt r1] rfl fd_104 (by kernel_rfl)
def L_slices_IndexFunc_Value_isShaped_1_l0 (G_impl_isShaped_1 : GValue → Int → Option Bool) (a0 : (List GValue)) (v1 : Int) (e0 : Int) : Nat → Int → Option (Int ⊕ Int)
  | 0, _ => none
  | m + 1, v2 =>
    if v2 < v1 then
      (natO v2).bind fun i2 =>
      (a0[i2]?).bind fun x3 =>
      (G_impl_isShaped_1 x3 e0).bind fun r4 =>
      match r4 with
      | true =>
        some (.inl v2)
      | false =>
        L_slices_IndexFunc_Value_isShaped_1_l0 G_impl_isShaped_1 a0 v1 e0 m (w64 (v2 + 1))
    else
      some (.inr v2)
theorem gl_slices_IndexFunc_Value_isShaped_1_l0 (G_impl_isShaped_1 : GValue → Int → Option Bool) (H_impl_isShaped_1 : ∀ (a0 : GValue) (e0 : Int) (r : Bool), G_impl_isShaped_1 a0 e0 = some r → (mach cfg).call 104 [.var [.int .i64 e0]] [.val true [.int .i64 a0.Kind, .int .i64 a0.N, .seq (eL e_u8 a0.S), .seq (eL (e_sl e_u8) a0.K), .seq (eL e_GValue a0.L)], .val false [.ptr 0 0]] = some (.val false [.bool r], [.var [.int .i64 e0]])) (a0 : (List GValue)) (v1 : Int) (e0 : Int) (m : Nat) : ∀ (v2 : Int) (o : (Int ⊕ Int)), L_slices_IndexFunc_Value_isShaped_1_l0 G_impl_isShaped_1 a0 v1 e0 m v2 = some o → (mach cfg).loop 93 (loopB Tryz.f93 0) ⟨[(0, .val false [.seq (eL e_GValue a0)]), (1, .val false [.fn 104 [.ptr 0 0]]), (7, .val false [.int .i64 v1]), (8, .val false [.int .i64 v2])], [.var [.int .i64 e0]], 1⟩ = some (match o with | .inl o_0 => (.ret, (⟨[(4, .val false [.int .i64 o_0])], [.var [.int .i64 e0]], 1⟩ : S)) | .inr (o_1) => (.exit 0, (⟨[(0, .val false [.seq (eL e_GValue a0)]), (1, .val false [.fn 104 [.ptr 0 0]]), (7, .val false [.int .i64 v1]), (8, .val false [.int .i64 o_1]), (9, .val false [.bool false])], [.var [.int .i64 e0]], 1⟩ : S))) := by
  induction m with
  | zero => intro v2 o h; cases h
  | succ m ih =>
    intro v2 o h
    rw [L_slices_IndexFunc_Value_isShaped_1_l0] at h
    rcases ite_some h with ⟨c1, h⟩ | ⟨c1, h⟩
    ·obtain ⟨i2, hi2, h⟩ := bs h
     obtain ⟨x3, hx3, h⟩ := bs h
     obtain ⟨r4, hr4, h⟩ := bs h
     let p53 : List (Q cfg) := [.lT c1, .na hi2, .ix hx3 (eq_GValue x3), .cl (H_impl_isShaped_1 x3 e0 _ hr4)]
     cases r4 with
     | true =>
      try dsimp only at h
      obtain rfl := Option.some.inj h
      exact loop_eQ p53 (by kernel_rfl) (by intro h; cases h)
     | false =>
      try dsimp only at h
      exact loop_nQ (p53 ++ [.ad v2 1]) (by kernel_rfl) (ih (w64 (v2 + 1)) o h)
    ·obtain rfl := Option.some.inj h
     exact loop_eQ [.lF c1] (by kernel_rfl) (by intro h; cases h)
def T_slices_IndexFunc_Value_isShaped_1 (G_impl_isShaped_1 : GValue → Int → Option Bool) (n : Nat) (a0 : (List GValue)) (e0 : Int) : Option Int :=
  (L_slices_IndexFunc_Value_isShaped_1_l0 G_impl_isShaped_1 a0 ((a0.length : Nat) : Int) e0 n 0).bind fun o1 =>
  match o1 with
  | .inl o1_0 =>
    some o1_0
  | .inr (o1_1) =>
    some (-1)
set_option maxRecDepth 100000 in
theorem fd_93 : cfg.funcs 93 = some (bodyOf Tryz.f93, Tryz.f93.ntmps, Tryz.f93.results.toList) := fn_of Tryz.func93 (by kernel_rfl) (by kernel_rfl)
theorem g_slices_IndexFunc_Value_isShaped_1 (G_impl_isShaped_1 : GValue → Int → Option Bool) (H_impl_isShaped_1 : ∀ (a0 : GValue) (e0 : Int) (r : Bool), G_impl_isShaped_1 a0 e0 = some r → (mach cfg).call 104 [.var [.int .i64 e0]] [.val true [.int .i64 a0.Kind, .int .i64 a0.N, .seq (eL e_u8 a0.S), .seq (eL (e_sl e_u8) a0.K), .seq (eL e_GValue a0.L)], .val false [.ptr 0 0]] = some (.val false [.bool r], [.var [.int .i64 e0]])) (n : Nat) (a0 : (List GValue)) (e0 : Int) (r : Int) (h : T_slices_IndexFunc_Value_isShaped_1 G_impl_isShaped_1 n a0 e0 = some r) : (mach cfg).call 93 [.var [.int .i64 e0]] [.val false [.seq (eL e_GValue a0)], .val false [.fn 104 [.ptr 0 0]]] = some (.val false [.int .i64 r], [.var [.int .i64 e0]]) := by
  unfold T_slices_IndexFunc_Value_isShaped_1 at h
  obtain ⟨o1, ho1, h⟩ := bs h
  let p54 : List (Q cfg) := [.le e_GValue a0, .lp (gl_slices_IndexFunc_Value_isShaped_1_l0 G_impl_isShaped_1 H_impl_isShaped_1 a0 ((a0.length : Nat) : Int) e0 _ 0 _ ho1)]
  rcases o1 with o1_0 | o1_1
  · try dsimp only at h
    obtain rfl := Option.some.inj h
    exact call_wQ p54 rfl fd_93 (by kernel_rfl)
  · try dsimp only at h
    obtain rfl := Option.some.inj h
    exact call_wQ p54 rfl fd_93 (by kernel_rfl)
def T_slices_ContainsFunc_Value_isShaped_1 (G_slices_IndexFunc_Value_isShaped_1 : (List GValue) → Int → Option Int) (a0 : (List GValue)) (e0 : Int) : Option Bool :=
  (G_slices_IndexFunc_Value_isShaped_1 a0 e0).bind fun r1 =>
  some (decide (0 <= r1))
set_option maxRecDepth 100000 in
theorem fd_78 : cfg.funcs 78 = some (bodyOf Tryz.f78, Tryz.f78.ntmps, Tryz.f78.results.toList) := fn_of Tryz.func78 (by kernel_rfl) (by kernel_rfl)
theorem g_slices_ContainsFunc_Value_isShaped_1 (G_slices_IndexFunc_Value_isShaped_1 : (List GValue) → Int → Option Int) (H_slices_IndexFunc_Value_isShaped_1 : ∀ (a0 : (List GValue)) (e0 : Int) (r : Int), G_slices_IndexFunc_Value_isShaped_1 a0 e0 = some r → (mach cfg).call 93 [.var [.int .i64 e0]] [.val false [.seq (eL e_GValue a0)], .val false [.fn 104 [.ptr 0 0]]] = some (.val false [.int .i64 r], [.var [.int .i64 e0]])) (a0 : (List GValue)) (e0 : Int) (r : Bool) (h : T_slices_ContainsFunc_Value_isShaped_1 G_slices_IndexFunc_Value_isShaped_1 a0 e0 = some r) : (mach cfg).call 78 [.var [.int .i64 e0]] [.val false [.seq (eL e_GValue a0)], .val false [.fn 104 [.ptr 0 0]]] = some (.val false [.bool r], [.var [.int .i64 e0]]) := by
  unfold T_slices_ContainsFunc_Value_isShaped_1 at h
  obtain ⟨r1, hr1, h⟩ := bs h
  obtain rfl := Option.some.inj h
  exact call_wQ [.cl (H_slices_IndexFunc_Value_isShaped_1 a0 e0 _ hr1), .gD 0 r1] rfl fd_78 (by kernel_rfl)
def L_impl_isShaped_l0 (G_slices_ContainsFunc_Value_isShaped_1 : (List GValue) → Int → Option Bool) (v0 : Bool) (v1 : Bool) (v2 : (List (List UInt8))) (v3 : Int) (a0 : GValue) (a1 : Int) : Nat → Int → Option (Bool ⊕ Int)
  | 0, _ => none
  | m + 1, v4 =>
    if v4 < v3 then
      (natO v4).bind fun i2 =>
      (v2[i2]?).bind fun x3 =>
      (S_impl_isName x3).bind fun r4 =>
      match r4 with
      | true =>
        if 0 < v4 then
          (natO (w64 (v4 - 1))).bind fun i7 =>
          (a0.K[i7]?).bind fun x8 =>
          (S_bytes_Compare x8 x3).bind fun r9 =>
          if 0 <= r9 then
            some (.inl false)
          else
            L_impl_isShaped_l0 G_slices_ContainsFunc_Value_isShaped_1 v0 v1 v2 v3 a0 a1 m (w64 (v4 + 1))
        else
          L_impl_isShaped_l0 G_slices_ContainsFunc_Value_isShaped_1 v0 v1 v2 v3 a0 a1 m (w64 (v4 + 1))
      | false =>
        some (.inl false)
    else
      some (.inr v4)
theorem gl_impl_isShaped_l0 (G_slices_ContainsFunc_Value_isShaped_1 : (List GValue) → Int → Option Bool) (H_slices_ContainsFunc_Value_isShaped_1 : ∀ (a0 : (List GValue)) (e0 : Int) (r : Bool), G_slices_ContainsFunc_Value_isShaped_1 a0 e0 = some r → (mach cfg).call 78 [.var [.int .i64 e0]] [.val false [.seq (eL e_GValue a0)], .val false [.fn 104 [.ptr 0 0]]] = some (.val false [.bool r], [.var [.int .i64 e0]])) (v0 : Bool) (v1 : Bool) (v2 : (List (List UInt8))) (v3 : Int) (a0 : GValue) (a1 : Int) (m : Nat) : ∀ (v4 : Int) (o : (Bool ⊕ Int)), L_impl_isShaped_l0 G_slices_ContainsFunc_Value_isShaped_1 v0 v1 v2 v3 a0 a1 m v4 = some o → (mach cfg).loop 91 (loopB Tryz.f91 0) ⟨[(2, .val false [.ptr 0 0]), (3, .val false [.ptr 1 0]), (5, .val false [.bool v0]), (6, .val false [.bool v1]), (99, .val false [.seq (eL (e_sl e_u8) v2)]), (100, .val false [.int .i64 v3]), (101, .val false [.int .i64 v4])], [.var [.int .i64 a0.Kind, .int .i64 a0.N, .seq (eL e_u8 a0.S), .seq (eL (e_sl e_u8) a0.K), .seq (eL e_GValue a0.L)], .var [.int .i64 a1]], 0⟩ = some (match o with | .inl o_0 => (.ret, (⟨[(4, .val false [.bool o_0])], [], 0⟩ : S)) | .inr (o_1) => (.exit 1, (⟨[(2, .val false [.ptr 0 0]), (3, .val false [.ptr 1 0]), (5, .val false [.bool v0]), (6, .val false [.bool v1]), (99, .val false [.seq (eL (e_sl e_u8) v2)]), (100, .val false [.int .i64 v3]), (101, .val false [.int .i64 o_1]), (102, .val false [.bool false])], [.var [.int .i64 a0.Kind, .int .i64 a0.N, .seq (eL e_u8 a0.S), .seq (eL (e_sl e_u8) a0.K), .seq (eL e_GValue a0.L)], .var [.int .i64 a1]], 0⟩ : S))) := by
  induction m with
  | zero => intro v4 o h; cases h
  | succ m ih =>
    intro v4 o h
    rw [L_impl_isShaped_l0] at h
    rcases ite_some h with ⟨c1, h⟩ | ⟨c1, h⟩
    ·obtain ⟨i2, hi2, h⟩ := bs h
     obtain ⟨x3, hx3, h⟩ := bs h
     obtain ⟨r4, hr4, h⟩ := bs h
     let p55 : List (Q cfg) := [.lT c1, .na hi2, .ix0 (e_sl e_u8) hx3, .cl (ok_impl_isName x3 _ hr4)]
     cases r4 with
     | true =>
      try dsimp only at h
      rcases ite_some h with ⟨c6, h⟩ | ⟨c6, h⟩
      ·obtain ⟨i7, hi7, h⟩ := bs h
       obtain ⟨x8, hx8, h⟩ := bs h
       obtain ⟨r9, hr9, h⟩ := bs h
       let p56 : List (Q cfg) := p55 ++ [.nt true, .lT c6, .su v4 1, .na hi7, .ix0 (e_sl e_u8) hx8, .cl (ok_bytes_Compare x8 x3 _ hr9)]
       rcases ite_some h with ⟨c10, h⟩ | ⟨c10, h⟩
       ·obtain rfl := Option.some.inj h
        exact loop_eQ (p56 ++ [.gT c10]) (by kernel_rfl) (by intro h; cases h)
       ·exact loop_nQ (p56 ++ [.gF c10, .ad v4 1]) (by kernel_rfl) (ih (w64 (v4 + 1)) o h)
      ·exact loop_nQ (p55 ++ [.nt true, .lF c6, .ad v4 1]) (by kernel_rfl) (ih (w64 (v4 + 1)) o h)
     | false =>
      try dsimp only at h
      obtain rfl := Option.some.inj h
      exact loop_eQ (p55 ++ [.nt false]) (by kernel_rfl) (by intro h; cases h)
    ·obtain rfl := Option.some.inj h
     exact loop_eQ [.lF c1] (by kernel_rfl) (by intro h; cases h)
def T_impl_isShaped (G_slices_ContainsFunc_Value_isShaped_1 : (List GValue) → Int → Option Bool) (n : Nat) (a0 : GValue) (a1 : Int) : Option Bool :=
  if a1 = 0 then
    some false
  else
    if a0.Kind = 0 then
      if a0.N = 0 then
        if ((a0.S.length : Nat) : Int) = 0 then
          if ((a0.K.length : Nat) : Int) = 0 then
            some (decide (((a0.L.length : Nat) : Int) = 0))
          else
            some false
        else
          some false
      else
        some false
    else
      if a0.Kind = 6 then
        if a0.N = 0 then
          if ((a0.S.length : Nat) : Int) = 0 then
            if ((a0.K.length : Nat) : Int) = 0 then
              some (decide (((a0.L.length : Nat) : Int) = 0))
            else
              some false
          else
            some false
        else
          some false
      else
        if a0.Kind = 1 then
          (S_impl_in a0.N 0 1).bind fun r5 =>
          match r5 with
          | true =>
            if ((a0.S.length : Nat) : Int) = 0 then
              if ((a0.K.length : Nat) : Int) = 0 then
                some (decide (((a0.L.length : Nat) : Int) = 0))
              else
                some false
            else
              some false
          | false =>
            some false
        else
          if a0.Kind = 2 then
            (S_impl_in a0.N (-1000000000000) 1000000000000).bind fun r6 =>
            match r6 with
            | true =>
              if ((a0.S.length : Nat) : Int) = 0 then
                if ((a0.K.length : Nat) : Int) = 0 then
                  some (decide (((a0.L.length : Nat) : Int) = 0))
                else
                  some false
              else
                some false
            | false =>
              some false
          else
            if a0.Kind = 3 then
              (S_impl_isText a0.S).bind fun r7 =>
              match r7 with
              | true =>
                if a0.N = 0 then
                  if ((a0.K.length : Nat) : Int) = 0 then
                    some (decide (((a0.L.length : Nat) : Int) = 0))
                  else
                    some false
                else
                  some false
              | false =>
                some false
            else
              if a0.Kind = 4 then
                if ((a0.K.length : Nat) : Int) = 0 then
                  if a0.N = 0 then
                    if ((a0.S.length : Nat) : Int) = 0 then
                      if ((a0.L.length : Nat) : Int) <= 40 then
                        (G_slices_ContainsFunc_Value_isShaped_1 a0.L a1).bind fun r12 =>
                        some (!r12)
                      else
                        some false
                    else
                      some false
                  else
                    some false
                else
                  some false
              else
                if a0.Kind = 5 then
                  if ((a0.K.length : Nat) : Int) = ((a0.L.length : Nat) : Int) then
                    if a0.N = 0 then
                      if ((a0.S.length : Nat) : Int) = 0 then
                        (L_impl_isShaped_l0 G_slices_ContainsFunc_Value_isShaped_1 true true a0.K ((a0.K.length : Nat) : Int) a0 a1 n 0).bind fun o12 =>
                        match o12 with
                        | .inl o12_0 =>
                          some o12_0
                        | .inr (o12_1) =>
                          if ((a0.L.length : Nat) : Int) <= 40 then
                            (G_slices_ContainsFunc_Value_isShaped_1 a0.L a1).bind fun r14 =>
                            some (!r14)
                          else
                            some false
                      else
                        (L_impl_isShaped_l0 G_slices_ContainsFunc_Value_isShaped_1 true false a0.K ((a0.K.length : Nat) : Int) a0 a1 n 0).bind fun o12 =>
                        match o12 with
                        | .inl o12_0 =>
                          some o12_0
                        | .inr (o12_1) =>
                          some false
                    else
                      if ((a0.S.length : Nat) : Int) = 0 then
                        (L_impl_isShaped_l0 G_slices_ContainsFunc_Value_isShaped_1 false true a0.K ((a0.K.length : Nat) : Int) a0 a1 n 0).bind fun o12 =>
                        match o12 with
                        | .inl o12_0 =>
                          some o12_0
                        | .inr (o12_1) =>
                          some false
                      else
                        (L_impl_isShaped_l0 G_slices_ContainsFunc_Value_isShaped_1 false false a0.K ((a0.K.length : Nat) : Int) a0 a1 n 0).bind fun o12 =>
                        match o12 with
                        | .inl o12_0 =>
                          some o12_0
                        | .inr (o12_1) =>
                          some false
                  else
                    some false
                else
                  some false
set_option maxRecDepth 100000 in
theorem fd_91 : cfg.funcs 91 = some (bodyOf Tryz.f91, Tryz.f91.ntmps, Tryz.f91.results.toList) := fn_of Tryz.func91 (by kernel_rfl) (by kernel_rfl)
theorem g_impl_isShaped (G_slices_ContainsFunc_Value_isShaped_1 : (List GValue) → Int → Option Bool) (H_slices_ContainsFunc_Value_isShaped_1 : ∀ (a0 : (List GValue)) (e0 : Int) (r : Bool), G_slices_ContainsFunc_Value_isShaped_1 a0 e0 = some r → (mach cfg).call 78 [.var [.int .i64 e0]] [.val false [.seq (eL e_GValue a0)], .val false [.fn 104 [.ptr 0 0]]] = some (.val false [.bool r], [.var [.int .i64 e0]])) (n : Nat) (a0 : GValue) (a1 : Int) (r : Bool) (h : T_impl_isShaped G_slices_ContainsFunc_Value_isShaped_1 n a0 a1 = some r) : (mach cfg).call 91 [] [.val true [.int .i64 a0.Kind, .int .i64 a0.N, .seq (eL e_u8 a0.S), .seq (eL (e_sl e_u8) a0.K), .seq (eL e_GValue a0.L)], .val false [.int .i64 a1]] = some (.val false [.bool r], []) := by
  unfold T_impl_isShaped at h
  rcases ite_some h with ⟨c1, h⟩ | ⟨c1, h⟩
  ·obtain rfl := Option.some.inj h
   exact call_wQ [.eT c1] rfl fd_91 (by kernel_rfl)
  ·let p57 : List (Q cfg) := [.eF c1]
   rcases ite_some h with ⟨c2, h⟩ | ⟨c2, h⟩
   ·rcases ite_some h with ⟨c3, h⟩ | ⟨c3, h⟩
    ·rcases ite_some h with ⟨c4, h⟩ | ⟨c4, h⟩
     ·rcases ite_some h with ⟨c5, h⟩ | ⟨c5, h⟩
      ·obtain rfl := Option.some.inj h
       exact call_wQ (p57 ++ [.eT c3, .le e_u8 a0.S, .eT c4, .le (e_sl e_u8) a0.K, .eT c5, .le e_GValue a0.L, .eD ((a0.L.length : Nat) : Int) 0, .eT c2]) rfl fd_91 (by kernel_rfl)
      ·obtain rfl := Option.some.inj h
       exact call_wQ (p57 ++ [.eT c3, .le e_u8 a0.S, .eT c4, .le (e_sl e_u8) a0.K, .eF c5, .le e_GValue a0.L, .eD ((a0.L.length : Nat) : Int) 0, .eT c2]) rfl fd_91 (by kernel_rfl)
     ·obtain rfl := Option.some.inj h
      exact call_wQ (p57 ++ [.eT c3, .le e_u8 a0.S, .eF c4, .le (e_sl e_u8) a0.K, .eD ((a0.K.length : Nat) : Int) 0, .le e_GValue a0.L, .eD ((a0.L.length : Nat) : Int) 0, .eT c2]) rfl fd_91 (by kernel_rfl)
    ·obtain rfl := Option.some.inj h
     exact call_wQ (p57 ++ [.eF c3, .le e_u8 a0.S, .eD ((a0.S.length : Nat) : Int) 0, .le (e_sl e_u8) a0.K, .eD ((a0.K.length : Nat) : Int) 0, .le e_GValue a0.L, .eD ((a0.L.length : Nat) : Int) 0, .eT c2]) rfl fd_91 (by kernel_rfl)
   ·rcases ite_some h with ⟨c3, h⟩ | ⟨c3, h⟩
    ·rcases ite_some h with ⟨c4, h⟩ | ⟨c4, h⟩
     ·rcases ite_some h with ⟨c5, h⟩ | ⟨c5, h⟩
      ·rcases ite_some h with ⟨c6, h⟩ | ⟨c6, h⟩
       ·obtain rfl := Option.some.inj h
        exact call_wQ (p57 ++ [.eT c4, .le e_u8 a0.S, .eT c5, .le (e_sl e_u8) a0.K, .eT c6, .le e_GValue a0.L, .eD ((a0.L.length : Nat) : Int) 0, .eF c2, .eT c3]) rfl fd_91 (by kernel_rfl)
       ·obtain rfl := Option.some.inj h
        exact call_wQ (p57 ++ [.eT c4, .le e_u8 a0.S, .eT c5, .le (e_sl e_u8) a0.K, .eF c6, .le e_GValue a0.L, .eD ((a0.L.length : Nat) : Int) 0, .eF c2, .eT c3]) rfl fd_91 (by kernel_rfl)
      ·obtain rfl := Option.some.inj h
       exact call_wQ (p57 ++ [.eT c4, .le e_u8 a0.S, .eF c5, .le (e_sl e_u8) a0.K, .eD ((a0.K.length : Nat) : Int) 0, .le e_GValue a0.L, .eD ((a0.L.length : Nat) : Int) 0, .eF c2, .eT c3]) rfl fd_91 (by kernel_rfl)
     ·obtain rfl := Option.some.inj h
      exact call_wQ (p57 ++ [.eF c4, .le e_u8 a0.S, .eD ((a0.S.length : Nat) : Int) 0, .le (e_sl e_u8) a0.K, .eD ((a0.K.length : Nat) : Int) 0, .le e_GValue a0.L, .eD ((a0.L.length : Nat) : Int) 0, .eF c2, .eT c3]) rfl fd_91 (by kernel_rfl)
    ·rcases ite_some h with ⟨c4, h⟩ | ⟨c4, h⟩
     ·obtain ⟨r5, hr5, h⟩ := bs h
      cases r5 with
      | true =>
       try dsimp only at h
       rcases ite_some h with ⟨c7, h⟩ | ⟨c7, h⟩
       ·rcases ite_some h with ⟨c8, h⟩ | ⟨c8, h⟩
        ·obtain rfl := Option.some.inj h
         exact call_wQ (p57 ++ [.eD a0.N 0, .le e_u8 a0.S, .eT c7, .le (e_sl e_u8) a0.K, .eT c8, .le e_GValue a0.L, .eD ((a0.L.length : Nat) : Int) 0, .eF c2, .eF c3, .eT c4, .cl (ok_impl_in a0.N 0 1 _ hr5)]) rfl fd_91 (by kernel_rfl)
        ·obtain rfl := Option.some.inj h
         exact call_wQ (p57 ++ [.eD a0.N 0, .le e_u8 a0.S, .eT c7, .le (e_sl e_u8) a0.K, .eF c8, .le e_GValue a0.L, .eD ((a0.L.length : Nat) : Int) 0, .eF c2, .eF c3, .eT c4, .cl (ok_impl_in a0.N 0 1 _ hr5)]) rfl fd_91 (by kernel_rfl)
       ·obtain rfl := Option.some.inj h
        exact call_wQ (p57 ++ [.eD a0.N 0, .le e_u8 a0.S, .eF c7, .le (e_sl e_u8) a0.K, .eD ((a0.K.length : Nat) : Int) 0, .le e_GValue a0.L, .eD ((a0.L.length : Nat) : Int) 0, .eF c2, .eF c3, .eT c4, .cl (ok_impl_in a0.N 0 1 _ hr5)]) rfl fd_91 (by kernel_rfl)
      | false =>
       try dsimp only at h
       obtain rfl := Option.some.inj h
       exact call_wQ (p57 ++ [.eD a0.N 0, .le e_u8 a0.S, .eD ((a0.S.length : Nat) : Int) 0, .le (e_sl e_u8) a0.K, .eD ((a0.K.length : Nat) : Int) 0, .le e_GValue a0.L, .eD ((a0.L.length : Nat) : Int) 0, .eF c2, .eF c3, .eT c4, .cl (ok_impl_in a0.N 0 1 _ hr5)]) rfl fd_91 (by kernel_rfl)
     ·rcases ite_some h with ⟨c5, h⟩ | ⟨c5, h⟩
      ·obtain ⟨r6, hr6, h⟩ := bs h
       cases r6 with
       | true =>
        try dsimp only at h
        rcases ite_some h with ⟨c8, h⟩ | ⟨c8, h⟩
        ·rcases ite_some h with ⟨c9, h⟩ | ⟨c9, h⟩
         ·obtain rfl := Option.some.inj h
          exact call_wQ (p57 ++ [.eD a0.N 0, .le e_u8 a0.S, .eT c8, .le (e_sl e_u8) a0.K, .eT c9, .le e_GValue a0.L, .eD ((a0.L.length : Nat) : Int) 0, .eF c2, .eF c3, .eF c4, .eT c5, .cl (ok_impl_in a0.N (-1000000000000) 1000000000000 _ hr6)]) rfl fd_91 (by kernel_rfl)
         ·obtain rfl := Option.some.inj h
          exact call_wQ (p57 ++ [.eD a0.N 0, .le e_u8 a0.S, .eT c8, .le (e_sl e_u8) a0.K, .eF c9, .le e_GValue a0.L, .eD ((a0.L.length : Nat) : Int) 0, .eF c2, .eF c3, .eF c4, .eT c5, .cl (ok_impl_in a0.N (-1000000000000) 1000000000000 _ hr6)]) rfl fd_91 (by kernel_rfl)
        ·obtain rfl := Option.some.inj h
         exact call_wQ (p57 ++ [.eD a0.N 0, .le e_u8 a0.S, .eF c8, .le (e_sl e_u8) a0.K, .eD ((a0.K.length : Nat) : Int) 0, .le e_GValue a0.L, .eD ((a0.L.length : Nat) : Int) 0, .eF c2, .eF c3, .eF c4, .eT c5, .cl (ok_impl_in a0.N (-1000000000000) 1000000000000 _ hr6)]) rfl fd_91 (by kernel_rfl)
       | false =>
        try dsimp only at h
        obtain rfl := Option.some.inj h
        exact call_wQ (p57 ++ [.eD a0.N 0, .le e_u8 a0.S, .eD ((a0.S.length : Nat) : Int) 0, .le (e_sl e_u8) a0.K, .eD ((a0.K.length : Nat) : Int) 0, .le e_GValue a0.L, .eD ((a0.L.length : Nat) : Int) 0, .eF c2, .eF c3, .eF c4, .eT c5, .cl (ok_impl_in a0.N (-1000000000000) 1000000000000 _ hr6)]) rfl fd_91 (by kernel_rfl)
      ·rcases ite_some h with ⟨c6, h⟩ | ⟨c6, h⟩
       ·obtain ⟨r7, hr7, h⟩ := bs h
        cases r7 with
        | true =>
         try dsimp only at h
         rcases ite_some h with ⟨c9, h⟩ | ⟨c9, h⟩
         ·rcases ite_some h with ⟨c10, h⟩ | ⟨c10, h⟩
          ·obtain rfl := Option.some.inj h
           exact call_wQ (p57 ++ [.eT c9, .le e_u8 a0.S, .eD ((a0.S.length : Nat) : Int) 0, .le (e_sl e_u8) a0.K, .eT c10, .le e_GValue a0.L, .eD ((a0.L.length : Nat) : Int) 0, .eF c2, .eF c3, .eF c4, .eF c5, .eT c6, .cl (ok_impl_isText a0.S _ hr7)]) rfl fd_91 (by kernel_rfl)
          ·obtain rfl := Option.some.inj h
           exact call_wQ (p57 ++ [.eT c9, .le e_u8 a0.S, .eD ((a0.S.length : Nat) : Int) 0, .le (e_sl e_u8) a0.K, .eF c10, .le e_GValue a0.L, .eD ((a0.L.length : Nat) : Int) 0, .eF c2, .eF c3, .eF c4, .eF c5, .eT c6, .cl (ok_impl_isText a0.S _ hr7)]) rfl fd_91 (by kernel_rfl)
         ·obtain rfl := Option.some.inj h
          exact call_wQ (p57 ++ [.eF c9, .le e_u8 a0.S, .eD ((a0.S.length : Nat) : Int) 0, .le (e_sl e_u8) a0.K, .eD ((a0.K.length : Nat) : Int) 0, .le e_GValue a0.L, .eD ((a0.L.length : Nat) : Int) 0, .eF c2, .eF c3, .eF c4, .eF c5, .eT c6, .cl (ok_impl_isText a0.S _ hr7)]) rfl fd_91 (by kernel_rfl)
        | false =>
         try dsimp only at h
         obtain rfl := Option.some.inj h
         exact call_wQ (p57 ++ [.eD a0.N 0, .le e_u8 a0.S, .eD ((a0.S.length : Nat) : Int) 0, .le (e_sl e_u8) a0.K, .eD ((a0.K.length : Nat) : Int) 0, .le e_GValue a0.L, .eD ((a0.L.length : Nat) : Int) 0, .eF c2, .eF c3, .eF c4, .eF c5, .eT c6, .cl (ok_impl_isText a0.S _ hr7)]) rfl fd_91 (by kernel_rfl)
       ·rcases ite_some h with ⟨c7, h⟩ | ⟨c7, h⟩
        ·rcases ite_some h with ⟨c8, h⟩ | ⟨c8, h⟩
         ·rcases ite_some h with ⟨c9, h⟩ | ⟨c9, h⟩
          ·rcases ite_some h with ⟨c10, h⟩ | ⟨c10, h⟩
           ·rcases ite_some h with ⟨c11, h⟩ | ⟨c11, h⟩
            ·obtain ⟨r12, hr12, h⟩ := bs h
             obtain rfl := Option.some.inj h
             exact call_wQ (p57 ++ [.eT c9, .le e_u8 a0.S, .eT c10, .le (e_sl e_u8) a0.K, .eT c8, .le e_GValue a0.L, .eD ((a0.L.length : Nat) : Int) 0, .eF c2, .eF c3, .eF c4, .eF c5, .eF c6, .eT c7, .nt true, .le e_GValue a0.L, .gT c11, .cl (H_slices_ContainsFunc_Value_isShaped_1 a0.L a1 _ hr12), .nt r12]) rfl fd_91 (by kernel_rfl)
            ·obtain rfl := Option.some.inj h
             exact call_wQ (p57 ++ [.eT c9, .le e_u8 a0.S, .eT c10, .le (e_sl e_u8) a0.K, .eT c8, .le e_GValue a0.L, .eD ((a0.L.length : Nat) : Int) 0, .eF c2, .eF c3, .eF c4, .eF c5, .eF c6, .eT c7, .nt true, .le e_GValue a0.L, .gF c11]) rfl fd_91 (by kernel_rfl)
           ·obtain rfl := Option.some.inj h
            exact call_wQ (p57 ++ [.eT c9, .le e_u8 a0.S, .eF c10, .le (e_sl e_u8) a0.K, .eT c8, .le e_GValue a0.L, .eD ((a0.L.length : Nat) : Int) 0, .eF c2, .eF c3, .eF c4, .eF c5, .eF c6, .eT c7, .nt true]) rfl fd_91 (by kernel_rfl)
          ·obtain rfl := Option.some.inj h
           exact call_wQ (p57 ++ [.eF c9, .le e_u8 a0.S, .eD ((a0.S.length : Nat) : Int) 0, .le (e_sl e_u8) a0.K, .eT c8, .le e_GValue a0.L, .eD ((a0.L.length : Nat) : Int) 0, .eF c2, .eF c3, .eF c4, .eF c5, .eF c6, .eT c7, .nt true]) rfl fd_91 (by kernel_rfl)
         ·obtain rfl := Option.some.inj h
          exact call_wQ (p57 ++ [.eD a0.N 0, .le e_u8 a0.S, .eD ((a0.S.length : Nat) : Int) 0, .le (e_sl e_u8) a0.K, .eF c8, .le e_GValue a0.L, .eD ((a0.L.length : Nat) : Int) 0, .eF c2, .eF c3, .eF c4, .eF c5, .eF c6, .eT c7, .nt false]) rfl fd_91 (by kernel_rfl)
        ·rcases ite_some h with ⟨c8, h⟩ | ⟨c8, h⟩
         ·rcases ite_some h with ⟨c9, h⟩ | ⟨c9, h⟩
          ·rcases ite_some h with ⟨c10, h⟩ | ⟨c10, h⟩
           ·rcases ite_some h with ⟨c11, h⟩ | ⟨c11, h⟩
            ·obtain ⟨o12, ho12, h⟩ := bs h
             rcases o12 with o12_0 | o12_1
             · try dsimp only at h
               obtain rfl := Option.some.inj h
               exact call_wQ (p57 ++ [.eT c10, .le e_u8 a0.S, .eT c11, .le (e_sl e_u8) a0.K, .eD ((a0.K.length : Nat) : Int) 0, .le e_GValue a0.L, .eD ((a0.L.length : Nat) : Int) 0, .eF c2, .eF c3, .eF c4, .eF c5, .eF c6, .eF c7, .eT c8, .le (e_sl e_u8) a0.K, .le e_GValue a0.L, .eT c9, .nt true, .le (e_sl e_u8) a0.K, .lp (gl_impl_isShaped_l0 G_slices_ContainsFunc_Value_isShaped_1 H_slices_ContainsFunc_Value_isShaped_1 true true a0.K ((a0.K.length : Nat) : Int) a0 a1 _ 0 _ ho12)]) rfl fd_91 (by kernel_rfl)
             · try dsimp only at h
               rcases ite_some h with ⟨c13, h⟩ | ⟨c13, h⟩
               ·obtain ⟨r14, hr14, h⟩ := bs h
                obtain rfl := Option.some.inj h
                exact call_wQ (p57 ++ [.eT c10, .le e_u8 a0.S, .eT c11, .le (e_sl e_u8) a0.K, .eD ((a0.K.length : Nat) : Int) 0, .le e_GValue a0.L, .eD ((a0.L.length : Nat) : Int) 0, .eF c2, .eF c3, .eF c4, .eF c5, .eF c6, .eF c7, .eT c8, .le (e_sl e_u8) a0.K, .le e_GValue a0.L, .eT c9, .nt true, .le (e_sl e_u8) a0.K, .lp (gl_impl_isShaped_l0 G_slices_ContainsFunc_Value_isShaped_1 H_slices_ContainsFunc_Value_isShaped_1 true true a0.K ((a0.K.length : Nat) : Int) a0 a1 _ 0 _ ho12), .le e_GValue a0.L, .gT c13, .cl (H_slices_ContainsFunc_Value_isShaped_1 a0.L a1 _ hr14), .nt r14]) rfl fd_91 (by kernel_rfl)
               ·obtain rfl := Option.some.inj h
                exact call_wQ (p57 ++ [.eT c10, .le e_u8 a0.S, .eT c11, .le (e_sl e_u8) a0.K, .eD ((a0.K.length : Nat) : Int) 0, .le e_GValue a0.L, .eD ((a0.L.length : Nat) : Int) 0, .eF c2, .eF c3, .eF c4, .eF c5, .eF c6, .eF c7, .eT c8, .le (e_sl e_u8) a0.K, .le e_GValue a0.L, .eT c9, .nt true, .le (e_sl e_u8) a0.K, .lp (gl_impl_isShaped_l0 G_slices_ContainsFunc_Value_isShaped_1 H_slices_ContainsFunc_Value_isShaped_1 true true a0.K ((a0.K.length : Nat) : Int) a0 a1 _ 0 _ ho12), .le e_GValue a0.L, .gF c13]) rfl fd_91 (by kernel_rfl)
            ·obtain ⟨o12, ho12, h⟩ := bs h
             let p58 : List (Q cfg) := p57 ++ [.eT c10, .le e_u8 a0.S, .eF c11, .le (e_sl e_u8) a0.K, .eD ((a0.K.length : Nat) : Int) 0, .le e_GValue a0.L, .eD ((a0.L.length : Nat) : Int) 0, .eF c2, .eF c3, .eF c4, .eF c5, .eF c6, .eF c7, .eT c8, .le (e_sl e_u8) a0.K, .le e_GValue a0.L, .eT c9, .nt true, .le (e_sl e_u8) a0.K, .lp (gl_impl_isShaped_l0 G_slices_ContainsFunc_Value_isShaped_1 H_slices_ContainsFunc_Value_isShaped_1 true false a0.K ((a0.K.length : Nat) : Int) a0 a1 _ 0 _ ho12)]
             rcases o12 with o12_0 | o12_1
             · try dsimp only at h
               obtain rfl := Option.some.inj h
               exact call_wQ p58 rfl fd_91 (by kernel_rfl)
             · try dsimp only at h
               obtain rfl := Option.some.inj h
               exact call_wQ p58 rfl fd_91 (by kernel_rfl)
           ·rcases ite_some h with ⟨c11, h⟩ | ⟨c11, h⟩
            ·obtain ⟨o12, ho12, h⟩ := bs h
             let p59 : List (Q cfg) := p57 ++ [.eF c10, .le e_u8 a0.S, .eT c11, .le (e_sl e_u8) a0.K, .eD ((a0.K.length : Nat) : Int) 0, .le e_GValue a0.L, .eD ((a0.L.length : Nat) : Int) 0, .eF c2, .eF c3, .eF c4, .eF c5, .eF c6, .eF c7, .eT c8, .le (e_sl e_u8) a0.K, .le e_GValue a0.L, .eT c9, .nt true, .le (e_sl e_u8) a0.K, .lp (gl_impl_isShaped_l0 G_slices_ContainsFunc_Value_isShaped_1 H_slices_ContainsFunc_Value_isShaped_1 false true a0.K ((a0.K.length : Nat) : Int) a0 a1 _ 0 _ ho12)]
             rcases o12 with o12_0 | o12_1
             · try dsimp only at h
               obtain rfl := Option.some.inj h
               exact call_wQ p59 rfl fd_91 (by kernel_rfl)
             · try dsimp only at h
               obtain rfl := Option.some.inj h
               exact call_wQ p59 rfl fd_91 (by kernel_rfl)
            ·obtain ⟨o12, ho12, h⟩ := bs h
             let p60 : List (Q cfg) := p57 ++ [.eF c10, .le e_u8 a0.S, .eF c11, .le (e_sl e_u8) a0.K, .eD ((a0.K.length : Nat) : Int) 0, .le e_GValue a0.L, .eD ((a0.L.length : Nat) : Int) 0, .eF c2, .eF c3, .eF c4, .eF c5, .eF c6, .eF c7, .eT c8, .le (e_sl e_u8) a0.K, .le e_GValue a0.L, .eT c9, .nt true, .le (e_sl e_u8) a0.K, .lp (gl_impl_isShaped_l0 G_slices_ContainsFunc_Value_isShaped_1 H_slices_ContainsFunc_Value_isShaped_1 false false a0.K ((a0.K.length : Nat) : Int) a0 a1 _ 0 _ ho12)]
             rcases o12 with o12_0 | o12_1
             · try dsimp only at h
               obtain rfl := Option.some.inj h
               exact call_wQ p60 rfl fd_91 (by kernel_rfl)
             · try dsimp only at h
               obtain rfl := Option.some.inj h
               exact call_wQ p60 rfl fd_91 (by kernel_rfl)
          ·obtain rfl := Option.some.inj h
           exact call_wQ (p57 ++ [.eD a0.N 0, .le e_u8 a0.S, .eD ((a0.S.length : Nat) : Int) 0, .le (e_sl e_u8) a0.K, .eD ((a0.K.length : Nat) : Int) 0, .le e_GValue a0.L, .eD ((a0.L.length : Nat) : Int) 0, .eF c2, .eF c3, .eF c4, .eF c5, .eF c6, .eF c7, .eT c8, .le (e_sl e_u8) a0.K, .le e_GValue a0.L, .eF c9, .nt false]) rfl fd_91 (by kernel_rfl)
         ·obtain rfl := Option.some.inj h
          exact call_wQ (p57 ++ [.eD a0.N 0, .le e_u8 a0.S, .eD ((a0.S.length : Nat) : Int) 0, .le (e_sl e_u8) a0.K, .eD ((a0.K.length : Nat) : Int) 0, .le e_GValue a0.L, .eD ((a0.L.length : Nat) : Int) 0, .eF c2, .eF c3, .eF c4, .eF c5, .eF c6, .eF c7, .eF c8]) rfl fd_91 (by kernel_rfl)
mutual
def U_impl_isShaped_1 : Nat → GValue → Int → Option Bool
  | 0, _, _ => none
  | n + 1, a0, e0 => T_impl_isShaped_1 (U_impl_isShaped n) a0 e0
def U_slices_IndexFunc_Value_isShaped_1 : Nat → (List GValue) → Int → Option Int
  | 0, _, _ => none
  | n + 1, a0, e0 => T_slices_IndexFunc_Value_isShaped_1 (U_impl_isShaped_1 n) n a0 e0
def U_slices_ContainsFunc_Value_isShaped_1 : Nat → (List GValue) → Int → Option Bool
  | 0, _, _ => none
  | n + 1, a0, e0 => T_slices_ContainsFunc_Value_isShaped_1 (U_slices_IndexFunc_Value_isShaped_1 n) a0 e0
def U_impl_isShaped : Nat → GValue → Int → Option Bool
  | 0, _, _ => none
  | n + 1, a0, a1 => T_impl_isShaped (U_slices_ContainsFunc_Value_isShaped_1 n) n a0 a1
end
theorem rec_impl_isShaped_1 (n : Nat) : (∀ (a0 : GValue) (e0 : Int) (r : Bool), U_impl_isShaped_1 n a0 e0 = some r → (mach cfg).call 104 [.var [.int .i64 e0]] [.val true [.int .i64 a0.Kind, .int .i64 a0.N, .seq (eL e_u8 a0.S), .seq (eL (e_sl e_u8) a0.K), .seq (eL e_GValue a0.L)], .val false [.ptr 0 0]] = some (.val false [.bool r], [.var [.int .i64 e0]])) ∧ (∀ (a0 : (List GValue)) (e0 : Int) (r : Int), U_slices_IndexFunc_Value_isShaped_1 n a0 e0 = some r → (mach cfg).call 93 [.var [.int .i64 e0]] [.val false [.seq (eL e_GValue a0)], .val false [.fn 104 [.ptr 0 0]]] = some (.val false [.int .i64 r], [.var [.int .i64 e0]])) ∧ (∀ (a0 : (List GValue)) (e0 : Int) (r : Bool), U_slices_ContainsFunc_Value_isShaped_1 n a0 e0 = some r → (mach cfg).call 78 [.var [.int .i64 e0]] [.val false [.seq (eL e_GValue a0)], .val false [.fn 104 [.ptr 0 0]]] = some (.val false [.bool r], [.var [.int .i64 e0]])) ∧ (∀ (a0 : GValue) (a1 : Int) (r : Bool), U_impl_isShaped n a0 a1 = some r → (mach cfg).call 91 [] [.val true [.int .i64 a0.Kind, .int .i64 a0.N, .seq (eL e_u8 a0.S), .seq (eL (e_sl e_u8) a0.K), .seq (eL e_GValue a0.L)], .val false [.int .i64 a1]] = some (.val false [.bool r], [])) := by
  induction n with
  | zero => exact ⟨fun _ _ _ h => (by rw [U_impl_isShaped_1] at h; cases h), fun _ _ _ h => (by rw [U_slices_IndexFunc_Value_isShaped_1] at h; cases h), fun _ _ _ h => (by rw [U_slices_ContainsFunc_Value_isShaped_1] at h; cases h), fun _ _ _ h => (by rw [U_impl_isShaped] at h; cases h)⟩
  | succ n ih =>
    obtain ⟨ih_impl_isShaped_1, ih_slices_IndexFunc_Value_isShaped_1, ih_slices_ContainsFunc_Value_isShaped_1, ih_impl_isShaped⟩ := ih
    exact ⟨fun a0 e0 r h => g_impl_isShaped_1 (U_impl_isShaped n) ih_impl_isShaped a0 e0 r (by rw [U_impl_isShaped_1] at h; exact h),
      fun a0 e0 r h => g_slices_IndexFunc_Value_isShaped_1 (U_impl_isShaped_1 n) ih_impl_isShaped_1 n a0 e0 r (by rw [U_slices_IndexFunc_Value_isShaped_1] at h; exact h),
      fun a0 e0 r h => g_slices_ContainsFunc_Value_isShaped_1 (U_slices_IndexFunc_Value_isShaped_1 n) ih_slices_IndexFunc_Value_isShaped_1 a0 e0 r (by rw [U_slices_ContainsFunc_Value_isShaped_1] at h; exact h),
      fun a0 a1 r h => g_impl_isShaped (U_slices_ContainsFunc_Value_isShaped_1 n) ih_slices_ContainsFunc_Value_isShaped_1 n a0 a1 r (by rw [U_impl_isShaped] at h; exact h)⟩
theorem cmpS_eq (a b : List UInt8) : S_bytes_Compare a b = some (Lib.compareBytes a b) := rfl
theorem isName_eq {a : List UInt8} (h : a.length <= 2 ^ 20) : S_impl_isName a = some (nameB a) := if_pos h
theorem isText_eq {a : List UInt8} (h : a.length <= 2 ^ 20) : S_impl_isText a = some (textB a) := if_pos h
theorem slices_ContainsFunc_Value_isShaped_1_T {G : GValue → Int → Option Bool} {a : List GValue} {f : Nat} {e : Int} {p : GValue → Bool} (ha : a.length <= 2 ^ 20) (hf : a.length < f) (hG : ∀ x ∈ a, G x e = some (!p x)) : ∃ r : Int, T_slices_IndexFunc_Value_isShaped_1 G f a e = some r ∧ decide (0 <= r) = !(a.all p) := by
  have loop : ∀ (d i m : Nat), i + d = a.length → d < m → ∃ (q : Nat) (z : Int), L_slices_IndexFunc_Value_isShaped_1_l0 G a ((a.length : Nat) : Int) e m (i : Int) = some (if (a.drop i).all p = true then .inr z else .inl (q : Int)) := by
    intro d
    induction d with
    | zero =>
      intro i m hi hm
      obtain ⟨m, rfl, _⟩ := fuel hm
      exact ⟨0, _, by rw [L_slices_IndexFunc_Value_isShaped_1_l0, if_neg (by omega), List.drop_eq_nil_of_le (by omega)]; rfl⟩
    | succ d ih =>
      intro i m hi hm
      obtain ⟨m, rfl, hm'⟩ := fuel hm
      have hil : i < a.length := by omega
      rw [L_slices_IndexFunc_Value_isShaped_1_l0, if_pos (by omega), natO_nat, Option.bind_some, get_some hil, Option.bind_some, hG _ (List.getElem_mem hil), Option.bind_some, w64_succ (by omega), drop_cons hil, List.all_cons]
      cases hp : p a[i] with
      | false => exact ⟨i, 0, rfl⟩
      | true =>
        obtain ⟨q, z, hz⟩ := ih (i + 1) m (by omega) (by omega)
        exact ⟨q, z, by rw [Bool.true_and]; exact hz⟩
  obtain ⟨q, z, hz⟩ := loop a.length 0 f (by omega) (by omega)
  rw [show ((0 : Nat) : Int) = 0 from rfl, List.drop_zero] at hz
  unfold T_slices_IndexFunc_Value_isShaped_1
  rw [hz, Option.bind_some]
  cases hp : a.all p with
  | true => exact ⟨-1, rfl, rfl⟩
  | false => exact ⟨(q : Int), rfl, by simp⟩
theorem isShaped_keys {G : List GValue → Int → Option Bool} {v : GValue} {v0 v1 : Bool} {a1 : Int} (hs : vsz v <= 2 ^ 20) : ∀ (d i m : Nat), i + d = v.K.length → d < m → ∃ z, L_impl_isShaped_l0 G v0 v1 v.K ((v.K.length : Nat) : Int) v a1 m (i : Int) = some (if kAll v.K i d = true then .inr z else .inl false) := by
  have he := vsz_eq v
  have hl := bsz_len v.K
  intro d
  induction d with
  | zero =>
    intro i m hi hm
    obtain ⟨m, rfl, _⟩ := fuel hm
    exact ⟨_, by rw [L_impl_isShaped_l0, if_neg (by omega)]; rfl⟩
  | succ d ih =>
    intro i m hi hm
    obtain ⟨m, rfl, hm'⟩ := fuel hm
    have hil : i < v.K.length := by omega
    have hx := bsz_mem (List.getElem_mem hil)
    rw [L_impl_isShaped_l0, if_pos (by omega), natO_nat, Option.bind_some, get_some hil, Option.bind_some, isName_eq (by omega), Option.bind_some, w64_succ (by omega), kAll_succ]
    obtain ⟨z, hz⟩ := ih (i + 1) m (by omega) (by omega)
    cases hnm : nameB v.K[i] with
    | false =>
      refine ⟨0, ?_⟩
      have : kOk v.K i = false := by
        by_cases h0 : i = 0
        · subst h0; rw [kOk_zero hil, hnm]
        · rw [kOk_eq hil (by omega), hnm]; rfl
      rw [this]; rfl
    | true =>
      dsimp only
      by_cases h0 : 0 < i
      · rw [if_pos (by omega), w64_pred (by omega) h0, natO_nat, Option.bind_some, get_some (show i - 1 < v.K.length by omega), Option.bind_some, cmpS_eq, Option.bind_some]
        by_cases hb : Op.bytesLess (v.K[i - 1]'(by omega)) v.K[i] = true
        · rw [if_neg (by rw [less_cmp]; exact fun h => h hb), kOk_eq hil h0, hnm, hb]
          exact ⟨z, hz⟩
        · rw [if_pos (by rw [less_cmp]; exact hb), kOk_eq hil h0, hnm, show Op.bytesLess (v.K[i - 1]'(by omega)) v.K[i] = false by simpa using hb]
          exact ⟨0, rfl⟩
      · have : i = 0 := by omega
        subst this
        rw [if_neg (by omega), kOk_zero hil, hnm]
        exact ⟨z, hz⟩
theorem isShaped_T {G : List GValue → Int → Option Bool} {v : GValue} {f d : Nat} (hs : vsz v <= 2 ^ 20) (hf : v.K.length < f) (hd : 0 < d) (hG : G v.L (d : Int) = some (!(v.L.all (shV (d - 1))))) : T_impl_isShaped G f v (d : Int) = some (shV d v) := by
  obtain ⟨e, rfl⟩ : ∃ e, d = e + 1 := ⟨d - 1, by omega⟩
  have he := vsz_eq v
  have hl := vszs_len v.L
  have hb := bsz_len v.K
  rw [show e + 1 - 1 = e by omega] at hG
  unfold T_impl_isShaped
  rw [if_neg (by omega)]
  simp only [shV]
  have nil : v.L.length = 0 → v.L.all (shV e) = true := fun h => by rw [List.eq_nil_of_length_eq_zero h]; rfl
  have c0 : ∀ n : Nat, (((n : Nat) : Int) = 0) = (n = 0) := fun n => by simp
  simp only [c0]
  have leaf : ∀ {b : Bool}, locV v = (b && decide (v.L.length = 0)) → b = true → some (decide (v.L.length = 0)) = some (locV v && v.L.all (shV e)) := fun h hb' => by
    rw [h, hb', Bool.true_and]
    by_cases hz : v.L.length = 0
    · rw [decide_eq_true hz, nil hz]; rfl
    · rw [decide_eq_false hz]; rfl
  have no : locV v = false → some false = some (locV v && v.L.all (shV e)) := fun h => by rw [h]; rfl
  have four : ∀ {p : Prop} [Decidable p], locV v = decide (p ∧ v.S.length = 0 ∧ v.K.length = 0 ∧ v.L.length = 0) → p → (if v.S.length = 0 then if v.K.length = 0 then some (decide (v.L.length = 0)) else some false else some false) = some (locV v && v.L.all (shV e)) := fun h hp => by
    by_cases h1 : v.S.length = 0
    · rw [if_pos h1]
      by_cases h2 : v.K.length = 0
      · rw [if_pos h2]
        exact leaf (b := true) (by rw [h]; simp [hp, h1, h2]) rfl
      · rw [if_neg h2]; exact no (by rw [h, decide_eq_false (fun h => h2 h.2.2.1)])
    · rw [if_neg h1]; exact no (by rw [h, decide_eq_false (fun h => h1 h.2.1)])
  by_cases k0 : v.Kind = 0
  · rw [if_pos k0]
    have hv : locV v = decide (v.N = 0 ∧ v.S.length = 0 ∧ v.K.length = 0 ∧ v.L.length = 0) := by unfold locV; rw [if_pos (.inl k0)]
    by_cases a1 : v.N = 0
    · rw [if_pos a1]; exact four hv a1
    · rw [if_neg a1]; exact no (by rw [hv, decide_eq_false (fun h => a1 h.1)])
  rw [if_neg k0]
  by_cases k6 : v.Kind = 6
  · rw [if_pos k6]
    have hv : locV v = decide (v.N = 0 ∧ v.S.length = 0 ∧ v.K.length = 0 ∧ v.L.length = 0) := by unfold locV; rw [if_pos (.inr k6)]
    by_cases a1 : v.N = 0
    · rw [if_pos a1]; exact four hv a1
    · rw [if_neg a1]; exact no (by rw [hv, decide_eq_false (fun h => a1 h.1)])
  rw [if_neg k6]
  have n06 : ¬ (v.Kind = 0 ∨ v.Kind = 6) := by omega
  by_cases k1 : v.Kind = 1
  · rw [if_pos k1, in_eq, Option.bind_some]
    have hv : locV v = decide ((0 <= v.N ∧ v.N <= 1) ∧ v.S.length = 0 ∧ v.K.length = 0 ∧ v.L.length = 0) := by unfold locV; rw [if_neg n06, if_pos k1]
    by_cases a1 : 0 <= v.N ∧ v.N <= 1
    · rw [decide_eq_true a1]; exact four hv a1
    · rw [decide_eq_false a1]; exact no (by rw [hv, decide_eq_false (fun h => a1 h.1)])
  rw [if_neg k1]
  by_cases k2 : v.Kind = 2
  · rw [if_pos k2, in_eq, Option.bind_some]
    have hv : locV v = decide ((-1000000000000 <= v.N ∧ v.N <= 1000000000000) ∧ v.S.length = 0 ∧ v.K.length = 0 ∧ v.L.length = 0) := by unfold locV; rw [if_neg n06, if_neg k1, if_pos k2]
    by_cases a1 : -1000000000000 <= v.N ∧ v.N <= 1000000000000
    · rw [decide_eq_true a1]; exact four hv a1
    · rw [decide_eq_false a1]; exact no (by rw [hv, decide_eq_false (fun h => a1 h.1)])
  rw [if_neg k2]
  by_cases k3 : v.Kind = 3
  · rw [if_pos k3, isText_eq (by omega), Option.bind_some]
    have hv : locV v = (textB v.S && decide (v.N = 0 ∧ v.K.length = 0 ∧ v.L.length = 0)) := by unfold locV; rw [if_neg n06, if_neg k1, if_neg k2, if_pos k3]
    cases ht : textB v.S with
    | false => exact no (by rw [hv, ht]; rfl)
    | true =>
      rw [ht, Bool.true_and] at hv
      dsimp only
      by_cases a1 : v.N = 0
      · rw [if_pos a1]
        by_cases a2 : v.K.length = 0
        · rw [if_pos a2]; exact leaf (b := true) (by rw [hv]; simp [a1, a2]) rfl
        · rw [if_neg a2]; exact no (by rw [hv, decide_eq_false (fun h => a2 h.2.1)])
      · rw [if_neg a1]; exact no (by rw [hv, decide_eq_false (fun h => a1 h.1)])
  rw [if_neg k3]
  have ends : ∀ {b : Bool}, locV v = (b && decide (v.L.length <= 40)) → b = true → (if ((v.L.length : Nat) : Int) <= 40 then (G v.L ((e + 1 : Nat) : Int)).bind fun r12 => some (!r12) else some false) = some (locV v && v.L.all (shV e)) := fun h hb' => by
    by_cases h4 : v.L.length <= 40
    · rw [if_pos (by omega), hG, Option.bind_some, h, hb', decide_eq_true h4, Bool.not_not]; rfl
    · rw [if_neg (by omega)]; exact no (by rw [h, decide_eq_false h4, Bool.and_false])
  by_cases k4 : v.Kind = 4
  · rw [if_pos k4]
    have hv : locV v = decide (v.N = 0 ∧ v.S.length = 0 ∧ v.K.length = 0 ∧ v.L.length <= 40) := by unfold locV; rw [if_neg n06, if_neg k1, if_neg k2, if_neg k3, if_pos k4]
    by_cases a1 : v.K.length = 0
    · rw [if_pos a1]
      by_cases a2 : v.N = 0
      · rw [if_pos a2]
        by_cases a3 : v.S.length = 0
        · rw [if_pos a3]; exact ends (b := true) (by rw [hv]; simp [a1, a2, a3]) rfl
        · rw [if_neg a3]; exact no (by rw [hv, decide_eq_false (fun h => a3 h.2.1)])
      · rw [if_neg a2]; exact no (by rw [hv, decide_eq_false (fun h => a2 h.1)])
    · rw [if_neg a1]; exact no (by rw [hv, decide_eq_false (fun h => a1 h.2.2.1)])
  rw [if_neg k4]
  by_cases k5 : v.Kind = 5
  · rw [if_pos k5]
    have hv : locV v = (decide (v.K.length = v.L.length ∧ v.N = 0 ∧ v.S.length = 0 ∧ v.L.length <= 40) && kAll v.K 0 v.K.length) := by unfold locV; rw [if_neg n06, if_neg k1, if_neg k2, if_neg k3, if_neg k4, if_pos k5]
    by_cases a1 : ((v.K.length : Nat) : Int) = ((v.L.length : Nat) : Int)
    · rw [if_pos a1]
      have keys := fun (v0 v1 : Bool) => isShaped_keys (G := G) (v0 := v0) (v1 := v1) (a1 := ((e + 1 : Nat) : Int)) hs v.K.length 0 f (by omega) (by omega)
      simp only [show ((0 : Nat) : Int) = 0 from rfl] at keys
      have dead : ∀ {z : Int} {b : Bool}, (locV v = false) → ((some (if b = true then (.inr z : Bool ⊕ Int) else .inl false)).bind fun o12 => match o12 with | .inl o12_0 => some o12_0 | .inr (o12_1) => some false) = some (locV v && v.L.all (shV e)) := fun {z b} h => by
        cases b <;> exact no h
      by_cases a2 : v.N = 0
      · rw [if_pos a2]
        by_cases a3 : v.S.length = 0
        · rw [if_pos a3]
          obtain ⟨z, hz⟩ := keys true true
          rw [hz, Option.bind_some]
          cases hk : kAll v.K 0 v.K.length with
          | false => exact no (by rw [hv, hk, Bool.and_false])
          | true =>
            rw [if_pos rfl]
            dsimp only
            exact ends (b := true) (by rw [hv, hk]; simp [a2, a3, show v.K.length = v.L.length by omega]) rfl
        · rw [if_neg a3]
          obtain ⟨z, hz⟩ := keys true false
          rw [hz]
          exact dead (by rw [hv, decide_eq_false (fun h => a3 h.2.2.1)]; rfl)
      · rw [if_neg a2]
        by_cases a3 : v.S.length = 0
        · rw [if_pos a3]
          obtain ⟨z, hz⟩ := keys false true
          rw [hz]
          exact dead (by rw [hv, decide_eq_false (fun h => a2 h.2.1)]; rfl)
        · rw [if_neg a3]
          obtain ⟨z, hz⟩ := keys false false
          rw [hz]
          exact dead (by rw [hv, decide_eq_false (fun h => a2 h.2.1)]; rfl)
    · rw [if_neg a1]; exact no (by rw [hv, decide_eq_false (fun h => a1 (by omega))]; rfl)
  rw [if_neg k5]
  exact no (by unfold locV; simp only [k0, k1, k2, k3, k4, k5, k6, or_self, if_false])
theorem isShaped_U : ∀ (N : Nat) (v : GValue), vsz v < N → vsz v <= 2 ^ 20 → ∀ (f d : Nat), 4 * vsz v + 6 <= f → d <= 2 ^ 20 → U_impl_isShaped f v (d : Int) = some (shV d v) := by
  intro N
  induction N with
  | zero => intro v hv; omega
  | succ N ih =>
    intro v hv hs f d hf hd
    have he := vsz_eq v
    have hl := vszs_len v.L
    have hb := bsz_len v.K
    obtain ⟨f, rfl, _⟩ := fuel (show 0 < f by omega)
    rw [U_impl_isShaped]
    by_cases h0 : d = 0
    · subst h0; unfold T_impl_isShaped; rw [if_pos (show ((0 : Nat) : Int) = 0 from rfl)]; rfl
    refine isShaped_T hs (by omega) (by omega) ?_
    obtain ⟨f, rfl, _⟩ := fuel (show 0 < f by omega)
    obtain ⟨f, rfl, _⟩ := fuel (show 0 < f by omega)
    obtain ⟨f, rfl, _⟩ := fuel (show 0 < f by omega)
    rw [U_slices_ContainsFunc_Value_isShaped_1]
    unfold T_slices_ContainsFunc_Value_isShaped_1
    rw [U_slices_IndexFunc_Value_isShaped_1]
    obtain ⟨r, hr, hr2⟩ := slices_ContainsFunc_Value_isShaped_1_T (G := U_impl_isShaped_1 (f + 1)) (a := v.L) (f := f + 1) (e := (d : Int)) (p := shV (d - 1)) (by omega) (by omega) fun x hx => by
      have := vszs_mem hx
      rw [U_impl_isShaped_1]
      unfold T_impl_isShaped_1
      rw [w64_pred (by omega) (by omega), ih x (by omega) (by omega) f (d - 1) (by omega) (by omega)]
      rfl
    rw [hr, Option.bind_some, hr2]
def S_impl_isShaped_1 (a0 : GValue) (e0 : Int) : Option Bool := none
theorem spec_impl_isShaped_1 (a0 : GValue) (e0 : Int) (r : Bool) (h : S_impl_isShaped_1 a0 e0 = some r) : ∃ n, U_impl_isShaped_1 n a0 e0 = some r := by cases h
def S_slices_IndexFunc_Value_isShaped_1 (a0 : (List GValue)) (e0 : Int) : Option Int := none
theorem spec_slices_IndexFunc_Value_isShaped_1 (a0 : (List GValue)) (e0 : Int) (r : Int) (h : S_slices_IndexFunc_Value_isShaped_1 a0 e0 = some r) : ∃ n, U_slices_IndexFunc_Value_isShaped_1 n a0 e0 = some r := by cases h
def S_slices_ContainsFunc_Value_isShaped_1 (a0 : (List GValue)) (e0 : Int) : Option Bool := none
theorem spec_slices_ContainsFunc_Value_isShaped_1 (a0 : (List GValue)) (e0 : Int) (r : Bool) (h : S_slices_ContainsFunc_Value_isShaped_1 a0 e0 = some r) : ∃ n, U_slices_ContainsFunc_Value_isShaped_1 n a0 e0 = some r := by cases h
def S_impl_isShaped (a0 : GValue) (a1 : Int) : Option Bool := if vsz a0 <= 2 ^ 20 ∧ 0 <= a1 ∧ a1 <= 2 ^ 20 then some (shV a1.toNat a0) else none
theorem spec_impl_isShaped (a0 : GValue) (a1 : Int) (r : Bool) (h : S_impl_isShaped a0 a1 = some r) : ∃ n, U_impl_isShaped n a0 a1 = some r := by
  unfold S_impl_isShaped at h
  obtain ⟨⟨hs, h0, h1⟩, h⟩ := need_c h
  refine ⟨4 * vsz a0 + 6, ?_⟩
  have := isShaped_U _ a0 (Nat.lt_succ_self _) hs _ a1.toNat (Nat.le_refl _) (by omega)
  rw [show ((a1.toNat : Nat) : Int) = a1 by omega] at this
  rw [this]; exact h
theorem ok_impl_isShaped_1 (a0 : GValue) (e0 : Int) (r : Bool) (h : S_impl_isShaped_1 a0 e0 = some r) : (mach cfg).call 104 [.var [.int .i64 e0]] [.val true [.int .i64 a0.Kind, .int .i64 a0.N, .seq (eL e_u8 a0.S), .seq (eL (e_sl e_u8) a0.K), .seq (eL e_GValue a0.L)], .val false [.ptr 0 0]] = some (.val false [.bool r], [.var [.int .i64 e0]]) := by
  obtain ⟨n, hn⟩ := spec_impl_isShaped_1 a0 e0 r h
  exact (rec_impl_isShaped_1 n).1 a0 e0 r hn
theorem ok_slices_IndexFunc_Value_isShaped_1 (a0 : (List GValue)) (e0 : Int) (r : Int) (h : S_slices_IndexFunc_Value_isShaped_1 a0 e0 = some r) : (mach cfg).call 93 [.var [.int .i64 e0]] [.val false [.seq (eL e_GValue a0)], .val false [.fn 104 [.ptr 0 0]]] = some (.val false [.int .i64 r], [.var [.int .i64 e0]]) := by
  obtain ⟨n, hn⟩ := spec_slices_IndexFunc_Value_isShaped_1 a0 e0 r h
  exact (rec_impl_isShaped_1 n).2.1 a0 e0 r hn
theorem ok_slices_ContainsFunc_Value_isShaped_1 (a0 : (List GValue)) (e0 : Int) (r : Bool) (h : S_slices_ContainsFunc_Value_isShaped_1 a0 e0 = some r) : (mach cfg).call 78 [.var [.int .i64 e0]] [.val false [.seq (eL e_GValue a0)], .val false [.fn 104 [.ptr 0 0]]] = some (.val false [.bool r], [.var [.int .i64 e0]]) := by
  obtain ⟨n, hn⟩ := spec_slices_ContainsFunc_Value_isShaped_1 a0 e0 r h
  exact (rec_impl_isShaped_1 n).2.2.1 a0 e0 r hn
theorem ok_impl_isShaped (a0 : GValue) (a1 : Int) (r : Bool) (h : S_impl_isShaped a0 a1 = some r) : (mach cfg).call 91 [] [.val true [.int .i64 a0.Kind, .int .i64 a0.N, .seq (eL e_u8 a0.S), .seq (eL (e_sl e_u8) a0.K), .seq (eL e_GValue a0.L)], .val false [.int .i64 a1]] = some (.val false [.bool r], []) := by
  obtain ⟨n, hn⟩ := spec_impl_isShaped a0 a1 r h
  exact (rec_impl_isShaped_1 n).2.2.2 a0 a1 r hn
def L_impl_Value_parts_l0 (G_impl_Value_parts : GValue → Option Int) (v1 : (List GValue)) (v2 : Int) : Nat → Int → Int → Option (Int × Int)
  | 0, _, _ => none
  | m + 1, v0, v3 =>
    if v3 < v2 then
      (natO v3).bind fun i2 =>
      (v1[i2]?).bind fun x3 =>
      (G_impl_Value_parts x3).bind fun r4 =>
      L_impl_Value_parts_l0 G_impl_Value_parts v1 v2 m (w64 (v0 + r4)) (w64 (v3 + 1))
    else
      some (v0, v3)
theorem gl_impl_Value_parts_l0 (G_impl_Value_parts : GValue → Option Int) (H_impl_Value_parts : ∀ (a0 : GValue) (r : Int), G_impl_Value_parts a0 = some r → (mach cfg).call 92 [] [.val true [.int .i64 a0.Kind, .int .i64 a0.N, .seq (eL e_u8 a0.S), .seq (eL (e_sl e_u8) a0.K), .seq (eL e_GValue a0.L)]] = some (.val false [.int .i64 r], [])) (v1 : (List GValue)) (v2 : Int) (m : Nat) : ∀ (v0 : Int) (v3 : Int) (o : (Int × Int)), L_impl_Value_parts_l0 G_impl_Value_parts v1 v2 m v0 v3 = some o → (mach cfg).loop 92 (loopB Tryz.f92 0) ⟨[(3, .val false [.int .i64 v0]), (7, .val false [.seq (eL e_GValue v1)]), (8, .val false [.int .i64 v2]), (9, .val false [.int .i64 v3])], [], 0⟩ = some (match o with | ⟨o_0, o_1⟩ => (.exit 0, (⟨[(3, .val false [.int .i64 o_0]), (7, .val false [.seq (eL e_GValue v1)]), (8, .val false [.int .i64 v2]), (9, .val false [.int .i64 o_1]), (10, .val false [.bool false])], [], 0⟩ : S))) := by
  induction m with
  | zero => intro v0 v3 o h; cases h
  | succ m ih =>
    intro v0 v3 o h
    rw [L_impl_Value_parts_l0] at h
    rcases ite_some h with ⟨c1, h⟩ | ⟨c1, h⟩
    ·obtain ⟨i2, hi2, h⟩ := bs h
     obtain ⟨x3, hx3, h⟩ := bs h
     obtain ⟨r4, hr4, h⟩ := bs h
     exact loop_nQ [.lT c1, .na hi2, .ix hx3 (eq_GValue x3), .cl (H_impl_Value_parts x3 _ hr4), .ad v0 r4, .ad v3 1] (by kernel_rfl) (ih (w64 (v0 + r4)) (w64 (v3 + 1)) o h)
    ·obtain rfl := Option.some.inj h
     exact loop_eQ [.lF c1] (by kernel_rfl) (by intro h; cases h)
def T_impl_Value_parts (G_impl_Value_parts : GValue → Option Int) (n : Nat) (a0 : GValue) : Option Int :=
  (L_impl_Value_parts_l0 G_impl_Value_parts a0.L ((a0.L.length : Nat) : Int) n 1 0).bind fun ⟨o1_0, o1_1⟩ =>
  some o1_0
set_option maxRecDepth 100000 in
theorem fd_92 : cfg.funcs 92 = some (bodyOf Tryz.f92, Tryz.f92.ntmps, Tryz.f92.results.toList) := fn_of Tryz.func92 (by kernel_rfl) (by kernel_rfl)
theorem g_impl_Value_parts (G_impl_Value_parts : GValue → Option Int) (H_impl_Value_parts : ∀ (a0 : GValue) (r : Int), G_impl_Value_parts a0 = some r → (mach cfg).call 92 [] [.val true [.int .i64 a0.Kind, .int .i64 a0.N, .seq (eL e_u8 a0.S), .seq (eL (e_sl e_u8) a0.K), .seq (eL e_GValue a0.L)]] = some (.val false [.int .i64 r], [])) (n : Nat) (a0 : GValue) (r : Int) (h : T_impl_Value_parts G_impl_Value_parts n a0 = some r) : (mach cfg).call 92 [] [.val true [.int .i64 a0.Kind, .int .i64 a0.N, .seq (eL e_u8 a0.S), .seq (eL (e_sl e_u8) a0.K), .seq (eL e_GValue a0.L)]] = some (.val false [.int .i64 r], []) := by
  unfold T_impl_Value_parts at h
  obtain ⟨⟨o1_0, o1_1⟩, ho1, h⟩ := bs h
  try dsimp only at h
  obtain rfl := Option.some.inj h
  exact call_wQ [.le e_GValue a0.L, .lp (gl_impl_Value_parts_l0 G_impl_Value_parts H_impl_Value_parts a0.L ((a0.L.length : Nat) : Int) _ 1 0 _ ho1)] rfl fd_92 (by kernel_rfl)
def U_impl_Value_parts : Nat → GValue → Option Int
  | 0, _ => none
  | n + 1, a0 => T_impl_Value_parts (U_impl_Value_parts n) n a0
theorem rec_impl_Value_parts (n : Nat) : (∀ (a0 : GValue) (r : Int), U_impl_Value_parts n a0 = some r → (mach cfg).call 92 [] [.val true [.int .i64 a0.Kind, .int .i64 a0.N, .seq (eL e_u8 a0.S), .seq (eL (e_sl e_u8) a0.K), .seq (eL e_GValue a0.L)]] = some (.val false [.int .i64 r], [])) := by
  induction n with
  | zero => exact fun _ _ h => (by rw [U_impl_Value_parts] at h; cases h)
  | succ n ih =>
    have ih_impl_Value_parts := ih
    exact fun a0 r h => g_impl_Value_parts (U_impl_Value_parts n) ih_impl_Value_parts n a0 r (by rw [U_impl_Value_parts] at h; exact h)
theorem impl_Value_parts_T {G : GValue → Option Int} {v : GValue} {f : Nat} (hs : vsz v <= 2 ^ 20) (hf : v.L.length < f) (hG : ∀ x ∈ v.L, G x = some (((ptV x) : Nat) : Int)) : T_impl_Value_parts G f v = some (((ptV v) : Nat) : Int) := by
  have he := vsz_eq v
  have hl := vszs_len v.L
  have loop : ∀ (d i m : Nat) (r : Int), i + d = v.L.length → d < m → 0 <= r → r <= 2 ^ 21 - ptVs (v.L.drop i) → ∃ z, L_impl_Value_parts_l0 G v.L ((v.L.length : Nat) : Int) m r (i : Int) = some (r + ptVs (v.L.drop i), z) := by
    intro d
    induction d with
    | zero =>
      intro i m r hi hm h0 h1
      obtain ⟨m, rfl, _⟩ := fuel hm
      exact ⟨_, by rw [L_impl_Value_parts_l0, if_neg (by omega), List.drop_eq_nil_of_le (by omega)]; simp [ptVs]; rfl⟩
    | succ d ih =>
      intro i m r hi hm h0 h1
      obtain ⟨m, rfl, hm'⟩ := fuel hm
      have hil : i < v.L.length := by omega
      have hp : ptVs (v.L.drop i) = ptV v.L[i] + ptVs (v.L.drop (i + 1)) := by rw [drop_cons hil]; simp only [ptVs]
      rw [hp] at h1 ⊢
      rw [L_impl_Value_parts_l0, if_pos (by omega), natO_nat, Option.bind_some, get_some hil, Option.bind_some, hG _ (List.getElem_mem hil), Option.bind_some, w64_succ (by omega), w64_id (by omega) (by omega)]
      obtain ⟨z, hz⟩ := ih (i + 1) m (r + ptV v.L[i]) (by omega) (by omega) (by omega) (by omega)
      exact ⟨z, by rw [hz]; congr 2; omega⟩
  have hle := ptVs_le v.L
  obtain ⟨z, hz⟩ := loop v.L.length 0 f 1 (by omega) (by omega) (by omega) (by rw [List.drop_zero]; omega)
  rw [show ((0 : Nat) : Int) = 0 from rfl, List.drop_zero] at hz
  unfold T_impl_Value_parts
  rw [hz, ptV_eq]
  simp only [Option.bind_some]
  congr 1
theorem impl_Value_parts_U : ∀ (N : Nat) (v : GValue), vsz v < N → vsz v <= 2 ^ 20 → ∀ f : Nat, vsz v + 2 <= f → U_impl_Value_parts f v = some (((ptV v) : Nat) : Int) := by
  intro N
  induction N with
  | zero => intro v hv; omega
  | succ N ih =>
    intro v hv hs f hf
    obtain ⟨f, rfl, _⟩ := fuel (show 0 < f by omega)
    have he := vsz_eq v
    have hl := vszs_len v.L
    rw [U_impl_Value_parts]
    refine impl_Value_parts_T hs (by omega) fun x hx => ?_
    have := vszs_mem hx
    exact ih x (by omega) (by omega) f (by omega)
def S_impl_Value_parts (a0 : GValue) : Option Int := if vsz a0 <= 2 ^ 20 then some (((ptV a0) : Nat) : Int) else none
theorem spec_impl_Value_parts (a0 : GValue) (r : Int) (h : S_impl_Value_parts a0 = some r) : ∃ n, U_impl_Value_parts n a0 = some r := by
  unfold S_impl_Value_parts at h
  obtain ⟨ha, h⟩ := need_c h
  exact ⟨vsz a0 + 2, by rw [<- h]; exact impl_Value_parts_U _ a0 (Nat.lt_succ_self _) ha _ (Nat.le_refl _)⟩
theorem ok_impl_Value_parts (a0 : GValue) (r : Int) (h : S_impl_Value_parts a0 = some r) : (mach cfg).call 92 [] [.val true [.int .i64 a0.Kind, .int .i64 a0.N, .seq (eL e_u8 a0.S), .seq (eL (e_sl e_u8) a0.K), .seq (eL e_GValue a0.L)]] = some (.val false [.int .i64 r], []) := by
  obtain ⟨n, hn⟩ := spec_impl_Value_parts a0 r h
  exact (rec_impl_Value_parts n) a0 r hn
def S_impl_isValue (a0 : GValue) : Option Bool :=
  (S_impl_isShaped a0 5).bind fun r1 =>
  match r1 with
  | true =>
    (S_impl_Value_parts a0).bind fun r3 =>
    some (decide (r3 <= 40))
  | false =>
    some false
set_option maxRecDepth 100000 in
theorem fd_77 : cfg.funcs 77 = some (bodyOf Tryz.f77, Tryz.f77.ntmps, Tryz.f77.results.toList) := fn_of Tryz.func77 (by kernel_rfl) (by kernel_rfl)
theorem ok_impl_isValue (a0 : GValue) (r : Bool) (h : S_impl_isValue a0 = some r) : (mach cfg).call 77 [] [.val true [.int .i64 a0.Kind, .int .i64 a0.N, .seq (eL e_u8 a0.S), .seq (eL (e_sl e_u8) a0.K), .seq (eL e_GValue a0.L)]] = some (.val false [.bool r], []) := by
  unfold S_impl_isValue at h
  obtain ⟨r1, hr1, h⟩ := bs h
  cases r1 with
  | true =>
   try dsimp only at h
   obtain ⟨r3, hr3, h⟩ := bs h
   obtain rfl := Option.some.inj h
   exact call_wQ [.cl (ok_impl_isShaped a0 5 _ hr1), .cl (ok_impl_Value_parts a0 _ hr3), .gD r3 40] rfl fd_77 (by kernel_rfl)
  | false =>
   try dsimp only at h
   obtain rfl := Option.some.inj h
   exact call_wQ [.cl (ok_impl_isShaped a0 5 _ hr1)] rfl fd_77 (by kernel_rfl)
def S_impl_isMap (a0 : GValue) : Option Bool :=
  if a0.Kind = 5 then
    (S_impl_isValue a0).bind fun r2 =>
    some r2
  else
    some false
set_option maxRecDepth 100000 in
theorem fd_68 : cfg.funcs 68 = some (bodyOf Tryz.f68, Tryz.f68.ntmps, Tryz.f68.results.toList) := fn_of Tryz.func68 (by kernel_rfl) (by kernel_rfl)
theorem ok_impl_isMap (a0 : GValue) (r : Bool) (h : S_impl_isMap a0 = some r) : (mach cfg).call 68 [] [.val true [.int .i64 a0.Kind, .int .i64 a0.N, .seq (eL e_u8 a0.S), .seq (eL (e_sl e_u8) a0.K), .seq (eL e_GValue a0.L)]] = some (.val false [.bool r], []) := by
  unfold S_impl_isMap at h
  rcases ite_some h with ⟨c1, h⟩ | ⟨c1, h⟩
  ·obtain ⟨r2, hr2, h⟩ := bs h
   obtain rfl := Option.some.inj h
   exact call_wQ [.eT c1, .cl (ok_impl_isValue a0 _ hr2)] rfl fd_68 (by kernel_rfl)
  ·obtain rfl := Option.some.inj h
   exact call_wQ [.eF c1] rfl fd_68 (by kernel_rfl)
def T_impl_Value_known_1 (G_impl_Value_known : GValue → Option Bool) (a0 : GValue) : Option Bool :=
  (G_impl_Value_known a0).bind fun r1 =>
  some (!r1)
set_option maxRecDepth 100000 in
theorem fd_79 : cfg.funcs 79 = some (bodyOf Tryz.f79, Tryz.f79.ntmps, Tryz.f79.results.toList) := fn_of Tryz.func79 (by kernel_rfl) (by kernel_rfl)
theorem g_impl_Value_known_1 (G_impl_Value_known : GValue → Option Bool) (H_impl_Value_known : ∀ (a0 : GValue) (r : Bool), G_impl_Value_known a0 = some r → (mach cfg).call 69 [] [.val true [.int .i64 a0.Kind, .int .i64 a0.N, .seq (eL e_u8 a0.S), .seq (eL (e_sl e_u8) a0.K), .seq (eL e_GValue a0.L)]] = some (.val false [.bool r], [])) (a0 : GValue) (r : Bool) (h : T_impl_Value_known_1 G_impl_Value_known a0 = some r) : (mach cfg).call 79 [] [.val true [.int .i64 a0.Kind, .int .i64 a0.N, .seq (eL e_u8 a0.S), .seq (eL (e_sl e_u8) a0.K), .seq (eL e_GValue a0.L)]] = some (.val false [.bool r], []) := by
  unfold T_impl_Value_known_1 at h
  obtain ⟨r1, hr1, h⟩ := bs h
  obtain rfl := Option.some.inj h
  exact call_wQ [.cl (H_impl_Value_known a0 _ hr1), .nt r1] rfl fd_79 (by kernel_rfl)
def L_slices_IndexFunc_Value_Value_known_1_l0 (G_impl_Value_known_1 : GValue → Option Bool) (a0 : (List GValue)) (v1 : Int) : Nat → Int → Option (Int ⊕ Int)
  | 0, _ => none
  | m + 1, v2 =>
    if v2 < v1 then
      (natO v2).bind fun i2 =>
      (a0[i2]?).bind fun x3 =>
      (G_impl_Value_known_1 x3).bind fun r4 =>
      match r4 with
      | true =>
        some (.inl v2)
      | false =>
        L_slices_IndexFunc_Value_Value_known_1_l0 G_impl_Value_known_1 a0 v1 m (w64 (v2 + 1))
    else
      some (.inr v2)
theorem gl_slices_IndexFunc_Value_Value_known_1_l0 (G_impl_Value_known_1 : GValue → Option Bool) (H_impl_Value_known_1 : ∀ (a0 : GValue) (r : Bool), G_impl_Value_known_1 a0 = some r → (mach cfg).call 79 [] [.val true [.int .i64 a0.Kind, .int .i64 a0.N, .seq (eL e_u8 a0.S), .seq (eL (e_sl e_u8) a0.K), .seq (eL e_GValue a0.L)]] = some (.val false [.bool r], [])) (a0 : (List GValue)) (v1 : Int) (m : Nat) : ∀ (v2 : Int) (o : (Int ⊕ Int)), L_slices_IndexFunc_Value_Value_known_1_l0 G_impl_Value_known_1 a0 v1 m v2 = some o → (mach cfg).loop 93 (loopB Tryz.f93 0) ⟨[(0, .val false [.seq (eL e_GValue a0)]), (1, .val false [.fn 79 []]), (7, .val false [.int .i64 v1]), (8, .val false [.int .i64 v2])], [], 0⟩ = some (match o with | .inl o_0 => (.ret, (⟨[(4, .val false [.int .i64 o_0])], [], 0⟩ : S)) | .inr (o_1) => (.exit 0, (⟨[(0, .val false [.seq (eL e_GValue a0)]), (1, .val false [.fn 79 []]), (7, .val false [.int .i64 v1]), (8, .val false [.int .i64 o_1]), (9, .val false [.bool false])], [], 0⟩ : S))) := by
  induction m with
  | zero => intro v2 o h; cases h
  | succ m ih =>
    intro v2 o h
    rw [L_slices_IndexFunc_Value_Value_known_1_l0] at h
    rcases ite_some h with ⟨c1, h⟩ | ⟨c1, h⟩
    ·obtain ⟨i2, hi2, h⟩ := bs h
     obtain ⟨x3, hx3, h⟩ := bs h
     obtain ⟨r4, hr4, h⟩ := bs h
     let p61 : List (Q cfg) := [.lT c1, .na hi2, .ix hx3 (eq_GValue x3), .cl (H_impl_Value_known_1 x3 _ hr4)]
     cases r4 with
     | true =>
      try dsimp only at h
      obtain rfl := Option.some.inj h
      exact loop_eQ p61 (by kernel_rfl) (by intro h; cases h)
     | false =>
      try dsimp only at h
      exact loop_nQ (p61 ++ [.ad v2 1]) (by kernel_rfl) (ih (w64 (v2 + 1)) o h)
    ·obtain rfl := Option.some.inj h
     exact loop_eQ [.lF c1] (by kernel_rfl) (by intro h; cases h)
def T_slices_IndexFunc_Value_Value_known_1 (G_impl_Value_known_1 : GValue → Option Bool) (n : Nat) (a0 : (List GValue)) : Option Int :=
  (L_slices_IndexFunc_Value_Value_known_1_l0 G_impl_Value_known_1 a0 ((a0.length : Nat) : Int) n 0).bind fun o1 =>
  match o1 with
  | .inl o1_0 =>
    some o1_0
  | .inr (o1_1) =>
    some (-1)
theorem g_slices_IndexFunc_Value_Value_known_1 (G_impl_Value_known_1 : GValue → Option Bool) (H_impl_Value_known_1 : ∀ (a0 : GValue) (r : Bool), G_impl_Value_known_1 a0 = some r → (mach cfg).call 79 [] [.val true [.int .i64 a0.Kind, .int .i64 a0.N, .seq (eL e_u8 a0.S), .seq (eL (e_sl e_u8) a0.K), .seq (eL e_GValue a0.L)]] = some (.val false [.bool r], [])) (n : Nat) (a0 : (List GValue)) (r : Int) (h : T_slices_IndexFunc_Value_Value_known_1 G_impl_Value_known_1 n a0 = some r) : (mach cfg).call 93 [] [.val false [.seq (eL e_GValue a0)], .val false [.fn 79 []]] = some (.val false [.int .i64 r], []) := by
  unfold T_slices_IndexFunc_Value_Value_known_1 at h
  obtain ⟨o1, ho1, h⟩ := bs h
  let p62 : List (Q cfg) := [.le e_GValue a0, .lp (gl_slices_IndexFunc_Value_Value_known_1_l0 G_impl_Value_known_1 H_impl_Value_known_1 a0 ((a0.length : Nat) : Int) _ 0 _ ho1)]
  rcases o1 with o1_0 | o1_1
  · try dsimp only at h
    obtain rfl := Option.some.inj h
    exact call_wQ p62 rfl fd_93 (by kernel_rfl)
  · try dsimp only at h
    obtain rfl := Option.some.inj h
    exact call_wQ p62 rfl fd_93 (by kernel_rfl)
def T_slices_ContainsFunc_Value_Value_known_1 (G_slices_IndexFunc_Value_Value_known_1 : (List GValue) → Option Int) (a0 : (List GValue)) : Option Bool :=
  (G_slices_IndexFunc_Value_Value_known_1 a0).bind fun r1 =>
  some (decide (0 <= r1))
theorem g_slices_ContainsFunc_Value_Value_known_1 (G_slices_IndexFunc_Value_Value_known_1 : (List GValue) → Option Int) (H_slices_IndexFunc_Value_Value_known_1 : ∀ (a0 : (List GValue)) (r : Int), G_slices_IndexFunc_Value_Value_known_1 a0 = some r → (mach cfg).call 93 [] [.val false [.seq (eL e_GValue a0)], .val false [.fn 79 []]] = some (.val false [.int .i64 r], [])) (a0 : (List GValue)) (r : Bool) (h : T_slices_ContainsFunc_Value_Value_known_1 G_slices_IndexFunc_Value_Value_known_1 a0 = some r) : (mach cfg).call 78 [] [.val false [.seq (eL e_GValue a0)], .val false [.fn 79 []]] = some (.val false [.bool r], []) := by
  unfold T_slices_ContainsFunc_Value_Value_known_1 at h
  obtain ⟨r1, hr1, h⟩ := bs h
  obtain rfl := Option.some.inj h
  exact call_wQ [.cl (H_slices_IndexFunc_Value_Value_known_1 a0 _ hr1), .gD 0 r1] rfl fd_78 (by kernel_rfl)
def T_impl_Value_known (G_slices_ContainsFunc_Value_Value_known_1 : (List GValue) → Option Bool) (a0 : GValue) : Option Bool :=
  if a0.Kind = 6 then
    some false
  else
    (G_slices_ContainsFunc_Value_Value_known_1 a0.L).bind fun r2 =>
    some (!r2)
set_option maxRecDepth 100000 in
theorem fd_69 : cfg.funcs 69 = some (bodyOf Tryz.f69, Tryz.f69.ntmps, Tryz.f69.results.toList) := fn_of Tryz.func69 (by kernel_rfl) (by kernel_rfl)
theorem g_impl_Value_known (G_slices_ContainsFunc_Value_Value_known_1 : (List GValue) → Option Bool) (H_slices_ContainsFunc_Value_Value_known_1 : ∀ (a0 : (List GValue)) (r : Bool), G_slices_ContainsFunc_Value_Value_known_1 a0 = some r → (mach cfg).call 78 [] [.val false [.seq (eL e_GValue a0)], .val false [.fn 79 []]] = some (.val false [.bool r], [])) (a0 : GValue) (r : Bool) (h : T_impl_Value_known G_slices_ContainsFunc_Value_Value_known_1 a0 = some r) : (mach cfg).call 69 [] [.val true [.int .i64 a0.Kind, .int .i64 a0.N, .seq (eL e_u8 a0.S), .seq (eL (e_sl e_u8) a0.K), .seq (eL e_GValue a0.L)]] = some (.val false [.bool r], []) := by
  unfold T_impl_Value_known at h
  rcases ite_some h with ⟨c1, h⟩ | ⟨c1, h⟩
  ·obtain rfl := Option.some.inj h
   exact call_wQ [.eT c1, .nt true] rfl fd_69 (by kernel_rfl)
  ·obtain ⟨r2, hr2, h⟩ := bs h
   obtain rfl := Option.some.inj h
   exact call_wQ [.eF c1, .nt false, .cl (H_slices_ContainsFunc_Value_Value_known_1 a0.L _ hr2), .nt r2] rfl fd_69 (by kernel_rfl)
mutual
def U_impl_Value_known_1 : Nat → GValue → Option Bool
  | 0, _ => none
  | n + 1, a0 => T_impl_Value_known_1 (U_impl_Value_known n) a0
def U_slices_IndexFunc_Value_Value_known_1 : Nat → (List GValue) → Option Int
  | 0, _ => none
  | n + 1, a0 => T_slices_IndexFunc_Value_Value_known_1 (U_impl_Value_known_1 n) n a0
def U_slices_ContainsFunc_Value_Value_known_1 : Nat → (List GValue) → Option Bool
  | 0, _ => none
  | n + 1, a0 => T_slices_ContainsFunc_Value_Value_known_1 (U_slices_IndexFunc_Value_Value_known_1 n) a0
def U_impl_Value_known : Nat → GValue → Option Bool
  | 0, _ => none
  | n + 1, a0 => T_impl_Value_known (U_slices_ContainsFunc_Value_Value_known_1 n) a0
end
theorem rec_impl_Value_known_1 (n : Nat) : (∀ (a0 : GValue) (r : Bool), U_impl_Value_known_1 n a0 = some r → (mach cfg).call 79 [] [.val true [.int .i64 a0.Kind, .int .i64 a0.N, .seq (eL e_u8 a0.S), .seq (eL (e_sl e_u8) a0.K), .seq (eL e_GValue a0.L)]] = some (.val false [.bool r], [])) ∧ (∀ (a0 : (List GValue)) (r : Int), U_slices_IndexFunc_Value_Value_known_1 n a0 = some r → (mach cfg).call 93 [] [.val false [.seq (eL e_GValue a0)], .val false [.fn 79 []]] = some (.val false [.int .i64 r], [])) ∧ (∀ (a0 : (List GValue)) (r : Bool), U_slices_ContainsFunc_Value_Value_known_1 n a0 = some r → (mach cfg).call 78 [] [.val false [.seq (eL e_GValue a0)], .val false [.fn 79 []]] = some (.val false [.bool r], [])) ∧ (∀ (a0 : GValue) (r : Bool), U_impl_Value_known n a0 = some r → (mach cfg).call 69 [] [.val true [.int .i64 a0.Kind, .int .i64 a0.N, .seq (eL e_u8 a0.S), .seq (eL (e_sl e_u8) a0.K), .seq (eL e_GValue a0.L)]] = some (.val false [.bool r], [])) := by
  induction n with
  | zero => exact ⟨fun _ _ h => (by rw [U_impl_Value_known_1] at h; cases h), fun _ _ h => (by rw [U_slices_IndexFunc_Value_Value_known_1] at h; cases h), fun _ _ h => (by rw [U_slices_ContainsFunc_Value_Value_known_1] at h; cases h), fun _ _ h => (by rw [U_impl_Value_known] at h; cases h)⟩
  | succ n ih =>
    obtain ⟨ih_impl_Value_known_1, ih_slices_IndexFunc_Value_Value_known_1, ih_slices_ContainsFunc_Value_Value_known_1, ih_impl_Value_known⟩ := ih
    exact ⟨fun a0 r h => g_impl_Value_known_1 (U_impl_Value_known n) ih_impl_Value_known a0 r (by rw [U_impl_Value_known_1] at h; exact h),
      fun a0 r h => g_slices_IndexFunc_Value_Value_known_1 (U_impl_Value_known_1 n) ih_impl_Value_known_1 n a0 r (by rw [U_slices_IndexFunc_Value_Value_known_1] at h; exact h),
      fun a0 r h => g_slices_ContainsFunc_Value_Value_known_1 (U_slices_IndexFunc_Value_Value_known_1 n) ih_slices_IndexFunc_Value_Value_known_1 a0 r (by rw [U_slices_ContainsFunc_Value_Value_known_1] at h; exact h),
      fun a0 r h => g_impl_Value_known (U_slices_ContainsFunc_Value_Value_known_1 n) ih_slices_ContainsFunc_Value_Value_known_1 a0 r (by rw [U_impl_Value_known] at h; exact h)⟩
def S_impl_Value_known_1 (a0 : GValue) : Option Bool := none
theorem spec_impl_Value_known_1 (a0 : GValue) (r : Bool) (h : S_impl_Value_known_1 a0 = some r) : ∃ n, U_impl_Value_known_1 n a0 = some r := by cases h
def S_slices_IndexFunc_Value_Value_known_1 (a0 : (List GValue)) : Option Int := none
theorem spec_slices_IndexFunc_Value_Value_known_1 (a0 : (List GValue)) (r : Int) (h : S_slices_IndexFunc_Value_Value_known_1 a0 = some r) : ∃ n, U_slices_IndexFunc_Value_Value_known_1 n a0 = some r := by cases h
def S_slices_ContainsFunc_Value_Value_known_1 (a0 : (List GValue)) : Option Bool := none
theorem spec_slices_ContainsFunc_Value_Value_known_1 (a0 : (List GValue)) (r : Bool) (h : S_slices_ContainsFunc_Value_Value_known_1 a0 = some r) : ∃ n, U_slices_ContainsFunc_Value_Value_known_1 n a0 = some r := by cases h
theorem known_ix {G : GValue → Option Bool} {a : List GValue} {f : Nat} (ha : a.length <= 2 ^ 40) (hf : a.length < f) (hG : ∀ x ∈ a, G x = some (!knV x)) : ∃ r : Int, T_slices_IndexFunc_Value_Value_known_1 G f a = some r ∧ decide (0 <= r) = !(knVs a) := by
  have loop : ∀ (l p : List GValue) (m : Nat), a = p ++ l → l.length < m → ∃ (q : Nat) (z : Int), L_slices_IndexFunc_Value_Value_known_1_l0 G a ((a.length : Nat) : Int) m ((p.length : Nat) : Int) = some (if knVs l = true then .inr z else .inl (q : Int)) := by
    intro l
    induction l with
    | nil =>
      intro p m he hm
      subst he
      obtain ⟨m, rfl, _⟩ := fuel hm
      exact ⟨0, _, by rw [L_slices_IndexFunc_Value_Value_known_1_l0, if_neg (nlt_end p)]; rfl⟩
    | cons x l ih =>
      intro p m he hm
      obtain ⟨m, rfl, hm'⟩ := fuel hm
      have hlen : a.length = p.length + (l.length + 1) := by rw [he]; simp
      rw [L_slices_IndexFunc_Value_Value_known_1_l0, if_pos (by omega), natO_nat, Option.bind_some, show a[p.length]? = some x by rw [he]; exact get_mid p x l, Option.bind_some, hG x (by rw [he]; simp), Option.bind_some, w64_len p x (by omega)]
      rw [show knVs (x :: l) = (knV x && knVs l) by simp only [knVs]]
      by_cases hp : knV x = true
      · obtain ⟨q, z, hz⟩ := ih (p ++ [x]) m (by rw [he]; simp) (by simp only [List.length_cons] at hm'; omega)
        exact ⟨q, z, by rw [hp, Bool.true_and]; exact hz⟩
      · rw [Bool.eq_false_iff.2 hp]
        exact ⟨p.length, 0, rfl⟩
  obtain ⟨q, z, hz⟩ := loop a [] f rfl (by omega)
  simp only [List.length_nil, Int.natCast_zero] at hz
  unfold T_slices_IndexFunc_Value_Value_known_1
  rw [hz, Option.bind_some]
  cases hp : knVs a with
  | true => exact ⟨-1, rfl, rfl⟩
  | false => exact ⟨(q : Int), rfl, by simp⟩
theorem known_U : ∀ (N : Nat) (v : GValue), vsz v < N → vsz v <= 2 ^ 39 → ∀ f : Nat, 4 * vsz v + 5 <= f → U_impl_Value_known f v = some (knV v) := by
  intro N
  induction N with
  | zero => intro v hv; omega
  | succ N ih =>
    intro v hv hs f hf
    have he := vsz_eq v
    have hl := vszs_len v.L
    obtain ⟨f, rfl, _⟩ := fuel (show 0 < f by omega)
    obtain ⟨f, rfl, _⟩ := fuel (show 0 < f by omega)
    obtain ⟨f, rfl, _⟩ := fuel (show 0 < f by omega)
    obtain ⟨f, rfl, _⟩ := fuel (show 0 < f by omega)
    obtain ⟨r, hr, hd⟩ := known_ix (G := U_impl_Value_known_1 (f + 1)) (a := v.L) (f := f + 1) (by omega) (by omega) (fun x hx => by
      have := vszs_mem hx
      rw [U_impl_Value_known_1]
      unfold T_impl_Value_known_1
      rw [ih x (by omega) (by omega) f (by omega), Option.bind_some])
    rw [U_impl_Value_known]
    unfold T_impl_Value_known
    rw [U_slices_ContainsFunc_Value_Value_known_1]
    unfold T_slices_ContainsFunc_Value_Value_known_1
    rw [U_slices_IndexFunc_Value_Value_known_1, hr, Option.bind_some, Option.bind_some, hd, knV_eq]
    by_cases h6 : v.Kind = 6
    · rw [if_pos h6, h6]; rfl
    · rw [if_neg h6]; simp [h6]
def S_impl_Value_known (a0 : GValue) : Option Bool := if vsz a0 <= 2 ^ 39 then some (knV a0) else none
theorem spec_impl_Value_known (a0 : GValue) (r : Bool) (h : S_impl_Value_known a0 = some r) : ∃ n, U_impl_Value_known n a0 = some r := by
  unfold S_impl_Value_known at h
  obtain ⟨ha, h⟩ := need_c h
  exact ⟨4 * vsz a0 + 5, by rw [<- h]; exact known_U _ a0 (Nat.lt_succ_self _) ha _ (Nat.le_refl _)⟩
theorem ok_impl_Value_known_1 (a0 : GValue) (r : Bool) (h : S_impl_Value_known_1 a0 = some r) : (mach cfg).call 79 [] [.val true [.int .i64 a0.Kind, .int .i64 a0.N, .seq (eL e_u8 a0.S), .seq (eL (e_sl e_u8) a0.K), .seq (eL e_GValue a0.L)]] = some (.val false [.bool r], []) := by
  obtain ⟨n, hn⟩ := spec_impl_Value_known_1 a0 r h
  exact (rec_impl_Value_known_1 n).1 a0 r hn
theorem ok_slices_IndexFunc_Value_Value_known_1 (a0 : (List GValue)) (r : Int) (h : S_slices_IndexFunc_Value_Value_known_1 a0 = some r) : (mach cfg).call 93 [] [.val false [.seq (eL e_GValue a0)], .val false [.fn 79 []]] = some (.val false [.int .i64 r], []) := by
  obtain ⟨n, hn⟩ := spec_slices_IndexFunc_Value_Value_known_1 a0 r h
  exact (rec_impl_Value_known_1 n).2.1 a0 r hn
theorem ok_slices_ContainsFunc_Value_Value_known_1 (a0 : (List GValue)) (r : Bool) (h : S_slices_ContainsFunc_Value_Value_known_1 a0 = some r) : (mach cfg).call 78 [] [.val false [.seq (eL e_GValue a0)], .val false [.fn 79 []]] = some (.val false [.bool r], []) := by
  obtain ⟨n, hn⟩ := spec_slices_ContainsFunc_Value_Value_known_1 a0 r h
  exact (rec_impl_Value_known_1 n).2.2.1 a0 r hn
theorem ok_impl_Value_known (a0 : GValue) (r : Bool) (h : S_impl_Value_known a0 = some r) : (mach cfg).call 69 [] [.val true [.int .i64 a0.Kind, .int .i64 a0.N, .seq (eL e_u8 a0.S), .seq (eL (e_sl e_u8) a0.K), .seq (eL e_GValue a0.L)]] = some (.val false [.bool r], []) := by
  obtain ⟨n, hn⟩ := spec_impl_Value_known a0 r h
  exact (rec_impl_Value_known_1 n).2.2.2 a0 r hn
def S_impl_isKnownMap (a0 : GValue) : Option Bool :=
  (S_impl_isMap a0).bind fun r1 =>
  match r1 with
  | true =>
    (S_impl_Value_known a0).bind fun r3 =>
    some r3
  | false =>
    some false
set_option maxRecDepth 100000 in
theorem fd_51 : cfg.funcs 51 = some (bodyOf Tryz.f51, Tryz.f51.ntmps, Tryz.f51.results.toList) := fn_of Tryz.func51 (by kernel_rfl) (by kernel_rfl)
theorem ok_impl_isKnownMap (a0 : GValue) (r : Bool) (h : S_impl_isKnownMap a0 = some r) : (mach cfg).call 51 [] [.val true [.int .i64 a0.Kind, .int .i64 a0.N, .seq (eL e_u8 a0.S), .seq (eL (e_sl e_u8) a0.K), .seq (eL e_GValue a0.L)]] = some (.val false [.bool r], []) := by
  unfold S_impl_isKnownMap at h
  obtain ⟨r1, hr1, h⟩ := bs h
  cases r1 with
  | true =>
   try dsimp only at h
   obtain ⟨r3, hr3, h⟩ := bs h
   obtain rfl := Option.some.inj h
   exact call_wQ [.cl (ok_impl_isMap a0 _ hr1), .cl (ok_impl_Value_known a0 _ hr3)] rfl fd_51 (by kernel_rfl)
  | false =>
   try dsimp only at h
   obtain rfl := Option.some.inj h
   exact call_wQ [.cl (ok_impl_isMap a0 _ hr1)] rfl fd_51 (by kernel_rfl)
end
end Go.Am.Try
