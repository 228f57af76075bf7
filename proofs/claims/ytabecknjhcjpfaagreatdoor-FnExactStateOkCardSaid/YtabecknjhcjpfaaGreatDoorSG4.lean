/- The functions of the program in plain Lean, and that the machine answers as they do; conditions at each theorem. -/
import Derived.Test.YtabecknjhcjpfaaGreatDoorSG3
set_option linter.unusedVariables false
set_option linter.unusedSimpArgs false
namespace Go.Am.Try
open Go.Am Go.Proofs
set_option linter.unusedVariables false
set_option maxRecDepth 20000
set_option maxHeartbeats 2000000
noncomputable section
def L_impl_isState_l0 (v0 : (List GEntry)) (v1 : Int) (a0 : GState) : Nat → Int → Option (Bool ⊕ Int)
  | 0, _ => none
  | m + 1, v2 =>
    if v2 < v1 then
      (natO v2).bind fun i2 =>
      (v0[i2]?).bind fun x3 =>
      (S_impl_isAddr x3.Addr).bind fun r4 =>
      match r4 with
      | true =>
        if 0 < v2 then
          (natO (w64 (v2 - 1))).bind fun i7 =>
          (a0.Entries[i7]?).bind fun x8 =>
          (S_bytes_Compare x8.Addr x3.Addr).bind fun r9 =>
          if 0 <= r9 then
            some (.inl false)
          else
            (S_impl_isKnownMap x3.Val).bind fun r11 =>
            match r11 with
            | true =>
              (S_impl_areAddrs x3.Deps).bind fun r13 =>
              match r13 with
              | true =>
                (S_impl_in x3.Turned 1 a0.Serial).bind fun r15 =>
                match r15 with
                | true =>
                  L_impl_isState_l0 v0 v1 a0 m (w64 (v2 + 1))
                | false =>
                  some (.inl false)
              | false =>
                some (.inl false)
            | false =>
              some (.inl false)
        else
          (S_impl_isKnownMap x3.Val).bind fun r7 =>
          match r7 with
          | true =>
            (S_impl_areAddrs x3.Deps).bind fun r9 =>
            match r9 with
            | true =>
              (S_impl_in x3.Turned 1 a0.Serial).bind fun r11 =>
              match r11 with
              | true =>
                L_impl_isState_l0 v0 v1 a0 m (w64 (v2 + 1))
              | false =>
                some (.inl false)
            | false =>
              some (.inl false)
          | false =>
            some (.inl false)
      | false =>
        some (.inl false)
    else
      some (.inr v2)
theorem gl_impl_isState_l0 (v0 : (List GEntry)) (v1 : Int) (a0 : GState) (m : Nat) : ∀ (v2 : Int) (o : (Bool ⊕ Int)), L_impl_isState_l0 v0 v1 a0 m v2 = some o → (mach cfg).loop 66 (loopB Tryz.f66 0) ⟨[(1, .val false [.ptr 0 0]), (18, .val false [.seq (eL e_GEntry v0)]), (19, .val false [.int .i64 v1]), (20, .val false [.int .i64 v2])], [.var [.int .i64 a0.Serial, .bool a0.Open, .seq (eL e_u8 a0.Pending), .int .i64 a0.Act, .seq (eL e_GEntry a0.Entries)]], 0⟩ = some (match o with | .inl o_0 => (.ret, (⟨[(2, .val false [.bool o_0])], [], 0⟩ : S)) | .inr (o_1) => (.exit 0, (⟨[(1, .val false [.ptr 0 0]), (18, .val false [.seq (eL e_GEntry v0)]), (19, .val false [.int .i64 v1]), (20, .val false [.int .i64 o_1]), (21, .val false [.bool false])], [.var [.int .i64 a0.Serial, .bool a0.Open, .seq (eL e_u8 a0.Pending), .int .i64 a0.Act, .seq (eL e_GEntry a0.Entries)]], 0⟩ : S))) := by
  induction m with
  | zero => intro v2 o h; cases h
  | succ m ih =>
    intro v2 o h
    rw [L_impl_isState_l0] at h
    rcases ite_some h with ⟨c1, h⟩ | ⟨c1, h⟩
    ·obtain ⟨i2, hi2, h⟩ := bs h
     obtain ⟨x3, hx3, h⟩ := bs h
     obtain ⟨r4, hr4, h⟩ := bs h
     cases r4 with
     | true =>
      try dsimp only at h
      rcases ite_some h with ⟨c6, h⟩ | ⟨c6, h⟩
      ·obtain ⟨i7, hi7, h⟩ := bs h
       obtain ⟨x8, hx8, h⟩ := bs h
       obtain ⟨r9, hr9, h⟩ := bs h
       rcases ite_some h with ⟨c10, h⟩ | ⟨c10, h⟩
       ·obtain rfl := Option.some.inj h
        exact loop_eQ [.lT c1, .na hi2, .ix hx3 (eq_GEntry x3), .cl (ok_impl_isAddr x3.Addr _ hr4), .nt true, .lT c6, .su v2 1, .na hi7, .ix hx8 (eq_GEntry x8), .cl (ok_bytes_Compare x8.Addr x3.Addr _ hr9), .gT c10] (by kernel_rfl) (by intro h; cases h)
       ·obtain ⟨r11, hr11, h⟩ := bs h
        cases r11 with
        | true =>
         try dsimp only at h
         obtain ⟨r13, hr13, h⟩ := bs h
         cases r13 with
         | true =>
          try dsimp only at h
          obtain ⟨r15, hr15, h⟩ := bs h
          cases r15 with
          | true =>
           try dsimp only at h
           exact loop_nQ [.lT c1, .na hi2, .ix hx3 (eq_GEntry x3), .cl (ok_impl_isAddr x3.Addr _ hr4), .nt true, .lT c6, .su v2 1, .na hi7, .ix hx8 (eq_GEntry x8), .cl (ok_bytes_Compare x8.Addr x3.Addr _ hr9), .gF c10, .cl (ok_impl_isKnownMap x3.Val _ hr11), .nt true, .cl (ok_impl_areAddrs x3.Deps _ hr13), .nt true, .cl (ok_impl_in x3.Turned 1 a0.Serial _ hr15), .nt true, .ad v2 1] (by kernel_rfl) (ih (w64 (v2 + 1)) o h)
          | false =>
           try dsimp only at h
           obtain rfl := Option.some.inj h
           exact loop_eQ [.lT c1, .na hi2, .ix hx3 (eq_GEntry x3), .cl (ok_impl_isAddr x3.Addr _ hr4), .nt true, .lT c6, .su v2 1, .na hi7, .ix hx8 (eq_GEntry x8), .cl (ok_bytes_Compare x8.Addr x3.Addr _ hr9), .gF c10, .cl (ok_impl_isKnownMap x3.Val _ hr11), .nt true, .cl (ok_impl_areAddrs x3.Deps _ hr13), .nt true, .cl (ok_impl_in x3.Turned 1 a0.Serial _ hr15), .nt false] (by kernel_rfl) (by intro h; cases h)
         | false =>
          try dsimp only at h
          obtain rfl := Option.some.inj h
          exact loop_eQ [.lT c1, .na hi2, .ix hx3 (eq_GEntry x3), .cl (ok_impl_isAddr x3.Addr _ hr4), .nt true, .lT c6, .su v2 1, .na hi7, .ix hx8 (eq_GEntry x8), .cl (ok_bytes_Compare x8.Addr x3.Addr _ hr9), .gF c10, .cl (ok_impl_isKnownMap x3.Val _ hr11), .nt true, .cl (ok_impl_areAddrs x3.Deps _ hr13), .nt false] (by kernel_rfl) (by intro h; cases h)
        | false =>
         try dsimp only at h
         obtain rfl := Option.some.inj h
         exact loop_eQ [.lT c1, .na hi2, .ix hx3 (eq_GEntry x3), .cl (ok_impl_isAddr x3.Addr _ hr4), .nt true, .lT c6, .su v2 1, .na hi7, .ix hx8 (eq_GEntry x8), .cl (ok_bytes_Compare x8.Addr x3.Addr _ hr9), .gF c10, .cl (ok_impl_isKnownMap x3.Val _ hr11), .nt false] (by kernel_rfl) (by intro h; cases h)
      ·obtain ⟨r7, hr7, h⟩ := bs h
       cases r7 with
       | true =>
        try dsimp only at h
        obtain ⟨r9, hr9, h⟩ := bs h
        cases r9 with
        | true =>
         try dsimp only at h
         obtain ⟨r11, hr11, h⟩ := bs h
         cases r11 with
         | true =>
          try dsimp only at h
          exact loop_nQ [.lT c1, .na hi2, .ix hx3 (eq_GEntry x3), .cl (ok_impl_isAddr x3.Addr _ hr4), .nt true, .lF c6, .cl (ok_impl_isKnownMap x3.Val _ hr7), .nt true, .cl (ok_impl_areAddrs x3.Deps _ hr9), .nt true, .cl (ok_impl_in x3.Turned 1 a0.Serial _ hr11), .nt true, .ad v2 1] (by kernel_rfl) (ih (w64 (v2 + 1)) o h)
         | false =>
          try dsimp only at h
          obtain rfl := Option.some.inj h
          exact loop_eQ [.lT c1, .na hi2, .ix hx3 (eq_GEntry x3), .cl (ok_impl_isAddr x3.Addr _ hr4), .nt true, .lF c6, .cl (ok_impl_isKnownMap x3.Val _ hr7), .nt true, .cl (ok_impl_areAddrs x3.Deps _ hr9), .nt true, .cl (ok_impl_in x3.Turned 1 a0.Serial _ hr11), .nt false] (by kernel_rfl) (by intro h; cases h)
        | false =>
         try dsimp only at h
         obtain rfl := Option.some.inj h
         exact loop_eQ [.lT c1, .na hi2, .ix hx3 (eq_GEntry x3), .cl (ok_impl_isAddr x3.Addr _ hr4), .nt true, .lF c6, .cl (ok_impl_isKnownMap x3.Val _ hr7), .nt true, .cl (ok_impl_areAddrs x3.Deps _ hr9), .nt false] (by kernel_rfl) (by intro h; cases h)
       | false =>
        try dsimp only at h
        obtain rfl := Option.some.inj h
        exact loop_eQ [.lT c1, .na hi2, .ix hx3 (eq_GEntry x3), .cl (ok_impl_isAddr x3.Addr _ hr4), .nt true, .lF c6, .cl (ok_impl_isKnownMap x3.Val _ hr7), .nt false] (by kernel_rfl) (by intro h; cases h)
     | false =>
      try dsimp only at h
      obtain rfl := Option.some.inj h
      exact loop_eQ [.lT c1, .na hi2, .ix hx3 (eq_GEntry x3), .cl (ok_impl_isAddr x3.Addr _ hr4), .nt false] (by kernel_rfl) (by intro h; cases h)
    ·obtain rfl := Option.some.inj h
     exact loop_eQ [.lF c1] (by kernel_rfl) (by intro h; cases h)
def T_impl_isState (n : Nat) (a0 : GState) : Option Bool :=
  (S_impl_in a0.Serial 0 1000000).bind fun r1 =>
  match r1 with
  | true =>
    if 16 < ((a0.Entries.length : Nat) : Int) then
      some false
    else
      (L_impl_isState_l0 a0.Entries ((a0.Entries.length : Nat) : Int) a0 n 0).bind fun o4 =>
      match o4 with
      | .inl o4_0 =>
        some o4_0
      | .inr (o4_1) =>
        if ((a0.Pending.length : Nat) : Int) = 0 then
          some (decide (a0.Act = 0))
        else
          (S_impl_State_entryAt a0 a0.Pending).bind fun ⟨r6_0, r6_1⟩ =>
          match a0.Open with
          | true =>
            (S_impl_isAddr a0.Pending).bind fun r8 =>
            match r8 with
            | true =>
              (S_impl_in a0.Act 1 4).bind fun r10 =>
              match r10 with
              | true =>
                match r6_1 with
                | true =>
                  if a0.Act = 1 then
                    some false
                  else
                    some true
                | false =>
                  if a0.Act = 1 then
                    some true
                  else
                    some false
              | false =>
                some false
            | false =>
              some false
          | false =>
            some false
  | false =>
    some false
set_option maxRecDepth 100000 in
theorem fd_66 : cfg.funcs 66 = some (bodyOf Tryz.f66, Tryz.f66.ntmps, Tryz.f66.results.toList) := fn_of Tryz.func66 (by kernel_rfl) (by kernel_rfl)
theorem g_impl_isState (n : Nat) (a0 : GState) (r : Bool) (h : T_impl_isState n a0 = some r) : (mach cfg).call 66 [] [.val true [.int .i64 a0.Serial, .bool a0.Open, .seq (eL e_u8 a0.Pending), .int .i64 a0.Act, .seq (eL e_GEntry a0.Entries)]] = some (.val false [.bool r], []) := by
  unfold T_impl_isState at h
  obtain ⟨r1, hr1, h⟩ := bs h
  cases r1 with
  | true =>
   try dsimp only at h
   rcases ite_some h with ⟨c3, h⟩ | ⟨c3, h⟩
   ·obtain rfl := Option.some.inj h
    exact call_wQ [.cl (ok_impl_in a0.Serial 0 1000000 _ hr1), .nt true, .le e_GEntry a0.Entries, .lT c3] rfl fd_66 (by kernel_rfl)
   ·obtain ⟨o4, ho4, h⟩ := bs h
    rcases o4 with o4_0 | o4_1
    · try dsimp only at h
      obtain rfl := Option.some.inj h
      exact call_wQ [.cl (ok_impl_in a0.Serial 0 1000000 _ hr1), .nt true, .le e_GEntry a0.Entries, .lF c3, .le e_GEntry a0.Entries, .lp (gl_impl_isState_l0 a0.Entries ((a0.Entries.length : Nat) : Int) a0 _ 0 _ ho4)] rfl fd_66 (by kernel_rfl)
    · try dsimp only at h
      rcases ite_some h with ⟨c5, h⟩ | ⟨c5, h⟩
      ·obtain rfl := Option.some.inj h
       exact call_wQ [.cl (ok_impl_in a0.Serial 0 1000000 _ hr1), .nt true, .le e_GEntry a0.Entries, .lF c3, .le e_GEntry a0.Entries, .lp (gl_impl_isState_l0 a0.Entries ((a0.Entries.length : Nat) : Int) a0 _ 0 _ ho4), .le e_u8 a0.Pending, .eT c5, .eD a0.Act 0] rfl fd_66 (by kernel_rfl)
      ·obtain ⟨⟨r6_0, r6_1⟩, hr6, h⟩ := bs h
       try dsimp only at h
       cases c7 : a0.Open with
       | true =>
        rw [c7] at h
        try dsimp only at h
        obtain ⟨r8, hr8, h⟩ := bs h
        cases r8 with
        | true =>
         try dsimp only at h
         obtain ⟨r10, hr10, h⟩ := bs h
         cases r10 with
         | true =>
          try dsimp only at h
          cases r6_1 with
          | true =>
           try dsimp only at h
           rcases ite_some h with ⟨c13, h⟩ | ⟨c13, h⟩
           ·obtain rfl := Option.some.inj h
            exact call_wQ [.cl (ok_impl_in a0.Serial 0 1000000 _ hr1), .nt true, .le e_GEntry a0.Entries, .lF c3, .le e_GEntry a0.Entries, ⟨.loop 66 (loopB Tryz.f66 0) ⟨[(1, .val false [.ptr 0 0]), (18, .val false [.seq (eL e_GEntry a0.Entries)]), (19, .val false [.int .i64 ((a0.Entries.length : Nat) : Int)]), (20, .val false [.int .i64 0])], [.var [.int .i64 a0.Serial, .bool true, .seq (eL e_u8 a0.Pending), .int .i64 a0.Act, .seq (eL e_GEntry a0.Entries)]], 0⟩, .x (.exit 0) ⟨[(1, .val false [.ptr 0 0]), (18, .val false [.seq (eL e_GEntry a0.Entries)]), (19, .val false [.int .i64 ((a0.Entries.length : Nat) : Int)]), (20, .val false [.int .i64 o4_1]), (21, .val false [.bool false])], [.var [.int .i64 a0.Serial, .bool true, .seq (eL e_u8 a0.Pending), .int .i64 a0.Act, .seq (eL e_GEntry a0.Entries)]], 0⟩, (A.loop (by have q := gl_impl_isState_l0 a0.Entries ((a0.Entries.length : Nat) : Int) a0 _ 0 _ ho4; rw [c7] at q; exact q))⟩, .le e_u8 a0.Pending, .eF c5, ⟨.call 74 [] [.val true [.int .i64 a0.Serial, .bool true, .seq (eL e_u8 a0.Pending), .int .i64 a0.Act, .seq (eL e_GEntry a0.Entries)], .val false [.seq (eL e_u8 a0.Pending)]], .r (.tup [(false, [.int .i64 r6_0]), (false, [.bool true])]) [], (A.call (by have q := ok_impl_State_entryAt a0 a0.Pending _ hr6; rw [c7] at q; exact q))⟩, .cl (ok_impl_isAddr a0.Pending _ hr8), .cl (ok_impl_in a0.Act 1 4 _ hr10), .eT c13, .nt true, ⟨.eqB true false, .b false, rfl⟩] rfl fd_66 (by kernel_rfl)
           ·obtain rfl := Option.some.inj h
            exact call_wQ [.cl (ok_impl_in a0.Serial 0 1000000 _ hr1), .nt true, .le e_GEntry a0.Entries, .lF c3, .le e_GEntry a0.Entries, ⟨.loop 66 (loopB Tryz.f66 0) ⟨[(1, .val false [.ptr 0 0]), (18, .val false [.seq (eL e_GEntry a0.Entries)]), (19, .val false [.int .i64 ((a0.Entries.length : Nat) : Int)]), (20, .val false [.int .i64 0])], [.var [.int .i64 a0.Serial, .bool true, .seq (eL e_u8 a0.Pending), .int .i64 a0.Act, .seq (eL e_GEntry a0.Entries)]], 0⟩, .x (.exit 0) ⟨[(1, .val false [.ptr 0 0]), (18, .val false [.seq (eL e_GEntry a0.Entries)]), (19, .val false [.int .i64 ((a0.Entries.length : Nat) : Int)]), (20, .val false [.int .i64 o4_1]), (21, .val false [.bool false])], [.var [.int .i64 a0.Serial, .bool true, .seq (eL e_u8 a0.Pending), .int .i64 a0.Act, .seq (eL e_GEntry a0.Entries)]], 0⟩, (A.loop (by have q := gl_impl_isState_l0 a0.Entries ((a0.Entries.length : Nat) : Int) a0 _ 0 _ ho4; rw [c7] at q; exact q))⟩, .le e_u8 a0.Pending, .eF c5, ⟨.call 74 [] [.val true [.int .i64 a0.Serial, .bool true, .seq (eL e_u8 a0.Pending), .int .i64 a0.Act, .seq (eL e_GEntry a0.Entries)], .val false [.seq (eL e_u8 a0.Pending)]], .r (.tup [(false, [.int .i64 r6_0]), (false, [.bool true])]) [], (A.call (by have q := ok_impl_State_entryAt a0 a0.Pending _ hr6; rw [c7] at q; exact q))⟩, .cl (ok_impl_isAddr a0.Pending _ hr8), .cl (ok_impl_in a0.Act 1 4 _ hr10), .eF c13, .nt false, ⟨.eqB true true, .b true, rfl⟩] rfl fd_66 (by kernel_rfl)
          | false =>
           try dsimp only at h
           rcases ite_some h with ⟨c13, h⟩ | ⟨c13, h⟩
           ·obtain rfl := Option.some.inj h
            exact call_wQ [.cl (ok_impl_in a0.Serial 0 1000000 _ hr1), .nt true, .le e_GEntry a0.Entries, .lF c3, .le e_GEntry a0.Entries, ⟨.loop 66 (loopB Tryz.f66 0) ⟨[(1, .val false [.ptr 0 0]), (18, .val false [.seq (eL e_GEntry a0.Entries)]), (19, .val false [.int .i64 ((a0.Entries.length : Nat) : Int)]), (20, .val false [.int .i64 0])], [.var [.int .i64 a0.Serial, .bool true, .seq (eL e_u8 a0.Pending), .int .i64 a0.Act, .seq (eL e_GEntry a0.Entries)]], 0⟩, .x (.exit 0) ⟨[(1, .val false [.ptr 0 0]), (18, .val false [.seq (eL e_GEntry a0.Entries)]), (19, .val false [.int .i64 ((a0.Entries.length : Nat) : Int)]), (20, .val false [.int .i64 o4_1]), (21, .val false [.bool false])], [.var [.int .i64 a0.Serial, .bool true, .seq (eL e_u8 a0.Pending), .int .i64 a0.Act, .seq (eL e_GEntry a0.Entries)]], 0⟩, (A.loop (by have q := gl_impl_isState_l0 a0.Entries ((a0.Entries.length : Nat) : Int) a0 _ 0 _ ho4; rw [c7] at q; exact q))⟩, .le e_u8 a0.Pending, .eF c5, ⟨.call 74 [] [.val true [.int .i64 a0.Serial, .bool true, .seq (eL e_u8 a0.Pending), .int .i64 a0.Act, .seq (eL e_GEntry a0.Entries)], .val false [.seq (eL e_u8 a0.Pending)]], .r (.tup [(false, [.int .i64 r6_0]), (false, [.bool false])]) [], (A.call (by have q := ok_impl_State_entryAt a0 a0.Pending _ hr6; rw [c7] at q; exact q))⟩, .cl (ok_impl_isAddr a0.Pending _ hr8), .cl (ok_impl_in a0.Act 1 4 _ hr10), .eT c13, .nt true, ⟨.eqB false false, .b true, rfl⟩] rfl fd_66 (by kernel_rfl)
           ·obtain rfl := Option.some.inj h
            exact call_wQ [.cl (ok_impl_in a0.Serial 0 1000000 _ hr1), .nt true, .le e_GEntry a0.Entries, .lF c3, .le e_GEntry a0.Entries, ⟨.loop 66 (loopB Tryz.f66 0) ⟨[(1, .val false [.ptr 0 0]), (18, .val false [.seq (eL e_GEntry a0.Entries)]), (19, .val false [.int .i64 ((a0.Entries.length : Nat) : Int)]), (20, .val false [.int .i64 0])], [.var [.int .i64 a0.Serial, .bool true, .seq (eL e_u8 a0.Pending), .int .i64 a0.Act, .seq (eL e_GEntry a0.Entries)]], 0⟩, .x (.exit 0) ⟨[(1, .val false [.ptr 0 0]), (18, .val false [.seq (eL e_GEntry a0.Entries)]), (19, .val false [.int .i64 ((a0.Entries.length : Nat) : Int)]), (20, .val false [.int .i64 o4_1]), (21, .val false [.bool false])], [.var [.int .i64 a0.Serial, .bool true, .seq (eL e_u8 a0.Pending), .int .i64 a0.Act, .seq (eL e_GEntry a0.Entries)]], 0⟩, (A.loop (by have q := gl_impl_isState_l0 a0.Entries ((a0.Entries.length : Nat) : Int) a0 _ 0 _ ho4; rw [c7] at q; exact q))⟩, .le e_u8 a0.Pending, .eF c5, ⟨.call 74 [] [.val true [.int .i64 a0.Serial, .bool true, .seq (eL e_u8 a0.Pending), .int .i64 a0.Act, .seq (eL e_GEntry a0.Entries)], .val false [.seq (eL e_u8 a0.Pending)]], .r (.tup [(false, [.int .i64 r6_0]), (false, [.bool false])]) [], (A.call (by have q := ok_impl_State_entryAt a0 a0.Pending _ hr6; rw [c7] at q; exact q))⟩, .cl (ok_impl_isAddr a0.Pending _ hr8), .cl (ok_impl_in a0.Act 1 4 _ hr10), .eF c13, .nt false, ⟨.eqB false true, .b false, rfl⟩] rfl fd_66 (by kernel_rfl)
         | false =>
          try dsimp only at h
          obtain rfl := Option.some.inj h
          exact call_wQ [.cl (ok_impl_in a0.Serial 0 1000000 _ hr1), .nt true, .le e_GEntry a0.Entries, .lF c3, .le e_GEntry a0.Entries, ⟨.loop 66 (loopB Tryz.f66 0) ⟨[(1, .val false [.ptr 0 0]), (18, .val false [.seq (eL e_GEntry a0.Entries)]), (19, .val false [.int .i64 ((a0.Entries.length : Nat) : Int)]), (20, .val false [.int .i64 0])], [.var [.int .i64 a0.Serial, .bool true, .seq (eL e_u8 a0.Pending), .int .i64 a0.Act, .seq (eL e_GEntry a0.Entries)]], 0⟩, .x (.exit 0) ⟨[(1, .val false [.ptr 0 0]), (18, .val false [.seq (eL e_GEntry a0.Entries)]), (19, .val false [.int .i64 ((a0.Entries.length : Nat) : Int)]), (20, .val false [.int .i64 o4_1]), (21, .val false [.bool false])], [.var [.int .i64 a0.Serial, .bool true, .seq (eL e_u8 a0.Pending), .int .i64 a0.Act, .seq (eL e_GEntry a0.Entries)]], 0⟩, (A.loop (by have q := gl_impl_isState_l0 a0.Entries ((a0.Entries.length : Nat) : Int) a0 _ 0 _ ho4; rw [c7] at q; exact q))⟩, .le e_u8 a0.Pending, .eF c5, ⟨.call 74 [] [.val true [.int .i64 a0.Serial, .bool true, .seq (eL e_u8 a0.Pending), .int .i64 a0.Act, .seq (eL e_GEntry a0.Entries)], .val false [.seq (eL e_u8 a0.Pending)]], .r (.tup [(false, [.int .i64 r6_0]), (false, [.bool r6_1])]) [], (A.call (by have q := ok_impl_State_entryAt a0 a0.Pending _ hr6; rw [c7] at q; exact q))⟩, .cl (ok_impl_isAddr a0.Pending _ hr8), .cl (ok_impl_in a0.Act 1 4 _ hr10)] rfl fd_66 (by kernel_rfl)
        | false =>
         try dsimp only at h
         obtain rfl := Option.some.inj h
         exact call_wQ [.cl (ok_impl_in a0.Serial 0 1000000 _ hr1), .nt true, .le e_GEntry a0.Entries, .lF c3, .le e_GEntry a0.Entries, ⟨.loop 66 (loopB Tryz.f66 0) ⟨[(1, .val false [.ptr 0 0]), (18, .val false [.seq (eL e_GEntry a0.Entries)]), (19, .val false [.int .i64 ((a0.Entries.length : Nat) : Int)]), (20, .val false [.int .i64 0])], [.var [.int .i64 a0.Serial, .bool true, .seq (eL e_u8 a0.Pending), .int .i64 a0.Act, .seq (eL e_GEntry a0.Entries)]], 0⟩, .x (.exit 0) ⟨[(1, .val false [.ptr 0 0]), (18, .val false [.seq (eL e_GEntry a0.Entries)]), (19, .val false [.int .i64 ((a0.Entries.length : Nat) : Int)]), (20, .val false [.int .i64 o4_1]), (21, .val false [.bool false])], [.var [.int .i64 a0.Serial, .bool true, .seq (eL e_u8 a0.Pending), .int .i64 a0.Act, .seq (eL e_GEntry a0.Entries)]], 0⟩, (A.loop (by have q := gl_impl_isState_l0 a0.Entries ((a0.Entries.length : Nat) : Int) a0 _ 0 _ ho4; rw [c7] at q; exact q))⟩, .le e_u8 a0.Pending, .eF c5, ⟨.call 74 [] [.val true [.int .i64 a0.Serial, .bool true, .seq (eL e_u8 a0.Pending), .int .i64 a0.Act, .seq (eL e_GEntry a0.Entries)], .val false [.seq (eL e_u8 a0.Pending)]], .r (.tup [(false, [.int .i64 r6_0]), (false, [.bool r6_1])]) [], (A.call (by have q := ok_impl_State_entryAt a0 a0.Pending _ hr6; rw [c7] at q; exact q))⟩, .cl (ok_impl_isAddr a0.Pending _ hr8)] rfl fd_66 (by kernel_rfl)
       | false =>
        rw [c7] at h
        try dsimp only at h
        obtain rfl := Option.some.inj h
        exact call_wQ [.cl (ok_impl_in a0.Serial 0 1000000 _ hr1), .nt true, .le e_GEntry a0.Entries, .lF c3, .le e_GEntry a0.Entries, ⟨.loop 66 (loopB Tryz.f66 0) ⟨[(1, .val false [.ptr 0 0]), (18, .val false [.seq (eL e_GEntry a0.Entries)]), (19, .val false [.int .i64 ((a0.Entries.length : Nat) : Int)]), (20, .val false [.int .i64 0])], [.var [.int .i64 a0.Serial, .bool false, .seq (eL e_u8 a0.Pending), .int .i64 a0.Act, .seq (eL e_GEntry a0.Entries)]], 0⟩, .x (.exit 0) ⟨[(1, .val false [.ptr 0 0]), (18, .val false [.seq (eL e_GEntry a0.Entries)]), (19, .val false [.int .i64 ((a0.Entries.length : Nat) : Int)]), (20, .val false [.int .i64 o4_1]), (21, .val false [.bool false])], [.var [.int .i64 a0.Serial, .bool false, .seq (eL e_u8 a0.Pending), .int .i64 a0.Act, .seq (eL e_GEntry a0.Entries)]], 0⟩, (A.loop (by have q := gl_impl_isState_l0 a0.Entries ((a0.Entries.length : Nat) : Int) a0 _ 0 _ ho4; rw [c7] at q; exact q))⟩, .le e_u8 a0.Pending, .eF c5, ⟨.call 74 [] [.val true [.int .i64 a0.Serial, .bool false, .seq (eL e_u8 a0.Pending), .int .i64 a0.Act, .seq (eL e_GEntry a0.Entries)], .val false [.seq (eL e_u8 a0.Pending)]], .r (.tup [(false, [.int .i64 r6_0]), (false, [.bool r6_1])]) [], (A.call (by have q := ok_impl_State_entryAt a0 a0.Pending _ hr6; rw [c7] at q; exact q))⟩] rfl fd_66 (by kernel_rfl)
  | false =>
   try dsimp only at h
   obtain rfl := Option.some.inj h
   exact call_wQ [.cl (ok_impl_in a0.Serial 0 1000000 _ hr1), .nt false] rfl fd_66 (by kernel_rfl)
theorem kV_eq {v : GValue} (h : vsz v <= 2 ^ 20) : S_impl_isValue v = some (valB v) := by
  unfold S_impl_isValue S_impl_isShaped S_impl_Value_parts valB
  rw [if_pos ⟨h, by decide, by decide⟩, Option.bind_some]
  rw [show (5 : Int).toNat = 5 from rfl]
  cases hs : shV 5 v
  · simp
  · dsimp only
    rw [if_pos h, Option.bind_some]
    simp
theorem implKm_eq {v : GValue} (h : vsz v <= 2 ^ 20) : S_impl_isKnownMap v = some (kmapB v) := by
  unfold S_impl_isKnownMap S_impl_isMap kmapB
  by_cases h5 : v.Kind = 5
  · rw [if_pos h5, kV_eq h, Option.bind_some, decide_eq_true h5, Bool.true_and]
    cases hv : valB v with
    | false => rfl
    | true =>
      simp only [Bool.true_and]
      unfold S_impl_Value_known
      rw [if_pos (by omega)]; rfl
  · rw [if_neg h5, decide_eq_false h5]; rfl
theorem implAds_eq {l : List (List UInt8)} (h : bsz l <= 2 ^ 20) : S_impl_areAddrs l = some (addrsB l) := if_pos h
theorem isState_loop {s : GState} (hs : eszs s.Entries <= 2 ^ 20) : ∀ (d i m : Nat), i + d = s.Entries.length → d < m → ∃ z, L_impl_isState_l0 s.Entries ((s.Entries.length : Nat) : Int) s m (i : Int) = some (if gAll (entB s.Serial) GEntry.Addr s.Entries i d = true then .inr z else .inl false) := by
  have hlen := eszs_len s.Entries
  intro d
  induction d with
  | zero =>
    intro i m hi hm
    obtain ⟨m, rfl, _⟩ := fuel hm
    exact ⟨_, by rw [L_impl_isState_l0, if_neg (by omega)]; rfl⟩
  | succ d ih =>
    intro i m hi hm
    obtain ⟨m, rfl, hm'⟩ := fuel hm
    have hil : i < s.Entries.length := by omega
    have hz0 := eszs_mem (List.getElem_mem hil)
    obtain ⟨z, hz⟩ := ih (i + 1) m (by omega) (by omega)
    rw [L_impl_isState_l0, if_pos (by omega), natO_nat, Option.bind_some, get_some hil, Option.bind_some, gAll_succ]
    unfold esz at hz0
    rw [implAd_eq (by omega), Option.bind_some, implKm_eq (by omega), Option.bind_some, implAds_eq (by omega), Option.bind_some, in_eq, Option.bind_some, w64_succ (by omega), hz]
    generalize gAll _ GEntry.Addr s.Entries (i + 1) d = g
    by_cases h0 : 0 < i
    · rw [gOk_eq hil h0]
      unfold entB
      cases addrB s.Entries[i].Addr with
      | false => exact ⟨0, rfl⟩
      | true =>
        dsimp only
        rw [if_pos (by omega), w64_pred (by omega) h0, natO_nat, Option.bind_some, get_some (show i - 1 < s.Entries.length by omega), Option.bind_some]
        unfold S_bytes_Compare S_internal_bytealg_Compare
        simp only [Option.bind_some]
        have hc := less_cmp s.Entries[i - 1].Addr s.Entries[i].Addr
        generalize Lib.compareBytes s.Entries[i - 1].Addr s.Entries[i].Addr = q at hc ⊢
        generalize Op.bytesLess s.Entries[i - 1].Addr s.Entries[i].Addr = b at hc ⊢
        refine ⟨z, ?_⟩
        cases b with
        | true =>
          rw [if_neg (by rw [hc]; exact fun h => h rfl)]
          cases kmapB s.Entries[i].Val <;> cases addrsB s.Entries[i].Deps <;> cases decide (1 <= s.Entries[i].Turned ∧ s.Entries[i].Turned <= s.Serial) <;> simp
        | false =>
          rw [if_pos (by rw [hc]; simp)]
          simp
    · obtain rfl : i = 0 := by omega
      rw [gOk_zero hil]
      unfold entB
      cases addrB s.Entries[0].Addr with
      | false => exact ⟨0, rfl⟩
      | true =>
        dsimp only
        rw [if_neg (by omega)]
        refine ⟨z, ?_⟩
        cases kmapB s.Entries[0].Val <;> cases addrsB s.Entries[0].Deps <;> cases decide (1 <= s.Entries[0].Turned ∧ s.Entries[0].Turned <= s.Serial) <;> simp
def S_impl_isState (a0 : GState) : Option Bool := if ssz a0 <= 2 ^ 20 then some (stB a0) else none
theorem implSt_eq {s : GState} (h : ssz s <= 2 ^ 20) : S_impl_isState s = some (stB s) := if_pos h
theorem isState_val {s : GState} (h : ssz s <= 2 ^ 20) : T_impl_isState (s.Entries.length + 1) s = some (stB s) := by
  have hlen := eszs_len s.Entries
  unfold ssz at h
  obtain ⟨z, hz⟩ := isState_loop (s := s) (by omega) s.Entries.length 0 (s.Entries.length + 1) (by omega) (by omega)
  rw [show ((0 : Nat) : Int) = 0 from rfl] at hz
  unfold T_impl_isState
  rw [in_eq, Option.bind_some]
  unfold stB
  by_cases h1 : (0 : Int) <= s.Serial ∧ s.Serial <= 1000000
  · rw [decide_eq_true h1]
    dsimp only
    by_cases h2 : (16 : Int) < ((s.Entries.length : Nat) : Int)
    · rw [if_pos h2, decide_eq_false (p := 0 <= s.Serial ∧ s.Serial <= 1000000 ∧ s.Entries.length <= 16) (by omega)]; rfl
    rw [if_neg h2, hz, decide_eq_true (p := 0 <= s.Serial ∧ s.Serial <= 1000000 ∧ s.Entries.length <= 16) (by omega), Bool.true_and]
    have he : entsB s = gAll (entB s.Serial) GEntry.Addr s.Entries 0 s.Entries.length := rfl
    cases hg : gAll (entB s.Serial) GEntry.Addr s.Entries 0 s.Entries.length with
    | false => rw [he, hg]; rfl
    | true =>
      rw [he, hg, Bool.true_and]
      simp only [if_true, Option.bind_some]
      unfold pendB
      by_cases hp : s.Pending = []
      · rw [if_pos (by rw [hp]; rfl), if_pos hp]
      · have hp0 : ¬ ((s.Pending.length : Nat) : Int) = 0 := fun e => hp (List.eq_nil_of_length_eq_zero (by omega))
        rw [if_neg hp0, if_neg hp]
        unfold S_impl_State_entryAt
        obtain ⟨c, _, hc⟩ := eat_eq (x := s.Pending) (a := s.Entries) (by omega) (gAll_asc hg)
        rw [hc, Option.bind_some, Option.bind_some]
        dsimp only
        rw [implAd_eq (by omega), Option.bind_some, in_eq, Option.bind_some]
        cases s.Open
        · rfl
        cases addrB s.Pending
        · rfl
        by_cases ha : (1 : Int) <= s.Act ∧ s.Act <= 4
        · rw [decide_eq_true ha]
          by_cases h1 : s.Act = 1 <;> cases hasB s.Entries s.Pending <;> simp [h1]
        · rw [decide_eq_false ha]; rfl
  · rw [decide_eq_false h1, decide_eq_false (p := 0 <= s.Serial ∧ s.Serial <= 1000000 ∧ s.Entries.length <= 16) (fun h => h1 ⟨h.1, h.2.1⟩)]; rfl
theorem spec_impl_isState (a0 : GState) (r : Bool) (h : S_impl_isState a0 = some r) : ∃ n, T_impl_isState n a0 = some r := by
  unfold S_impl_isState at h
  obtain ⟨ha, h⟩ := need_c h
  exact ⟨_, by rw [<- h]; exact isState_val ha⟩
theorem ok_impl_isState (a0 : GState) (r : Bool) (h : S_impl_isState a0 = some r) : (mach cfg).call 66 [] [.val true [.int .i64 a0.Serial, .bool a0.Open, .seq (eL e_u8 a0.Pending), .int .i64 a0.Act, .seq (eL e_GEntry a0.Entries)]] = some (.val false [.bool r], []) := by
  obtain ⟨n, hn⟩ := spec_impl_isState a0 r h
  exact g_impl_isState n a0 r hn
def S_impl_StateOk (a0 : GState) : Option Bool :=
  (S_impl_isState a0).bind fun r1 =>
  some r1
set_option maxRecDepth 100000 in
theorem fd_16 : cfg.funcs 16 = some (bodyOf Tryz.f16, Tryz.f16.ntmps, Tryz.f16.results.toList) := fn_of Tryz.func16 (by kernel_rfl) (by kernel_rfl)
theorem ok_impl_StateOk (a0 : GState) (r : Bool) (h : S_impl_StateOk a0 = some r) : (mach cfg).call 16 [] [.val true [.int .i64 a0.Serial, .bool a0.Open, .seq (eL e_u8 a0.Pending), .int .i64 a0.Act, .seq (eL e_GEntry a0.Entries)]] = some (.val false [.bool r], []) := by
  unfold S_impl_StateOk at h
  obtain ⟨r1, hr1, h⟩ := bs h
  obtain rfl := Option.some.inj h
  exact call_wQ [.cl (ok_impl_isState a0 _ hr1)] rfl fd_16 (by kernel_rfl)
def L_laws_eqByteS_l0 (a0 : (List UInt8)) (a1 : (List UInt8)) : Nat → Int → Option (Bool ⊕ Int)
  | 0, _ => none
  | m + 1, v2 =>
    if v2 < ((a0.length : Nat) : Int) then
      (natO v2).bind fun i2 =>
      (a0[i2]?).bind fun x3 =>
      (a1[i2]?).bind fun x4 =>
      if ((x3.toNat : Nat) : Int) = ((x4.toNat : Nat) : Int) then
        L_laws_eqByteS_l0 a0 a1 m (w64 (v2 + 1))
      else
        some (.inl false)
    else
      some (.inr v2)
theorem gl_laws_eqByteS_l0 (a0 : (List UInt8)) (a1 : (List UInt8)) (m : Nat) : ∀ (v2 : Int) (o : (Bool ⊕ Int)), L_laws_eqByteS_l0 a0 a1 m v2 = some o → (mach cfg).loop 27 (loopB Tryz.f27 0) ⟨[(0, .val false [.seq (eL e_u8 a0)]), (1, .val false [.seq (eL e_u8 a1)]), (5, .val false [.int .i64 v2])], [], 0⟩ = some (match o with | .inl o_0 => (.ret, (⟨[(4, .val false [.bool o_0])], [], 0⟩ : S)) | .inr (o_1) => (.exit 0, (⟨[(0, .val false [.seq (eL e_u8 a0)]), (1, .val false [.seq (eL e_u8 a1)]), (5, .val false [.int .i64 o_1]), (14, .val false [.bool false])], [], 0⟩ : S))) := by
  induction m with
  | zero => intro v2 o h; cases h
  | succ m ih =>
    intro v2 o h
    rw [L_laws_eqByteS_l0] at h
    rcases ite_some h with ⟨c1, h⟩ | ⟨c1, h⟩
    ·obtain ⟨i2, hi2, h⟩ := bs h
     obtain ⟨x3, hx3, h⟩ := bs h
     obtain ⟨x4, hx4, h⟩ := bs h
     rcases ite_some h with ⟨c5, h⟩ | ⟨c5, h⟩
     ·exact loop_nQ [.le e_u8 a0, .lT c1, .na hi2, .ix0 e_u8 hx3, .na hi2, .ix0 e_u8 hx4, .eT c5, .nt true, .ad v2 1] (by kernel_rfl) (ih (w64 (v2 + 1)) o h)
     ·obtain rfl := Option.some.inj h
      exact loop_eQ [.le e_u8 a0, .lT c1, .na hi2, .ix0 e_u8 hx3, .na hi2, .ix0 e_u8 hx4, .eF c5, .nt false] (by kernel_rfl) (by intro h; cases h)
    ·obtain rfl := Option.some.inj h
     exact loop_eQ [.le e_u8 a0, .lF c1] (by kernel_rfl) (by intro h; cases h)
def T_laws_eqByteS (n : Nat) (a0 : (List UInt8)) (a1 : (List UInt8)) : Option Bool :=
  if ((a0.length : Nat) : Int) = ((a1.length : Nat) : Int) then
    (L_laws_eqByteS_l0 a0 a1 n 0).bind fun o2 =>
    match o2 with
    | .inl o2_0 =>
      some o2_0
    | .inr (o2_1) =>
      some true
  else
    some false
set_option maxRecDepth 100000 in
theorem fd_27 : cfg.funcs 27 = some (bodyOf Tryz.f27, Tryz.f27.ntmps, Tryz.f27.results.toList) := fn_of Tryz.func27 (by kernel_rfl) (by kernel_rfl)
theorem g_laws_eqByteS (n : Nat) (a0 : (List UInt8)) (a1 : (List UInt8)) (r : Bool) (h : T_laws_eqByteS n a0 a1 = some r) : (mach cfg).call 27 [] [.val false [.seq (eL e_u8 a0)], .val false [.seq (eL e_u8 a1)]] = some (.val false [.bool r], []) := by
  unfold T_laws_eqByteS at h
  rcases ite_some h with ⟨c1, h⟩ | ⟨c1, h⟩
  ·obtain ⟨o2, ho2, h⟩ := bs h
   rcases o2 with o2_0 | o2_1
   · try dsimp only at h
     obtain rfl := Option.some.inj h
     exact call_wQ [.le e_u8 a0, .le e_u8 a1, .eT c1, .nt true, .lp (gl_laws_eqByteS_l0 a0 a1 _ 0 _ ho2)] rfl fd_27 (by kernel_rfl)
   · try dsimp only at h
     obtain rfl := Option.some.inj h
     exact call_wQ [.le e_u8 a0, .le e_u8 a1, .eT c1, .nt true, .lp (gl_laws_eqByteS_l0 a0 a1 _ 0 _ ho2)] rfl fd_27 (by kernel_rfl)
  ·obtain rfl := Option.some.inj h
   exact call_wQ [.le e_u8 a0, .le e_u8 a1, .eF c1, .nt false] rfl fd_27 (by kernel_rfl)
theorem eqByteS_loop {a : List UInt8} (ha : a.length <= 2 ^ 40) : ∀ (d i m : Nat), i + d = a.length → d < m → ∃ z, L_laws_eqByteS_l0 a a m (i : Int) = some (.inr z) := by
  intro d
  induction d with
  | zero =>
    intro i m hi hm
    obtain ⟨m, rfl, _⟩ := fuel hm
    exact ⟨_, by rw [L_laws_eqByteS_l0, if_neg (by omega)]⟩
  | succ d ih =>
    intro i m hi hm
    obtain ⟨m, rfl, hm'⟩ := fuel hm
    have hil : i < a.length := by omega
    rw [L_laws_eqByteS_l0, if_pos (by omega), natO_nat, Option.bind_some, get_some hil, Option.bind_some, Option.bind_some, if_pos rfl, w64_succ (by omega)]
    exact ih (i + 1) m (by omega) (by omega)
def S_laws_eqByteS (a0 : (List UInt8)) (a1 : (List UInt8)) : Option Bool := if a0 = a1 ∧ a0.length <= 2 ^ 40 then some true else none
theorem spec_laws_eqByteS (a0 : (List UInt8)) (a1 : (List UInt8)) (r : Bool) (h : S_laws_eqByteS a0 a1 = some r) : ∃ n, T_laws_eqByteS n a0 a1 = some r := by
  unfold S_laws_eqByteS at h
  obtain ⟨⟨he, ha⟩, h2⟩ := need_c h
  clear h
  subst he
  refine ⟨a0.length + 1, ?_⟩
  obtain ⟨z, hz⟩ := eqByteS_loop ha a0.length 0 (a0.length + 1) (by omega) (by omega)
  rw [show ((0 : Nat) : Int) = 0 from rfl] at hz
  unfold T_laws_eqByteS
  rw [if_pos rfl, hz]; exact h2
theorem ok_laws_eqByteS (a0 : (List UInt8)) (a1 : (List UInt8)) (r : Bool) (h : S_laws_eqByteS a0 a1 = some r) : (mach cfg).call 27 [] [.val false [.seq (eL e_u8 a0)], .val false [.seq (eL e_u8 a1)]] = some (.val false [.bool r], []) := by
  obtain ⟨n, hn⟩ := spec_laws_eqByteS a0 a1 r h
  exact g_laws_eqByteS n a0 a1 r hn
def L_laws_eqByteSS_l0 (a0 : (List (List UInt8))) (a1 : (List (List UInt8))) : Nat → Int → Option (Bool ⊕ Int)
  | 0, _ => none
  | m + 1, v2 =>
    if v2 < ((a0.length : Nat) : Int) then
      (natO v2).bind fun i2 =>
      (a0[i2]?).bind fun x3 =>
      (a1[i2]?).bind fun x4 =>
      (S_laws_eqByteS x3 x4).bind fun r5 =>
      match r5 with
      | true =>
        L_laws_eqByteSS_l0 a0 a1 m (w64 (v2 + 1))
      | false =>
        some (.inl false)
    else
      some (.inr v2)
theorem gl_laws_eqByteSS_l0 (a0 : (List (List UInt8))) (a1 : (List (List UInt8))) (m : Nat) : ∀ (v2 : Int) (o : (Bool ⊕ Int)), L_laws_eqByteSS_l0 a0 a1 m v2 = some o → (mach cfg).loop 20 (loopB Tryz.f20 0) ⟨[(0, .val false [.seq (eL (e_sl e_u8) a0)]), (1, .val false [.seq (eL (e_sl e_u8) a1)]), (5, .val false [.int .i64 v2])], [], 0⟩ = some (match o with | .inl o_0 => (.ret, (⟨[(4, .val false [.bool o_0])], [], 0⟩ : S)) | .inr (o_1) => (.exit 0, (⟨[(0, .val false [.seq (eL (e_sl e_u8) a0)]), (1, .val false [.seq (eL (e_sl e_u8) a1)]), (5, .val false [.int .i64 o_1]), (14, .val false [.bool false])], [], 0⟩ : S))) := by
  induction m with
  | zero => intro v2 o h; cases h
  | succ m ih =>
    intro v2 o h
    rw [L_laws_eqByteSS_l0] at h
    rcases ite_some h with ⟨c1, h⟩ | ⟨c1, h⟩
    ·obtain ⟨i2, hi2, h⟩ := bs h
     obtain ⟨x3, hx3, h⟩ := bs h
     obtain ⟨x4, hx4, h⟩ := bs h
     obtain ⟨r5, hr5, h⟩ := bs h
     cases r5 with
     | true =>
      try dsimp only at h
      exact loop_nQ [.le (e_sl e_u8) a0, .lT c1, .na hi2, .ix0 (e_sl e_u8) hx3, .na hi2, .ix0 (e_sl e_u8) hx4, .cl (ok_laws_eqByteS x3 x4 _ hr5), .nt true, .ad v2 1] (by kernel_rfl) (ih (w64 (v2 + 1)) o h)
     | false =>
      try dsimp only at h
      obtain rfl := Option.some.inj h
      exact loop_eQ [.le (e_sl e_u8) a0, .lT c1, .na hi2, .ix0 (e_sl e_u8) hx3, .na hi2, .ix0 (e_sl e_u8) hx4, .cl (ok_laws_eqByteS x3 x4 _ hr5), .nt false] (by kernel_rfl) (by intro h; cases h)
    ·obtain rfl := Option.some.inj h
     exact loop_eQ [.le (e_sl e_u8) a0, .lF c1] (by kernel_rfl) (by intro h; cases h)
def T_laws_eqByteSS (n : Nat) (a0 : (List (List UInt8))) (a1 : (List (List UInt8))) : Option Bool :=
  if ((a0.length : Nat) : Int) = ((a1.length : Nat) : Int) then
    (L_laws_eqByteSS_l0 a0 a1 n 0).bind fun o2 =>
    match o2 with
    | .inl o2_0 =>
      some o2_0
    | .inr (o2_1) =>
      some true
  else
    some false
set_option maxRecDepth 100000 in
theorem fd_20 : cfg.funcs 20 = some (bodyOf Tryz.f20, Tryz.f20.ntmps, Tryz.f20.results.toList) := fn_of Tryz.func20 (by kernel_rfl) (by kernel_rfl)
theorem g_laws_eqByteSS (n : Nat) (a0 : (List (List UInt8))) (a1 : (List (List UInt8))) (r : Bool) (h : T_laws_eqByteSS n a0 a1 = some r) : (mach cfg).call 20 [] [.val false [.seq (eL (e_sl e_u8) a0)], .val false [.seq (eL (e_sl e_u8) a1)]] = some (.val false [.bool r], []) := by
  unfold T_laws_eqByteSS at h
  rcases ite_some h with ⟨c1, h⟩ | ⟨c1, h⟩
  ·obtain ⟨o2, ho2, h⟩ := bs h
   rcases o2 with o2_0 | o2_1
   · try dsimp only at h
     obtain rfl := Option.some.inj h
     exact call_wQ [.le (e_sl e_u8) a0, .le (e_sl e_u8) a1, .eT c1, .nt true, .lp (gl_laws_eqByteSS_l0 a0 a1 _ 0 _ ho2)] rfl fd_20 (by kernel_rfl)
   · try dsimp only at h
     obtain rfl := Option.some.inj h
     exact call_wQ [.le (e_sl e_u8) a0, .le (e_sl e_u8) a1, .eT c1, .nt true, .lp (gl_laws_eqByteSS_l0 a0 a1 _ 0 _ ho2)] rfl fd_20 (by kernel_rfl)
  ·obtain rfl := Option.some.inj h
   exact call_wQ [.le (e_sl e_u8) a0, .le (e_sl e_u8) a1, .eF c1, .nt false] rfl fd_20 (by kernel_rfl)
theorem eqByteSS_loop {a : List (List UInt8)} (ha : bsz a <= 2 ^ 40) : ∀ (d i m : Nat), i + d = a.length → d < m → ∃ z, L_laws_eqByteSS_l0 a a m (i : Int) = some (.inr z) := by
  have hl := bsz_len a
  intro d
  induction d with
  | zero =>
    intro i m hi hm
    obtain ⟨m, rfl, _⟩ := fuel hm
    exact ⟨_, by rw [L_laws_eqByteSS_l0, if_neg (by omega)]⟩
  | succ d ih =>
    intro i m hi hm
    obtain ⟨m, rfl, hm'⟩ := fuel hm
    have hil : i < a.length := by omega
    have hx := bsz_mem (List.getElem_mem hil)
    rw [L_laws_eqByteSS_l0, if_pos (by omega), natO_nat, Option.bind_some, get_some hil, Option.bind_some, Option.bind_some]
    unfold S_laws_eqByteS
    rw [if_pos ⟨rfl, by omega⟩, Option.bind_some, w64_succ (by omega)]
    exact ih (i + 1) m (by omega) (by omega)
def S_laws_eqByteSS (a0 : (List (List UInt8))) (a1 : (List (List UInt8))) : Option Bool := if a0 = a1 ∧ bsz a0 <= 2 ^ 40 then some true else none
theorem spec_laws_eqByteSS (a0 : (List (List UInt8))) (a1 : (List (List UInt8))) (r : Bool) (h : S_laws_eqByteSS a0 a1 = some r) : ∃ n, T_laws_eqByteSS n a0 a1 = some r := by
  unfold S_laws_eqByteSS at h
  obtain ⟨⟨he, ha⟩, h2⟩ := need_c h
  clear h
  subst he
  have hl := bsz_len a0
  refine ⟨a0.length + 1, ?_⟩
  obtain ⟨z, hz⟩ := eqByteSS_loop ha a0.length 0 (a0.length + 1) (by omega) (by omega)
  rw [show ((0 : Nat) : Int) = 0 from rfl] at hz
  unfold T_laws_eqByteSS
  rw [if_pos rfl, hz]; exact h2
theorem ok_laws_eqByteSS (a0 : (List (List UInt8))) (a1 : (List (List UInt8))) (r : Bool) (h : S_laws_eqByteSS a0 a1 = some r) : (mach cfg).call 20 [] [.val false [.seq (eL (e_sl e_u8) a0)], .val false [.seq (eL (e_sl e_u8) a1)]] = some (.val false [.bool r], []) := by
  obtain ⟨n, hn⟩ := spec_laws_eqByteSS a0 a1 r h
  exact g_laws_eqByteSS n a0 a1 r hn
def L_laws_eqValueS_l0 (G_laws_eqValue : GValue → GValue → Option Bool) (a0 : (List GValue)) (a1 : (List GValue)) : Nat → Int → Option (Bool ⊕ Int)
  | 0, _ => none
  | m + 1, v2 =>
    if v2 < ((a0.length : Nat) : Int) then
      (natO v2).bind fun i2 =>
      (a0[i2]?).bind fun x3 =>
      (a1[i2]?).bind fun x4 =>
      (G_laws_eqValue x3 x4).bind fun r5 =>
      match r5 with
      | true =>
        L_laws_eqValueS_l0 G_laws_eqValue a0 a1 m (w64 (v2 + 1))
      | false =>
        some (.inl false)
    else
      some (.inr v2)
theorem gl_laws_eqValueS_l0 (G_laws_eqValue : GValue → GValue → Option Bool) (H_laws_eqValue : ∀ (a0 : GValue) (a1 : GValue) (r : Bool), G_laws_eqValue a0 a1 = some r → (mach cfg).call 76 [] [.val true [.int .i64 a0.Kind, .int .i64 a0.N, .seq (eL e_u8 a0.S), .seq (eL (e_sl e_u8) a0.K), .seq (eL e_GValue a0.L)], .val true [.int .i64 a1.Kind, .int .i64 a1.N, .seq (eL e_u8 a1.S), .seq (eL (e_sl e_u8) a1.K), .seq (eL e_GValue a1.L)]] = some (.val false [.bool r], [])) (a0 : (List GValue)) (a1 : (List GValue)) (m : Nat) : ∀ (v2 : Int) (o : (Bool ⊕ Int)), L_laws_eqValueS_l0 G_laws_eqValue a0 a1 m v2 = some o → (mach cfg).loop 121 (loopB Tryz.f121 0) ⟨[(0, .val false [.seq (eL e_GValue a0)]), (1, .val false [.seq (eL e_GValue a1)]), (5, .val false [.int .i64 v2])], [], 0⟩ = some (match o with | .inl o_0 => (.ret, (⟨[(4, .val false [.bool o_0])], [], 0⟩ : S)) | .inr (o_1) => (.exit 0, (⟨[(0, .val false [.seq (eL e_GValue a0)]), (1, .val false [.seq (eL e_GValue a1)]), (5, .val false [.int .i64 o_1]), (14, .val false [.bool false])], [], 0⟩ : S))) := by
  induction m with
  | zero => intro v2 o h; cases h
  | succ m ih =>
    intro v2 o h
    rw [L_laws_eqValueS_l0] at h
    rcases ite_some h with ⟨c1, h⟩ | ⟨c1, h⟩
    ·obtain ⟨i2, hi2, h⟩ := bs h
     obtain ⟨x3, hx3, h⟩ := bs h
     obtain ⟨x4, hx4, h⟩ := bs h
     obtain ⟨r5, hr5, h⟩ := bs h
     cases r5 with
     | true =>
      try dsimp only at h
      exact loop_nQ [.le e_GValue a0, .lT c1, .na hi2, .ix hx3 (eq_GValue x3), .na hi2, .ix hx4 (eq_GValue x4), .cl (H_laws_eqValue x3 x4 _ hr5), .nt true, .ad v2 1] (by kernel_rfl) (ih (w64 (v2 + 1)) o h)
     | false =>
      try dsimp only at h
      obtain rfl := Option.some.inj h
      exact loop_eQ [.le e_GValue a0, .lT c1, .na hi2, .ix hx3 (eq_GValue x3), .na hi2, .ix hx4 (eq_GValue x4), .cl (H_laws_eqValue x3 x4 _ hr5), .nt false] (by kernel_rfl) (by intro h; cases h)
    ·obtain rfl := Option.some.inj h
     exact loop_eQ [.le e_GValue a0, .lF c1] (by kernel_rfl) (by intro h; cases h)
def T_laws_eqValueS (G_laws_eqValue : GValue → GValue → Option Bool) (n : Nat) (a0 : (List GValue)) (a1 : (List GValue)) : Option Bool :=
  if ((a0.length : Nat) : Int) = ((a1.length : Nat) : Int) then
    (L_laws_eqValueS_l0 G_laws_eqValue a0 a1 n 0).bind fun o2 =>
    match o2 with
    | .inl o2_0 =>
      some o2_0
    | .inr (o2_1) =>
      some true
  else
    some false
set_option maxRecDepth 100000 in
theorem fd_121 : cfg.funcs 121 = some (bodyOf Tryz.f121, Tryz.f121.ntmps, Tryz.f121.results.toList) := fn_of Tryz.func121 (by kernel_rfl) (by kernel_rfl)
theorem g_laws_eqValueS (G_laws_eqValue : GValue → GValue → Option Bool) (H_laws_eqValue : ∀ (a0 : GValue) (a1 : GValue) (r : Bool), G_laws_eqValue a0 a1 = some r → (mach cfg).call 76 [] [.val true [.int .i64 a0.Kind, .int .i64 a0.N, .seq (eL e_u8 a0.S), .seq (eL (e_sl e_u8) a0.K), .seq (eL e_GValue a0.L)], .val true [.int .i64 a1.Kind, .int .i64 a1.N, .seq (eL e_u8 a1.S), .seq (eL (e_sl e_u8) a1.K), .seq (eL e_GValue a1.L)]] = some (.val false [.bool r], [])) (n : Nat) (a0 : (List GValue)) (a1 : (List GValue)) (r : Bool) (h : T_laws_eqValueS G_laws_eqValue n a0 a1 = some r) : (mach cfg).call 121 [] [.val false [.seq (eL e_GValue a0)], .val false [.seq (eL e_GValue a1)]] = some (.val false [.bool r], []) := by
  unfold T_laws_eqValueS at h
  rcases ite_some h with ⟨c1, h⟩ | ⟨c1, h⟩
  ·obtain ⟨o2, ho2, h⟩ := bs h
   rcases o2 with o2_0 | o2_1
   · try dsimp only at h
     obtain rfl := Option.some.inj h
     exact call_wQ [.le e_GValue a0, .le e_GValue a1, .eT c1, .nt true, .lp (gl_laws_eqValueS_l0 G_laws_eqValue H_laws_eqValue a0 a1 _ 0 _ ho2)] rfl fd_121 (by kernel_rfl)
   · try dsimp only at h
     obtain rfl := Option.some.inj h
     exact call_wQ [.le e_GValue a0, .le e_GValue a1, .eT c1, .nt true, .lp (gl_laws_eqValueS_l0 G_laws_eqValue H_laws_eqValue a0 a1 _ 0 _ ho2)] rfl fd_121 (by kernel_rfl)
  ·obtain rfl := Option.some.inj h
   exact call_wQ [.le e_GValue a0, .le e_GValue a1, .eF c1, .nt false] rfl fd_121 (by kernel_rfl)
def T_laws_eqValue (G_laws_eqValueS : (List GValue) → (List GValue) → Option Bool) (a0 : GValue) (a1 : GValue) : Option Bool :=
  if a0.Kind = a1.Kind then
    if a0.N = a1.N then
      (S_laws_eqByteS a0.S a1.S).bind fun r3 =>
      match r3 with
      | true =>
        (S_laws_eqByteSS a0.K a1.K).bind fun r5 =>
        match r5 with
        | true =>
          (G_laws_eqValueS a0.L a1.L).bind fun r7 =>
          match r7 with
          | true =>
            some true
          | false =>
            some false
        | false =>
          some false
      | false =>
        some false
    else
      some false
  else
    some false
set_option maxRecDepth 100000 in
theorem fd_76 : cfg.funcs 76 = some (bodyOf Tryz.f76, Tryz.f76.ntmps, Tryz.f76.results.toList) := fn_of Tryz.func76 (by kernel_rfl) (by kernel_rfl)
theorem g_laws_eqValue (G_laws_eqValueS : (List GValue) → (List GValue) → Option Bool) (H_laws_eqValueS : ∀ (a0 : (List GValue)) (a1 : (List GValue)) (r : Bool), G_laws_eqValueS a0 a1 = some r → (mach cfg).call 121 [] [.val false [.seq (eL e_GValue a0)], .val false [.seq (eL e_GValue a1)]] = some (.val false [.bool r], [])) (a0 : GValue) (a1 : GValue) (r : Bool) (h : T_laws_eqValue G_laws_eqValueS a0 a1 = some r) : (mach cfg).call 76 [] [.val true [.int .i64 a0.Kind, .int .i64 a0.N, .seq (eL e_u8 a0.S), .seq (eL (e_sl e_u8) a0.K), .seq (eL e_GValue a0.L)], .val true [.int .i64 a1.Kind, .int .i64 a1.N, .seq (eL e_u8 a1.S), .seq (eL (e_sl e_u8) a1.K), .seq (eL e_GValue a1.L)]] = some (.val false [.bool r], []) := by
  unfold T_laws_eqValue at h
  rcases ite_some h with ⟨c1, h⟩ | ⟨c1, h⟩
  ·rcases ite_some h with ⟨c2, h⟩ | ⟨c2, h⟩
   ·obtain ⟨r3, hr3, h⟩ := bs h
    cases r3 with
    | true =>
     try dsimp only at h
     obtain ⟨r5, hr5, h⟩ := bs h
     cases r5 with
     | true =>
      try dsimp only at h
      obtain ⟨r7, hr7, h⟩ := bs h
      cases r7 with
      | true =>
       try dsimp only at h
       obtain rfl := Option.some.inj h
       exact call_wQ [.eT c1, .nt true, .eT c2, .nt true, .cl (ok_laws_eqByteS a0.S a1.S _ hr3), .nt true, .cl (ok_laws_eqByteSS a0.K a1.K _ hr5), .nt true, .cl (H_laws_eqValueS a0.L a1.L _ hr7), .nt true] rfl fd_76 (by kernel_rfl)
      | false =>
       try dsimp only at h
       obtain rfl := Option.some.inj h
       exact call_wQ [.eT c1, .nt true, .eT c2, .nt true, .cl (ok_laws_eqByteS a0.S a1.S _ hr3), .nt true, .cl (ok_laws_eqByteSS a0.K a1.K _ hr5), .nt true, .cl (H_laws_eqValueS a0.L a1.L _ hr7), .nt false] rfl fd_76 (by kernel_rfl)
     | false =>
      try dsimp only at h
      obtain rfl := Option.some.inj h
      exact call_wQ [.eT c1, .nt true, .eT c2, .nt true, .cl (ok_laws_eqByteS a0.S a1.S _ hr3), .nt true, .cl (ok_laws_eqByteSS a0.K a1.K _ hr5), .nt false] rfl fd_76 (by kernel_rfl)
    | false =>
     try dsimp only at h
     obtain rfl := Option.some.inj h
     exact call_wQ [.eT c1, .nt true, .eT c2, .nt true, .cl (ok_laws_eqByteS a0.S a1.S _ hr3), .nt false] rfl fd_76 (by kernel_rfl)
   ·obtain rfl := Option.some.inj h
    exact call_wQ [.eT c1, .nt true, .eF c2, .nt false] rfl fd_76 (by kernel_rfl)
  ·obtain rfl := Option.some.inj h
   exact call_wQ [.eF c1, .nt false] rfl fd_76 (by kernel_rfl)
mutual
def U_laws_eqValueS : Nat → (List GValue) → (List GValue) → Option Bool
  | 0, _, _ => none
  | n + 1, a0, a1 => T_laws_eqValueS (U_laws_eqValue n) n a0 a1
def U_laws_eqValue : Nat → GValue → GValue → Option Bool
  | 0, _, _ => none
  | n + 1, a0, a1 => T_laws_eqValue (U_laws_eqValueS n) a0 a1
end
theorem rec_laws_eqValueS (n : Nat) : (∀ (a0 : (List GValue)) (a1 : (List GValue)) (r : Bool), U_laws_eqValueS n a0 a1 = some r → (mach cfg).call 121 [] [.val false [.seq (eL e_GValue a0)], .val false [.seq (eL e_GValue a1)]] = some (.val false [.bool r], [])) ∧ (∀ (a0 : GValue) (a1 : GValue) (r : Bool), U_laws_eqValue n a0 a1 = some r → (mach cfg).call 76 [] [.val true [.int .i64 a0.Kind, .int .i64 a0.N, .seq (eL e_u8 a0.S), .seq (eL (e_sl e_u8) a0.K), .seq (eL e_GValue a0.L)], .val true [.int .i64 a1.Kind, .int .i64 a1.N, .seq (eL e_u8 a1.S), .seq (eL (e_sl e_u8) a1.K), .seq (eL e_GValue a1.L)]] = some (.val false [.bool r], [])) := by
  induction n with
  | zero => exact ⟨fun _ _ _ h => (by rw [U_laws_eqValueS] at h; cases h), fun _ _ _ h => (by rw [U_laws_eqValue] at h; cases h)⟩
  | succ n ih =>
    obtain ⟨ih_laws_eqValueS, ih_laws_eqValue⟩ := ih
    exact ⟨fun a0 a1 r h => g_laws_eqValueS (U_laws_eqValue n) ih_laws_eqValue n a0 a1 r (by rw [U_laws_eqValueS] at h; exact h),
      fun a0 a1 r h => g_laws_eqValue (U_laws_eqValueS n) ih_laws_eqValueS a0 a1 r (by rw [U_laws_eqValue] at h; exact h)⟩
theorem eqValueS_T {G : GValue → GValue → Option Bool} {a : List GValue} {f : Nat} (ha : a.length <= 2 ^ 40) (hf : a.length < f) (hG : ∀ v ∈ a, G v v = some true) : T_laws_eqValueS G f a a = some true := by
  have loop : ∀ (d i m : Nat), i + d = a.length → d < m → ∃ z, L_laws_eqValueS_l0 G a a m (i : Int) = some (.inr z) := by
    intro d
    induction d with
    | zero =>
      intro i m hi hm
      obtain ⟨m, rfl, _⟩ := fuel hm
      exact ⟨_, by rw [L_laws_eqValueS_l0, if_neg (by omega)]⟩
    | succ d ih =>
      intro i m hi hm
      obtain ⟨m, rfl, hm'⟩ := fuel hm
      have hil : i < a.length := by omega
      rw [L_laws_eqValueS_l0, if_pos (by omega), natO_nat, Option.bind_some, get_some hil, Option.bind_some, Option.bind_some, hG _ (List.getElem_mem hil), Option.bind_some, w64_succ (by omega)]
      exact ih (i + 1) m (by omega) (by omega)
  obtain ⟨z, hz⟩ := loop a.length 0 f (by omega) (by omega)
  rw [show ((0 : Nat) : Int) = 0 from rfl] at hz
  unfold T_laws_eqValueS
  rw [if_pos rfl, hz]; rfl
theorem eqValue_U : ∀ (N : Nat) (v : GValue), vsz v < N → vsz v <= 2 ^ 40 → ∀ f : Nat, 2 * vsz v + 3 <= f → U_laws_eqValue f v v = some true := by
  intro N
  induction N with
  | zero => intro v hv; omega
  | succ N ih =>
    intro v hv hs f hf
    obtain ⟨f, rfl, _⟩ := fuel (show 0 < f by omega)
    obtain ⟨f, rfl, _⟩ := fuel (show 0 < f by omega)
    have he := vsz_eq v
    have hl := vszs_len v.L
    rw [U_laws_eqValue]
    unfold T_laws_eqValue S_laws_eqByteS S_laws_eqByteSS
    rw [if_pos rfl, if_pos rfl, if_pos (show v.S = v.S ∧ v.S.length <= 2 ^ 40 from ⟨rfl, by omega⟩), Option.bind_some]
    dsimp only
    rw [if_pos (show v.K = v.K ∧ bsz v.K <= 2 ^ 40 from ⟨rfl, by omega⟩), Option.bind_some]
    dsimp only
    rw [U_laws_eqValueS, eqValueS_T (by omega) (by omega) fun x hx => ?_]
    · rfl
    · have := vszs_mem hx
      exact ih x (by omega) (by omega) f (by omega)
open Classical in
noncomputable def S_laws_eqValueS (a0 : (List GValue)) (a1 : (List GValue)) : Option Bool := if a0 = a1 ∧ vszs a0 <= 2 ^ 40 then some true else none
theorem spec_laws_eqValueS (a0 : (List GValue)) (a1 : (List GValue)) (r : Bool) (h : S_laws_eqValueS a0 a1 = some r) : ∃ n, U_laws_eqValueS n a0 a1 = some r := by
  unfold S_laws_eqValueS at h
  obtain ⟨⟨he, ha⟩, h2⟩ := need_c h
  clear h
  subst he
  have hl := vszs_len a0
  refine ⟨2 * vszs a0 + 5, ?_⟩
  rw [U_laws_eqValueS, eqValueS_T (by omega) (by omega) fun x hx => ?_, h2]
  have := vszs_mem hx
  exact eqValue_U _ x (Nat.lt_succ_self _) (by omega) _ (by omega)
open Classical in
noncomputable def S_laws_eqValue (a0 : GValue) (a1 : GValue) : Option Bool := if a0 = a1 ∧ vsz a0 <= 2 ^ 40 then some true else none
theorem spec_laws_eqValue (a0 : GValue) (a1 : GValue) (r : Bool) (h : S_laws_eqValue a0 a1 = some r) : ∃ n, U_laws_eqValue n a0 a1 = some r := by
  unfold S_laws_eqValue at h
  obtain ⟨⟨he, ha⟩, h2⟩ := need_c h
  clear h
  subst he
  exact ⟨2 * vsz a0 + 3, by rw [<- h2]; exact eqValue_U _ a0 (Nat.lt_succ_self _) ha _ (Nat.le_refl _)⟩
theorem ok_laws_eqValueS (a0 : (List GValue)) (a1 : (List GValue)) (r : Bool) (h : S_laws_eqValueS a0 a1 = some r) : (mach cfg).call 121 [] [.val false [.seq (eL e_GValue a0)], .val false [.seq (eL e_GValue a1)]] = some (.val false [.bool r], []) := by
  obtain ⟨n, hn⟩ := spec_laws_eqValueS a0 a1 r h
  exact (rec_laws_eqValueS n).1 a0 a1 r hn
theorem ok_laws_eqValue (a0 : GValue) (a1 : GValue) (r : Bool) (h : S_laws_eqValue a0 a1 = some r) : (mach cfg).call 76 [] [.val true [.int .i64 a0.Kind, .int .i64 a0.N, .seq (eL e_u8 a0.S), .seq (eL (e_sl e_u8) a0.K), .seq (eL e_GValue a0.L)], .val true [.int .i64 a1.Kind, .int .i64 a1.N, .seq (eL e_u8 a1.S), .seq (eL (e_sl e_u8) a1.K), .seq (eL e_GValue a1.L)]] = some (.val false [.bool r], []) := by
  obtain ⟨n, hn⟩ := spec_laws_eqValue a0 a1 r h
  exact (rec_laws_eqValueS n).2 a0 a1 r hn
def S_laws_eqEntry (a0 : GEntry) (a1 : GEntry) : Option Bool :=
  (S_laws_eqByteS a0.Addr a1.Addr).bind fun r1 =>
  match r1 with
  | true =>
    (S_laws_eqValue a0.Val a1.Val).bind fun r3 =>
    match r3 with
    | true =>
      (S_laws_eqByteSS a0.Deps a1.Deps).bind fun r5 =>
      match r5 with
      | true =>
        match a0.Taint with
        | true =>
          match a1.Taint with
          | true =>
            if a0.Turned = a1.Turned then
              some true
            else
              some false
          | false =>
            some false
        | false =>
          match a1.Taint with
          | true =>
            some false
          | false =>
            if a0.Turned = a1.Turned then
              some true
            else
              some false
      | false =>
        some false
    | false =>
      some false
  | false =>
    some false
set_option maxRecDepth 100000 in
theorem fd_31 : cfg.funcs 31 = some (bodyOf Tryz.f31, Tryz.f31.ntmps, Tryz.f31.results.toList) := fn_of Tryz.func31 (by kernel_rfl) (by kernel_rfl)
theorem ok_laws_eqEntry (a0 : GEntry) (a1 : GEntry) (r : Bool) (h : S_laws_eqEntry a0 a1 = some r) : (mach cfg).call 31 [] [.val true [.seq (eL e_u8 a0.Addr), .int .i64 a0.Val.Kind, .int .i64 a0.Val.N, .seq (eL e_u8 a0.Val.S), .seq (eL (e_sl e_u8) a0.Val.K), .seq (eL e_GValue a0.Val.L), .seq (eL (e_sl e_u8) a0.Deps), .bool a0.Taint, .int .i64 a0.Turned], .val true [.seq (eL e_u8 a1.Addr), .int .i64 a1.Val.Kind, .int .i64 a1.Val.N, .seq (eL e_u8 a1.Val.S), .seq (eL (e_sl e_u8) a1.Val.K), .seq (eL e_GValue a1.Val.L), .seq (eL (e_sl e_u8) a1.Deps), .bool a1.Taint, .int .i64 a1.Turned]] = some (.val false [.bool r], []) := by
  unfold S_laws_eqEntry at h
  obtain ⟨r1, hr1, h⟩ := bs h
  cases r1 with
  | true =>
   try dsimp only at h
   obtain ⟨r3, hr3, h⟩ := bs h
   cases r3 with
   | true =>
    try dsimp only at h
    obtain ⟨r5, hr5, h⟩ := bs h
    cases r5 with
    | true =>
     try dsimp only at h
     cases c7 : a0.Taint with
     | true =>
      rw [c7] at h
      try dsimp only at h
      cases c8 : a1.Taint with
      | true =>
       rw [c8] at h
       try dsimp only at h
       rcases ite_some h with ⟨c9, h⟩ | ⟨c9, h⟩
       ·obtain rfl := Option.some.inj h
        exact call_wQ [.cl (ok_laws_eqByteS a0.Addr a1.Addr _ hr1), .nt true, .cl (ok_laws_eqValue a0.Val a1.Val _ hr3), .nt true, .cl (ok_laws_eqByteSS a0.Deps a1.Deps _ hr5), .nt true, ⟨.eqB true true, .b true, rfl⟩, .nt true, .eT c9, .nt true] rfl fd_31 (by kernel_rfl)
       ·obtain rfl := Option.some.inj h
        exact call_wQ [.cl (ok_laws_eqByteS a0.Addr a1.Addr _ hr1), .nt true, .cl (ok_laws_eqValue a0.Val a1.Val _ hr3), .nt true, .cl (ok_laws_eqByteSS a0.Deps a1.Deps _ hr5), .nt true, ⟨.eqB true true, .b true, rfl⟩, .nt true, .eF c9, .nt false] rfl fd_31 (by kernel_rfl)
      | false =>
       rw [c8] at h
       try dsimp only at h
       obtain rfl := Option.some.inj h
       exact call_wQ [.cl (ok_laws_eqByteS a0.Addr a1.Addr _ hr1), .nt true, .cl (ok_laws_eqValue a0.Val a1.Val _ hr3), .nt true, .cl (ok_laws_eqByteSS a0.Deps a1.Deps _ hr5), .nt true, ⟨.eqB true false, .b false, rfl⟩, .nt false] rfl fd_31 (by kernel_rfl)
     | false =>
      rw [c7] at h
      try dsimp only at h
      cases c8 : a1.Taint with
      | true =>
       rw [c8] at h
       try dsimp only at h
       obtain rfl := Option.some.inj h
       exact call_wQ [.cl (ok_laws_eqByteS a0.Addr a1.Addr _ hr1), .nt true, .cl (ok_laws_eqValue a0.Val a1.Val _ hr3), .nt true, .cl (ok_laws_eqByteSS a0.Deps a1.Deps _ hr5), .nt true, ⟨.eqB false true, .b false, rfl⟩, .nt false] rfl fd_31 (by kernel_rfl)
      | false =>
       rw [c8] at h
       try dsimp only at h
       rcases ite_some h with ⟨c9, h⟩ | ⟨c9, h⟩
       ·obtain rfl := Option.some.inj h
        exact call_wQ [.cl (ok_laws_eqByteS a0.Addr a1.Addr _ hr1), .nt true, .cl (ok_laws_eqValue a0.Val a1.Val _ hr3), .nt true, .cl (ok_laws_eqByteSS a0.Deps a1.Deps _ hr5), .nt true, ⟨.eqB false false, .b true, rfl⟩, .nt true, .eT c9, .nt true] rfl fd_31 (by kernel_rfl)
       ·obtain rfl := Option.some.inj h
        exact call_wQ [.cl (ok_laws_eqByteS a0.Addr a1.Addr _ hr1), .nt true, .cl (ok_laws_eqValue a0.Val a1.Val _ hr3), .nt true, .cl (ok_laws_eqByteSS a0.Deps a1.Deps _ hr5), .nt true, ⟨.eqB false false, .b true, rfl⟩, .nt true, .eF c9, .nt false] rfl fd_31 (by kernel_rfl)
    | false =>
     try dsimp only at h
     obtain rfl := Option.some.inj h
     exact call_wQ [.cl (ok_laws_eqByteS a0.Addr a1.Addr _ hr1), .nt true, .cl (ok_laws_eqValue a0.Val a1.Val _ hr3), .nt true, .cl (ok_laws_eqByteSS a0.Deps a1.Deps _ hr5), .nt false] rfl fd_31 (by kernel_rfl)
   | false =>
    try dsimp only at h
    obtain rfl := Option.some.inj h
    exact call_wQ [.cl (ok_laws_eqByteS a0.Addr a1.Addr _ hr1), .nt true, .cl (ok_laws_eqValue a0.Val a1.Val _ hr3), .nt false] rfl fd_31 (by kernel_rfl)
  | false =>
   try dsimp only at h
   obtain rfl := Option.some.inj h
   exact call_wQ [.cl (ok_laws_eqByteS a0.Addr a1.Addr _ hr1), .nt false] rfl fd_31 (by kernel_rfl)
def L_laws_eqEntryS_l0 (a0 : (List GEntry)) (a1 : (List GEntry)) : Nat → Int → Option (Bool ⊕ Int)
  | 0, _ => none
  | m + 1, v2 =>
    if v2 < ((a0.length : Nat) : Int) then
      (natO v2).bind fun i2 =>
      (a0[i2]?).bind fun x3 =>
      (a1[i2]?).bind fun x4 =>
      (S_laws_eqEntry x3 x4).bind fun r5 =>
      match r5 with
      | true =>
        L_laws_eqEntryS_l0 a0 a1 m (w64 (v2 + 1))
      | false =>
        some (.inl false)
    else
      some (.inr v2)
theorem gl_laws_eqEntryS_l0 (a0 : (List GEntry)) (a1 : (List GEntry)) (m : Nat) : ∀ (v2 : Int) (o : (Bool ⊕ Int)), L_laws_eqEntryS_l0 a0 a1 m v2 = some o → (mach cfg).loop 67 (loopB Tryz.f67 0) ⟨[(0, .val false [.seq (eL e_GEntry a0)]), (1, .val false [.seq (eL e_GEntry a1)]), (5, .val false [.int .i64 v2])], [], 0⟩ = some (match o with | .inl o_0 => (.ret, (⟨[(4, .val false [.bool o_0])], [], 0⟩ : S)) | .inr (o_1) => (.exit 0, (⟨[(0, .val false [.seq (eL e_GEntry a0)]), (1, .val false [.seq (eL e_GEntry a1)]), (5, .val false [.int .i64 o_1]), (14, .val false [.bool false])], [], 0⟩ : S))) := by
  induction m with
  | zero => intro v2 o h; cases h
  | succ m ih =>
    intro v2 o h
    rw [L_laws_eqEntryS_l0] at h
    rcases ite_some h with ⟨c1, h⟩ | ⟨c1, h⟩
    ·obtain ⟨i2, hi2, h⟩ := bs h
     obtain ⟨x3, hx3, h⟩ := bs h
     obtain ⟨x4, hx4, h⟩ := bs h
     obtain ⟨r5, hr5, h⟩ := bs h
     cases r5 with
     | true =>
      try dsimp only at h
      exact loop_nQ [.le e_GEntry a0, .lT c1, .na hi2, .ix hx3 (eq_GEntry x3), .na hi2, .ix hx4 (eq_GEntry x4), .cl (ok_laws_eqEntry x3 x4 _ hr5), .nt true, .ad v2 1] (by kernel_rfl) (ih (w64 (v2 + 1)) o h)
     | false =>
      try dsimp only at h
      obtain rfl := Option.some.inj h
      exact loop_eQ [.le e_GEntry a0, .lT c1, .na hi2, .ix hx3 (eq_GEntry x3), .na hi2, .ix hx4 (eq_GEntry x4), .cl (ok_laws_eqEntry x3 x4 _ hr5), .nt false] (by kernel_rfl) (by intro h; cases h)
    ·obtain rfl := Option.some.inj h
     exact loop_eQ [.le e_GEntry a0, .lF c1] (by kernel_rfl) (by intro h; cases h)
def T_laws_eqEntryS (n : Nat) (a0 : (List GEntry)) (a1 : (List GEntry)) : Option Bool :=
  if ((a0.length : Nat) : Int) = ((a1.length : Nat) : Int) then
    (L_laws_eqEntryS_l0 a0 a1 n 0).bind fun o2 =>
    match o2 with
    | .inl o2_0 =>
      some o2_0
    | .inr (o2_1) =>
      some true
  else
    some false
set_option maxRecDepth 100000 in
theorem fd_67 : cfg.funcs 67 = some (bodyOf Tryz.f67, Tryz.f67.ntmps, Tryz.f67.results.toList) := fn_of Tryz.func67 (by kernel_rfl) (by kernel_rfl)
theorem g_laws_eqEntryS (n : Nat) (a0 : (List GEntry)) (a1 : (List GEntry)) (r : Bool) (h : T_laws_eqEntryS n a0 a1 = some r) : (mach cfg).call 67 [] [.val false [.seq (eL e_GEntry a0)], .val false [.seq (eL e_GEntry a1)]] = some (.val false [.bool r], []) := by
  unfold T_laws_eqEntryS at h
  rcases ite_some h with ⟨c1, h⟩ | ⟨c1, h⟩
  ·obtain ⟨o2, ho2, h⟩ := bs h
   rcases o2 with o2_0 | o2_1
   · try dsimp only at h
     obtain rfl := Option.some.inj h
     exact call_wQ [.le e_GEntry a0, .le e_GEntry a1, .eT c1, .nt true, .lp (gl_laws_eqEntryS_l0 a0 a1 _ 0 _ ho2)] rfl fd_67 (by kernel_rfl)
   · try dsimp only at h
     obtain rfl := Option.some.inj h
     exact call_wQ [.le e_GEntry a0, .le e_GEntry a1, .eT c1, .nt true, .lp (gl_laws_eqEntryS_l0 a0 a1 _ 0 _ ho2)] rfl fd_67 (by kernel_rfl)
  ·obtain rfl := Option.some.inj h
   exact call_wQ [.le e_GEntry a0, .le e_GEntry a1, .eF c1, .nt false] rfl fd_67 (by kernel_rfl)
theorem eqEntryS_loop {a : List GEntry} (ha : a.length <= 2 ^ 40) (hG : ∀ v ∈ a, S_laws_eqEntry v v = some true) : ∀ (d i m : Nat), i + d = a.length → d < m → ∃ z, L_laws_eqEntryS_l0 a a m (i : Int) = some (.inr z) := by
  intro d
  induction d with
  | zero =>
    intro i m hi hm
    obtain ⟨m, rfl, _⟩ := fuel hm
    exact ⟨_, by rw [L_laws_eqEntryS_l0, if_neg (by omega)]⟩
  | succ d ih =>
    intro i m hi hm
    obtain ⟨m, rfl, hm'⟩ := fuel hm
    have hil : i < a.length := by omega
    rw [L_laws_eqEntryS_l0, if_pos (by omega), natO_nat, Option.bind_some, get_some hil, Option.bind_some, Option.bind_some, hG _ (List.getElem_mem hil), Option.bind_some, w64_succ (by omega)]
    exact ih (i + 1) m (by omega) (by omega)
theorem eqEntry_eq {v : GEntry} (h : esz v <= 2 ^ 39) : S_laws_eqEntry v v = some true := by
  unfold esz at h
  unfold S_laws_eqEntry S_laws_eqByteS S_laws_eqValue S_laws_eqByteSS
  rw [if_pos ⟨rfl, by omega⟩, Option.bind_some]
  dsimp only
  rw [if_pos ⟨rfl, by omega⟩, Option.bind_some]
  dsimp only
  rw [if_pos ⟨rfl, by omega⟩, Option.bind_some]
  dsimp only
  rw [if_pos rfl]
  cases v.Taint <;> rfl
open Classical in
noncomputable def S_laws_eqEntryS (a0 : (List GEntry)) (a1 : (List GEntry)) : Option Bool := if a0 = a1 ∧ eszs a0 <= 2 ^ 39 then some true else none
theorem eqEntryS_eq {s : List GEntry} (h : eszs s <= 2 ^ 39) : S_laws_eqEntryS s s = some true := if_pos ⟨rfl, h⟩
theorem spec_laws_eqEntryS (a0 : (List GEntry)) (a1 : (List GEntry)) (r : Bool) (h : S_laws_eqEntryS a0 a1 = some r) : ∃ n, T_laws_eqEntryS n a0 a1 = some r := by
  unfold S_laws_eqEntryS at h
  obtain ⟨⟨he, ha⟩, h2⟩ := need_c h
  clear h
  subst he
  have hl := eszs_len a0
  refine ⟨a0.length + 1, ?_⟩
  obtain ⟨z, hz⟩ := eqEntryS_loop (a := a0) (by omega) (fun v hv => eqEntry_eq (by have := eszs_mem hv; omega)) a0.length 0 (a0.length + 1) (by omega) (by omega)
  rw [show ((0 : Nat) : Int) = 0 from rfl] at hz
  unfold T_laws_eqEntryS
  rw [if_pos rfl, hz]; exact h2
theorem ok_laws_eqEntryS (a0 : (List GEntry)) (a1 : (List GEntry)) (r : Bool) (h : S_laws_eqEntryS a0 a1 = some r) : (mach cfg).call 67 [] [.val false [.seq (eL e_GEntry a0)], .val false [.seq (eL e_GEntry a1)]] = some (.val false [.bool r], []) := by
  obtain ⟨n, hn⟩ := spec_laws_eqEntryS a0 a1 r h
  exact g_laws_eqEntryS n a0 a1 r hn
def S_laws_eqState (a0 : GState) (a1 : GState) : Option Bool :=
  if a0.Serial = a1.Serial then
    match a0.Open with
    | true =>
      match a1.Open with
      | true =>
        (S_laws_eqByteS a0.Pending a1.Pending).bind fun r4 =>
        match r4 with
        | true =>
          if a0.Act = a1.Act then
            (S_laws_eqEntryS a0.Entries a1.Entries).bind fun r7 =>
            match r7 with
            | true =>
              some true
            | false =>
              some false
          else
            some false
        | false =>
          some false
      | false =>
        some false
    | false =>
      match a1.Open with
      | true =>
        some false
      | false =>
        (S_laws_eqByteS a0.Pending a1.Pending).bind fun r4 =>
        match r4 with
        | true =>
          if a0.Act = a1.Act then
            (S_laws_eqEntryS a0.Entries a1.Entries).bind fun r7 =>
            match r7 with
            | true =>
              some true
            | false =>
              some false
          else
            some false
        | false =>
          some false
  else
    some false
set_option maxRecDepth 100000 in
theorem fd_17 : cfg.funcs 17 = some (bodyOf Tryz.f17, Tryz.f17.ntmps, Tryz.f17.results.toList) := fn_of Tryz.func17 (by kernel_rfl) (by kernel_rfl)
theorem ok_laws_eqState (a0 : GState) (a1 : GState) (r : Bool) (h : S_laws_eqState a0 a1 = some r) : (mach cfg).call 17 [] [.val true [.int .i64 a0.Serial, .bool a0.Open, .seq (eL e_u8 a0.Pending), .int .i64 a0.Act, .seq (eL e_GEntry a0.Entries)], .val true [.int .i64 a1.Serial, .bool a1.Open, .seq (eL e_u8 a1.Pending), .int .i64 a1.Act, .seq (eL e_GEntry a1.Entries)]] = some (.val false [.bool r], []) := by
  unfold S_laws_eqState at h
  rcases ite_some h with ⟨c1, h⟩ | ⟨c1, h⟩
  ·cases c2 : a0.Open with
   | true =>
    rw [c2] at h
    try dsimp only at h
    cases c3 : a1.Open with
    | true =>
     rw [c3] at h
     try dsimp only at h
     obtain ⟨r4, hr4, h⟩ := bs h
     cases r4 with
     | true =>
      try dsimp only at h
      rcases ite_some h with ⟨c6, h⟩ | ⟨c6, h⟩
      ·obtain ⟨r7, hr7, h⟩ := bs h
       cases r7 with
       | true =>
        try dsimp only at h
        obtain rfl := Option.some.inj h
        exact call_wQ [.eT c1, .nt true, ⟨.eqB true true, .b true, rfl⟩, .nt true, .cl (ok_laws_eqByteS a0.Pending a1.Pending _ hr4), .nt true, .eT c6, .nt true, .cl (ok_laws_eqEntryS a0.Entries a1.Entries _ hr7), .nt true] rfl fd_17 (by kernel_rfl)
       | false =>
        try dsimp only at h
        obtain rfl := Option.some.inj h
        exact call_wQ [.eT c1, .nt true, ⟨.eqB true true, .b true, rfl⟩, .nt true, .cl (ok_laws_eqByteS a0.Pending a1.Pending _ hr4), .nt true, .eT c6, .nt true, .cl (ok_laws_eqEntryS a0.Entries a1.Entries _ hr7), .nt false] rfl fd_17 (by kernel_rfl)
      ·obtain rfl := Option.some.inj h
       exact call_wQ [.eT c1, .nt true, ⟨.eqB true true, .b true, rfl⟩, .nt true, .cl (ok_laws_eqByteS a0.Pending a1.Pending _ hr4), .nt true, .eF c6, .nt false] rfl fd_17 (by kernel_rfl)
     | false =>
      try dsimp only at h
      obtain rfl := Option.some.inj h
      exact call_wQ [.eT c1, .nt true, ⟨.eqB true true, .b true, rfl⟩, .nt true, .cl (ok_laws_eqByteS a0.Pending a1.Pending _ hr4), .nt false] rfl fd_17 (by kernel_rfl)
    | false =>
     rw [c3] at h
     try dsimp only at h
     obtain rfl := Option.some.inj h
     exact call_wQ [.eT c1, .nt true, ⟨.eqB true false, .b false, rfl⟩, .nt false] rfl fd_17 (by kernel_rfl)
   | false =>
    rw [c2] at h
    try dsimp only at h
    cases c3 : a1.Open with
    | true =>
     rw [c3] at h
     try dsimp only at h
     obtain rfl := Option.some.inj h
     exact call_wQ [.eT c1, .nt true, ⟨.eqB false true, .b false, rfl⟩, .nt false] rfl fd_17 (by kernel_rfl)
    | false =>
     rw [c3] at h
     try dsimp only at h
     obtain ⟨r4, hr4, h⟩ := bs h
     cases r4 with
     | true =>
      try dsimp only at h
      rcases ite_some h with ⟨c6, h⟩ | ⟨c6, h⟩
      ·obtain ⟨r7, hr7, h⟩ := bs h
       cases r7 with
       | true =>
        try dsimp only at h
        obtain rfl := Option.some.inj h
        exact call_wQ [.eT c1, .nt true, ⟨.eqB false false, .b true, rfl⟩, .nt true, .cl (ok_laws_eqByteS a0.Pending a1.Pending _ hr4), .nt true, .eT c6, .nt true, .cl (ok_laws_eqEntryS a0.Entries a1.Entries _ hr7), .nt true] rfl fd_17 (by kernel_rfl)
       | false =>
        try dsimp only at h
        obtain rfl := Option.some.inj h
        exact call_wQ [.eT c1, .nt true, ⟨.eqB false false, .b true, rfl⟩, .nt true, .cl (ok_laws_eqByteS a0.Pending a1.Pending _ hr4), .nt true, .eT c6, .nt true, .cl (ok_laws_eqEntryS a0.Entries a1.Entries _ hr7), .nt false] rfl fd_17 (by kernel_rfl)
      ·obtain rfl := Option.some.inj h
       exact call_wQ [.eT c1, .nt true, ⟨.eqB false false, .b true, rfl⟩, .nt true, .cl (ok_laws_eqByteS a0.Pending a1.Pending _ hr4), .nt true, .eF c6, .nt false] rfl fd_17 (by kernel_rfl)
     | false =>
      try dsimp only at h
      obtain rfl := Option.some.inj h
      exact call_wQ [.eT c1, .nt true, ⟨.eqB false false, .b true, rfl⟩, .nt true, .cl (ok_laws_eqByteS a0.Pending a1.Pending _ hr4), .nt false] rfl fd_17 (by kernel_rfl)
  ·obtain rfl := Option.some.inj h
   exact call_wQ [.eF c1, .nt false] rfl fd_17 (by kernel_rfl)
def S_laws_FnExactStateOk (a0 : GState) : Option Bool :=
  (S_laws_szState a0 1048576).bind fun r1 =>
  if r1 < 0 then
    some true
  else
    (S_laws_toState a0).bind fun r3 =>
    (S_spec_StateOk r3).bind fun r4 =>
    (S_impl_StateOk r3).bind fun r5 =>
    match r5 with
    | true =>
      match r4 with
      | true =>
        (S_laws_eqState r3 r3).bind fun r8 =>
        match r8 with
        | true =>
          some true
        | false =>
          some false
      | false =>
        some false
    | false =>
      match r4 with
      | true =>
        some false
      | false =>
        (S_laws_eqState r3 r3).bind fun r8 =>
        match r8 with
        | true =>
          some true
        | false =>
          some false
set_option maxRecDepth 100000 in
theorem fd_3 : cfg.funcs 3 = some (bodyOf Tryz.f3, Tryz.f3.ntmps, Tryz.f3.results.toList) := fn_of Tryz.func3 (by kernel_rfl) (by kernel_rfl)
theorem ok_laws_FnExactStateOk (a0 : GState) (r : Bool) (h : S_laws_FnExactStateOk a0 = some r) : (mach cfg).call 3 [] [.val true [.int .i64 a0.Serial, .bool a0.Open, .seq (eL e_u8 a0.Pending), .int .i64 a0.Act, .seq (eL e_GEntry a0.Entries)]] = some (.val false [.bool r], []) := by
  unfold S_laws_FnExactStateOk at h
  obtain ⟨r1, hr1, h⟩ := bs h
  rcases ite_some h with ⟨c2, h⟩ | ⟨c2, h⟩
  ·obtain rfl := Option.some.inj h
   exact call_wQ [.cl (ok_laws_szState a0 1048576 _ hr1), .lT c2] rfl fd_3 (by kernel_rfl)
  ·obtain ⟨r3, hr3, h⟩ := bs h
   obtain ⟨r4, hr4, h⟩ := bs h
   obtain ⟨r5, hr5, h⟩ := bs h
   cases r5 with
   | true =>
    try dsimp only at h
    cases r4 with
    | true =>
     try dsimp only at h
     obtain ⟨r8, hr8, h⟩ := bs h
     cases r8 with
     | true =>
      try dsimp only at h
      obtain rfl := Option.some.inj h
      exact call_wQ [.cl (ok_laws_szState a0 1048576 _ hr1), .lF c2, .cl (ok_laws_toState a0 _ hr3), ⟨.view (eL e_u8 r3.Pending), .l (eL e_u8 r3.Pending), (A.view E_u8)⟩, ⟨.view (eL o_GEntry r3.Entries), .l (eL e_GEntry r3.Entries), (A.viewO O_GEntry)⟩, .cl (ok_spec_StateOk r3 _ hr4), .cl (ok_laws_toState a0 _ hr3), ⟨.view (eL e_u8 r3.Pending), .l (eL e_u8 r3.Pending), (A.view E_u8)⟩, ⟨.view (eL o_GEntry r3.Entries), .l (eL e_GEntry r3.Entries), (A.viewO O_GEntry)⟩, .cl (ok_impl_StateOk r3 _ hr5), ⟨.eqB true true, .b true, rfl⟩, .nt true, .cl (ok_laws_toState a0 _ hr3), ⟨.view (eL e_u8 r3.Pending), .l (eL e_u8 r3.Pending), (A.view E_u8)⟩, ⟨.view (eL o_GEntry r3.Entries), .l (eL e_GEntry r3.Entries), (A.viewO O_GEntry)⟩, ⟨.view (eL e_u8 r3.Pending), .l (eL e_u8 r3.Pending), (A.view E_u8)⟩, ⟨.view (eL o_GEntry r3.Entries), .l (eL e_GEntry r3.Entries), (A.viewO O_GEntry)⟩, .cl (ok_laws_eqState r3 r3 _ hr8), .nt true] rfl fd_3 (by kernel_rfl)
     | false =>
      try dsimp only at h
      obtain rfl := Option.some.inj h
      exact call_wQ [.cl (ok_laws_szState a0 1048576 _ hr1), .lF c2, .cl (ok_laws_toState a0 _ hr3), ⟨.view (eL e_u8 r3.Pending), .l (eL e_u8 r3.Pending), (A.view E_u8)⟩, ⟨.view (eL o_GEntry r3.Entries), .l (eL e_GEntry r3.Entries), (A.viewO O_GEntry)⟩, .cl (ok_spec_StateOk r3 _ hr4), .cl (ok_laws_toState a0 _ hr3), ⟨.view (eL e_u8 r3.Pending), .l (eL e_u8 r3.Pending), (A.view E_u8)⟩, ⟨.view (eL o_GEntry r3.Entries), .l (eL e_GEntry r3.Entries), (A.viewO O_GEntry)⟩, .cl (ok_impl_StateOk r3 _ hr5), ⟨.eqB true true, .b true, rfl⟩, .nt true, .cl (ok_laws_toState a0 _ hr3), ⟨.view (eL e_u8 r3.Pending), .l (eL e_u8 r3.Pending), (A.view E_u8)⟩, ⟨.view (eL o_GEntry r3.Entries), .l (eL e_GEntry r3.Entries), (A.viewO O_GEntry)⟩, ⟨.view (eL e_u8 r3.Pending), .l (eL e_u8 r3.Pending), (A.view E_u8)⟩, ⟨.view (eL o_GEntry r3.Entries), .l (eL e_GEntry r3.Entries), (A.viewO O_GEntry)⟩, .cl (ok_laws_eqState r3 r3 _ hr8), .nt false] rfl fd_3 (by kernel_rfl)
    | false =>
     try dsimp only at h
     obtain rfl := Option.some.inj h
     exact call_wQ [.cl (ok_laws_szState a0 1048576 _ hr1), .lF c2, .cl (ok_laws_toState a0 _ hr3), ⟨.view (eL e_u8 r3.Pending), .l (eL e_u8 r3.Pending), (A.view E_u8)⟩, ⟨.view (eL o_GEntry r3.Entries), .l (eL e_GEntry r3.Entries), (A.viewO O_GEntry)⟩, .cl (ok_spec_StateOk r3 _ hr4), .cl (ok_laws_toState a0 _ hr3), ⟨.view (eL e_u8 r3.Pending), .l (eL e_u8 r3.Pending), (A.view E_u8)⟩, ⟨.view (eL o_GEntry r3.Entries), .l (eL e_GEntry r3.Entries), (A.viewO O_GEntry)⟩, .cl (ok_impl_StateOk r3 _ hr5), ⟨.eqB true false, .b false, rfl⟩, .nt false] rfl fd_3 (by kernel_rfl)
   | false =>
    try dsimp only at h
    cases r4 with
    | true =>
     try dsimp only at h
     obtain rfl := Option.some.inj h
     exact call_wQ [.cl (ok_laws_szState a0 1048576 _ hr1), .lF c2, .cl (ok_laws_toState a0 _ hr3), ⟨.view (eL e_u8 r3.Pending), .l (eL e_u8 r3.Pending), (A.view E_u8)⟩, ⟨.view (eL o_GEntry r3.Entries), .l (eL e_GEntry r3.Entries), (A.viewO O_GEntry)⟩, .cl (ok_spec_StateOk r3 _ hr4), .cl (ok_laws_toState a0 _ hr3), ⟨.view (eL e_u8 r3.Pending), .l (eL e_u8 r3.Pending), (A.view E_u8)⟩, ⟨.view (eL o_GEntry r3.Entries), .l (eL e_GEntry r3.Entries), (A.viewO O_GEntry)⟩, .cl (ok_impl_StateOk r3 _ hr5), ⟨.eqB false true, .b false, rfl⟩, .nt false] rfl fd_3 (by kernel_rfl)
    | false =>
     try dsimp only at h
     obtain ⟨r8, hr8, h⟩ := bs h
     cases r8 with
     | true =>
      try dsimp only at h
      obtain rfl := Option.some.inj h
      exact call_wQ [.cl (ok_laws_szState a0 1048576 _ hr1), .lF c2, .cl (ok_laws_toState a0 _ hr3), ⟨.view (eL e_u8 r3.Pending), .l (eL e_u8 r3.Pending), (A.view E_u8)⟩, ⟨.view (eL o_GEntry r3.Entries), .l (eL e_GEntry r3.Entries), (A.viewO O_GEntry)⟩, .cl (ok_spec_StateOk r3 _ hr4), .cl (ok_laws_toState a0 _ hr3), ⟨.view (eL e_u8 r3.Pending), .l (eL e_u8 r3.Pending), (A.view E_u8)⟩, ⟨.view (eL o_GEntry r3.Entries), .l (eL e_GEntry r3.Entries), (A.viewO O_GEntry)⟩, .cl (ok_impl_StateOk r3 _ hr5), ⟨.eqB false false, .b true, rfl⟩, .nt true, .cl (ok_laws_toState a0 _ hr3), ⟨.view (eL e_u8 r3.Pending), .l (eL e_u8 r3.Pending), (A.view E_u8)⟩, ⟨.view (eL o_GEntry r3.Entries), .l (eL e_GEntry r3.Entries), (A.viewO O_GEntry)⟩, ⟨.view (eL e_u8 r3.Pending), .l (eL e_u8 r3.Pending), (A.view E_u8)⟩, ⟨.view (eL o_GEntry r3.Entries), .l (eL e_GEntry r3.Entries), (A.viewO O_GEntry)⟩, .cl (ok_laws_eqState r3 r3 _ hr8), .nt true] rfl fd_3 (by kernel_rfl)
     | false =>
      try dsimp only at h
      obtain rfl := Option.some.inj h
      exact call_wQ [.cl (ok_laws_szState a0 1048576 _ hr1), .lF c2, .cl (ok_laws_toState a0 _ hr3), ⟨.view (eL e_u8 r3.Pending), .l (eL e_u8 r3.Pending), (A.view E_u8)⟩, ⟨.view (eL o_GEntry r3.Entries), .l (eL e_GEntry r3.Entries), (A.viewO O_GEntry)⟩, .cl (ok_spec_StateOk r3 _ hr4), .cl (ok_laws_toState a0 _ hr3), ⟨.view (eL e_u8 r3.Pending), .l (eL e_u8 r3.Pending), (A.view E_u8)⟩, ⟨.view (eL o_GEntry r3.Entries), .l (eL e_GEntry r3.Entries), (A.viewO O_GEntry)⟩, .cl (ok_impl_StateOk r3 _ hr5), ⟨.eqB false false, .b true, rfl⟩, .nt true, .cl (ok_laws_toState a0 _ hr3), ⟨.view (eL e_u8 r3.Pending), .l (eL e_u8 r3.Pending), (A.view E_u8)⟩, ⟨.view (eL o_GEntry r3.Entries), .l (eL e_GEntry r3.Entries), (A.viewO O_GEntry)⟩, ⟨.view (eL e_u8 r3.Pending), .l (eL e_u8 r3.Pending), (A.view E_u8)⟩, ⟨.view (eL o_GEntry r3.Entries), .l (eL e_GEntry r3.Entries), (A.viewO O_GEntry)⟩, .cl (ok_laws_eqState r3 r3 _ hr8), .nt false] rfl fd_3 (by kernel_rfl)
end
end Go.Am.Try
