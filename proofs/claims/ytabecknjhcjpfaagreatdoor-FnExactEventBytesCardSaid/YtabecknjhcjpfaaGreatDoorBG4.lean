/- The functions of the program in plain Lean, and that the machine answers as they do; conditions at each theorem. -/
import Derived.Test.YtabecknjhcjpfaaGreatDoorBG3
set_option linter.unusedVariables false
set_option linter.unusedSimpArgs false
namespace Go.Am.Try
open Go.Am Go.Proofs
set_option linter.unusedVariables false
set_option maxRecDepth 20000
set_option maxHeartbeats 2000000
noncomputable section
def S_impl_isEvent (a0 : GEvent) : Option Bool :=
  if a0.Kind = 2 then
    (S_impl_isAddr a0.Addr).bind fun r2 =>
    match r2 with
    | true =>
      if a0.Act = 0 then
        (S_impl_isKnownMap a0.Val).bind fun r5 =>
        match r5 with
        | true =>
          (S_impl_areAddrs a0.Deps).bind fun r7 =>
          some r7
        | false =>
          some false
      else
        some false
    | false =>
      some false
  else
    (S_impl_isZero a0.Val).bind fun r2 =>
    match r2 with
    | true =>
      if 0 < ((a0.Deps.length : Nat) : Int) then
        some false
      else
        if a0.Kind = 0 then
          if ((a0.Addr.length : Nat) : Int) = 0 then
            some (decide (a0.Act = 0))
          else
            some false
        else
          if a0.Kind = 5 then
            if ((a0.Addr.length : Nat) : Int) = 0 then
              some (decide (a0.Act = 0))
            else
              some false
          else
            if a0.Kind = 6 then
              if ((a0.Addr.length : Nat) : Int) = 0 then
                some (decide (a0.Act = 0))
              else
                some false
            else
              if a0.Kind = 1 then
                (S_impl_isAddr a0.Addr).bind fun r9 =>
                match r9 with
                | true =>
                  (S_impl_in a0.Act 1 4).bind fun r11 =>
                  some r11
                | false =>
                  some false
              else
                if a0.Kind = 3 then
                  (S_impl_isAddr a0.Addr).bind fun r10 =>
                  match r10 with
                  | true =>
                    some (decide (a0.Act = 0))
                  | false =>
                    some false
                else
                  if a0.Kind = 4 then
                    (S_impl_isAddr a0.Addr).bind fun r11 =>
                    match r11 with
                    | true =>
                      some (decide (a0.Act = 0))
                    | false =>
                      some false
                  else
                    some false
    | false =>
      some false
set_option maxRecDepth 100000 in
theorem fd_85 : cfg.funcs 85 = some (bodyOf Tryz.f85, Tryz.f85.ntmps, Tryz.f85.results.toList) := fn_of Tryz.func85 (by kernel_rfl) (by kernel_rfl)
theorem ok_impl_isEvent (a0 : GEvent) (r : Bool) (h : S_impl_isEvent a0 = some r) : (mach cfg).call 85 [] [.val true [.int .i64 a0.Kind, .seq (eL e_u8 a0.Addr), .int .i64 a0.Act, .int .i64 a0.Val.Kind, .int .i64 a0.Val.N, .seq (eL e_u8 a0.Val.S), .seq (eL (e_sl e_u8) a0.Val.K), .seq (eL e_GValue a0.Val.L), .seq (eL (e_sl e_u8) a0.Deps)]] = some (.val false [.bool r], []) := by
  unfold S_impl_isEvent at h
  rcases ite_some h with ⟨c1, h⟩ | ⟨c1, h⟩
  ·obtain ⟨r2, hr2, h⟩ := bs h
   cases r2 with
   | true =>
    try dsimp only at h
    rcases ite_some h with ⟨c4, h⟩ | ⟨c4, h⟩
    ·obtain ⟨r5, hr5, h⟩ := bs h
     let p67 : List (Q cfg) := [.eT c1, .cl (ok_impl_isAddr a0.Addr _ hr2), .eT c4, .cl (ok_impl_isKnownMap a0.Val _ hr5)]
     cases r5 with
     | true =>
      try dsimp only at h
      obtain ⟨r7, hr7, h⟩ := bs h
      obtain rfl := Option.some.inj h
      exact call_wQ (p67 ++ [.cl (ok_impl_areAddrs a0.Deps _ hr7)]) rfl fd_85 (by kernel_rfl)
     | false =>
      try dsimp only at h
      obtain rfl := Option.some.inj h
      exact call_wQ p67 rfl fd_85 (by kernel_rfl)
    ·obtain rfl := Option.some.inj h
     exact call_wQ [.eT c1, .cl (ok_impl_isAddr a0.Addr _ hr2), .eF c4] rfl fd_85 (by kernel_rfl)
   | false =>
    try dsimp only at h
    obtain rfl := Option.some.inj h
    exact call_wQ [.eT c1, .cl (ok_impl_isAddr a0.Addr _ hr2)] rfl fd_85 (by kernel_rfl)
  ·obtain ⟨r2, hr2, h⟩ := bs h
   let p68 : List (Q cfg) := [.eF c1]
   cases r2 with
   | true =>
    try dsimp only at h
    rcases ite_some h with ⟨c4, h⟩ | ⟨c4, h⟩
    ·obtain rfl := Option.some.inj h
     exact call_wQ (p68 ++ [.cl (ok_impl_isZero a0.Val _ hr2), .nt true, .le (e_sl e_u8) a0.Deps, .lT c4]) rfl fd_85 (by kernel_rfl)
    ·rcases ite_some h with ⟨c5, h⟩ | ⟨c5, h⟩
     ·rcases ite_some h with ⟨c6, h⟩ | ⟨c6, h⟩
      ·obtain rfl := Option.some.inj h
       exact call_wQ (p68 ++ [.cl (ok_impl_isZero a0.Val _ hr2), .nt true, .le (e_sl e_u8) a0.Deps, .lF c4, .eT c5, .le e_u8 a0.Addr, .eT c6, .eD a0.Act 0]) rfl fd_85 (by kernel_rfl)
      ·obtain rfl := Option.some.inj h
       exact call_wQ (p68 ++ [.cl (ok_impl_isZero a0.Val _ hr2), .nt true, .le (e_sl e_u8) a0.Deps, .lF c4, .eT c5, .le e_u8 a0.Addr, .eF c6]) rfl fd_85 (by kernel_rfl)
     ·rcases ite_some h with ⟨c6, h⟩ | ⟨c6, h⟩
      ·rcases ite_some h with ⟨c7, h⟩ | ⟨c7, h⟩
       ·obtain rfl := Option.some.inj h
        exact call_wQ (p68 ++ [.cl (ok_impl_isZero a0.Val _ hr2), .nt true, .le (e_sl e_u8) a0.Deps, .lF c4, .eF c5, .eT c6, .le e_u8 a0.Addr, .eT c7, .eD a0.Act 0]) rfl fd_85 (by kernel_rfl)
       ·obtain rfl := Option.some.inj h
        exact call_wQ (p68 ++ [.cl (ok_impl_isZero a0.Val _ hr2), .nt true, .le (e_sl e_u8) a0.Deps, .lF c4, .eF c5, .eT c6, .le e_u8 a0.Addr, .eF c7]) rfl fd_85 (by kernel_rfl)
      ·rcases ite_some h with ⟨c7, h⟩ | ⟨c7, h⟩
       ·rcases ite_some h with ⟨c8, h⟩ | ⟨c8, h⟩
        ·obtain rfl := Option.some.inj h
         exact call_wQ (p68 ++ [.cl (ok_impl_isZero a0.Val _ hr2), .nt true, .le (e_sl e_u8) a0.Deps, .lF c4, .eF c5, .eF c6, .eT c7, .le e_u8 a0.Addr, .eT c8, .eD a0.Act 0]) rfl fd_85 (by kernel_rfl)
        ·obtain rfl := Option.some.inj h
         exact call_wQ (p68 ++ [.cl (ok_impl_isZero a0.Val _ hr2), .nt true, .le (e_sl e_u8) a0.Deps, .lF c4, .eF c5, .eF c6, .eT c7, .le e_u8 a0.Addr, .eF c8]) rfl fd_85 (by kernel_rfl)
       ·rcases ite_some h with ⟨c8, h⟩ | ⟨c8, h⟩
        ·obtain ⟨r9, hr9, h⟩ := bs h
         let p69 : List (Q cfg) := p68 ++ [.cl (ok_impl_isZero a0.Val _ hr2), .nt true, .le (e_sl e_u8) a0.Deps, .lF c4, .eF c5, .eF c6, .eF c7, .eT c8, .cl (ok_impl_isAddr a0.Addr _ hr9)]
         cases r9 with
         | true =>
          try dsimp only at h
          obtain ⟨r11, hr11, h⟩ := bs h
          obtain rfl := Option.some.inj h
          exact call_wQ (p69 ++ [.cl (ok_impl_in a0.Act 1 4 _ hr11)]) rfl fd_85 (by kernel_rfl)
         | false =>
          try dsimp only at h
          obtain rfl := Option.some.inj h
          exact call_wQ p69 rfl fd_85 (by kernel_rfl)
        ·rcases ite_some h with ⟨c9, h⟩ | ⟨c9, h⟩
         ·obtain ⟨r10, hr10, h⟩ := bs h
          let p70 : List (Q cfg) := p68 ++ [.cl (ok_impl_isZero a0.Val _ hr2), .nt true, .le (e_sl e_u8) a0.Deps, .lF c4, .eF c5, .eF c6, .eF c7, .eF c8, .eT c9, .cl (ok_impl_isAddr a0.Addr _ hr10)]
          cases r10 with
          | true =>
           try dsimp only at h
           obtain rfl := Option.some.inj h
           exact call_wQ (p70 ++ [.eD a0.Act 0]) rfl fd_85 (by kernel_rfl)
          | false =>
           try dsimp only at h
           obtain rfl := Option.some.inj h
           exact call_wQ p70 rfl fd_85 (by kernel_rfl)
         ·rcases ite_some h with ⟨c10, h⟩ | ⟨c10, h⟩
          ·obtain ⟨r11, hr11, h⟩ := bs h
           let p71 : List (Q cfg) := p68 ++ [.cl (ok_impl_isZero a0.Val _ hr2), .nt true, .le (e_sl e_u8) a0.Deps, .lF c4, .eF c5, .eF c6, .eF c7, .eF c8, .eF c9, .eT c10, .cl (ok_impl_isAddr a0.Addr _ hr11)]
           cases r11 with
           | true =>
            try dsimp only at h
            obtain rfl := Option.some.inj h
            exact call_wQ (p71 ++ [.eD a0.Act 0]) rfl fd_85 (by kernel_rfl)
           | false =>
            try dsimp only at h
            obtain rfl := Option.some.inj h
            exact call_wQ p71 rfl fd_85 (by kernel_rfl)
          ·obtain rfl := Option.some.inj h
           exact call_wQ (p68 ++ [.cl (ok_impl_isZero a0.Val _ hr2), .nt true, .le (e_sl e_u8) a0.Deps, .lF c4, .eF c5, .eF c6, .eF c7, .eF c8, .eF c9, .eF c10]) rfl fd_85 (by kernel_rfl)
   | false =>
    try dsimp only at h
    obtain rfl := Option.some.inj h
    exact call_wQ (p68 ++ [.cl (ok_impl_isZero a0.Val _ hr2), .nt false]) rfl fd_85 (by kernel_rfl)
def L_impl_putNum_l0a : Nat → Int → (List UInt8) → Option (Int × (List UInt8))
  | 0, _, _ => none
  | m + 1, v0, v1 =>
    if 128 <= v0 then
      if roomP 1 (v1.length + [(b8 (w64 ((v0.tmod 128) + 128)))].length) then
      L_impl_putNum_l0a m (w64 (v0.tdiv 128)) (v1 ++ [(b8 (w64 ((v0.tmod 128) + 128)))])
      else none
    else
      some (v0, v1)
theorem gl_impl_putNum_l0a (m : Nat) : ∀ (v0 : Int) (v1 : (List UInt8)) (o : (Int × (List UInt8))), L_impl_putNum_l0a m v0 v1 = some o → (mach cfg).loop 130 (loopB Tryz.f130 0) ⟨[(0, .val false [.ref 0]), (1, .val false [.int .i64 v0])], [.obj 1 (eL e_u8 v1)], 0⟩ = some (match o with | ⟨o_0, o_1⟩ => (.exit 0, (⟨[(0, .val false [.ref 0]), (1, .val false [.int .i64 o_0])], [.obj 1 (eL e_u8 o_1)], 0⟩ : S))) := by
  induction m with
  | zero => intro v0 v1 o h; cases h
  | succ m ih =>
    intro v0 v1 o h
    rw [L_impl_putNum_l0a] at h
    rcases ite_some h with ⟨c1, h⟩ | ⟨c1, h⟩
    ·obtain ⟨n2, h⟩ := need_some h
     exact loop_nQ [.gT c1, ⟨.nz 128, .b true, rfl⟩, ⟨.rem v0 128, .i (v0.tmod 128), rfl⟩, .ad (v0.tmod 128) 128, ⟨.conv .u8 (w64 ((v0.tmod 128) + 128)), .i (((b8 (w64 ((v0.tmod 128) + 128))).toNat : Nat) : Int), A.conv8⟩, ⟨.pl (eL e_u8 [(b8 (w64 ((v0.tmod 128) + 128)))]), .b true, (A.pl E_u8)⟩, ⟨.room 1 (eL e_u8 v1) (eL e_u8 [(b8 (w64 ((v0.tmod 128) + 128)))]), .b true, (A.room n2)⟩, ⟨.uni 1 (eL e_u8 [(b8 (w64 ((v0.tmod 128) + 128)))]), .b true, (A.uni E_u8)⟩, ⟨.app (eL e_u8 v1) (eL e_u8 [(b8 (w64 ((v0.tmod 128) + 128)))]), .l (eL e_u8 (v1 ++ [(b8 (w64 ((v0.tmod 128) + 128)))])), A.app⟩, ⟨.nz 128, .b true, rfl⟩, ⟨.quo .i64 v0 128, .i (w64 (v0.tdiv 128)), rfl⟩] (by kernel_rfl) (ih (w64 (v0.tdiv 128)) (v1 ++ [(b8 (w64 ((v0.tmod 128) + 128)))]) o h)
    ·obtain rfl := Option.some.inj h
     exact loop_eQ [.gF c1] (by kernel_rfl) (by intro h; cases h)
def L_impl_putNum_l0 (n : Nat) (a0 : Int) (v1 : Bool) (v2 : (List UInt8)) : Nat → Option (Int × (List UInt8))
  | 0 => none
  | m + 1 =>
    if 128 <= a0 then
      if roomP 1 (v2.length + [(b8 (w64 ((a0.tmod 128) + 128)))].length) then
      (L_impl_putNum_l0a n (w64 (a0.tdiv 128)) (v2 ++ [(b8 (w64 ((a0.tmod 128) + 128)))])).bind fun ⟨o3_0, o3_1⟩ =>
      some (o3_0, o3_1)
      else none
    else
      some (a0, v2)
theorem gl_impl_putNum_l0 (n : Nat) (a0 : Int) (v1 : Bool) (v2 : (List UInt8)) (m : Nat) : ∀ (o : (Int × (List UInt8))), L_impl_putNum_l0 n a0 v1 v2 m = some o → (mach cfg).loop 130 (loopB Tryz.f130 0) ⟨[(0, .val false [.ref 0]), (1, .val false [.int .i64 a0]), (7, .val false [.bool v1])], [.obj 1 (eL e_u8 v2)], 0⟩ = some (match o with | ⟨o_0, o_1⟩ => (.exit 0, (⟨[(0, .val false [.ref 0]), (1, .val false [.int .i64 o_0])], [.obj 1 (eL e_u8 o_1)], 0⟩ : S))) := by
  induction m with
  | zero => intro  o h; cases h
  | succ m ih =>
    intro  o h
    rw [L_impl_putNum_l0] at h
    rcases ite_some h with ⟨c1, h⟩ | ⟨c1, h⟩
    ·obtain ⟨n2, h⟩ := need_some h
     obtain ⟨⟨o3_0, o3_1⟩, ho3, h⟩ := bs h
     try dsimp only at h
     obtain rfl := Option.some.inj h
     exact loop_nQ [.gT c1, ⟨.nz 128, .b true, rfl⟩, ⟨.rem a0 128, .i (a0.tmod 128), rfl⟩, .ad (a0.tmod 128) 128, ⟨.conv .u8 (w64 ((a0.tmod 128) + 128)), .i (((b8 (w64 ((a0.tmod 128) + 128))).toNat : Nat) : Int), A.conv8⟩, ⟨.pl (eL e_u8 [(b8 (w64 ((a0.tmod 128) + 128)))]), .b true, (A.pl E_u8)⟩, ⟨.room 1 (eL e_u8 v2) (eL e_u8 [(b8 (w64 ((a0.tmod 128) + 128)))]), .b true, (A.room n2)⟩, ⟨.uni 1 (eL e_u8 [(b8 (w64 ((a0.tmod 128) + 128)))]), .b true, (A.uni E_u8)⟩, ⟨.app (eL e_u8 v2) (eL e_u8 [(b8 (w64 ((a0.tmod 128) + 128)))]), .l (eL e_u8 (v2 ++ [(b8 (w64 ((a0.tmod 128) + 128)))])), A.app⟩, ⟨.nz 128, .b true, rfl⟩, ⟨.quo .i64 a0 128, .i (w64 (a0.tdiv 128)), rfl⟩] (by kernel_rfl) (gl_impl_putNum_l0a _ (w64 (a0.tdiv 128)) (v2 ++ [(b8 (w64 ((a0.tmod 128) + 128)))]) _ ho3)
    ·obtain rfl := Option.some.inj h
     exact loop_eQ [.gF c1] (by kernel_rfl) (by intro h; cases h)
def T_impl_putNum (n : Nat) (a0 : Int) : Option (List UInt8) :=
  (S_impl_in a0 0 2147483647).bind fun r1 =>
  match r1 with
  | true =>
    (L_impl_putNum_l0 n a0 false [] n).bind fun ⟨o3_0, o3_1⟩ =>
    if roomP 1 (o3_1.length + [(b8 o3_0)].length) then
    some (o3_1 ++ [(b8 o3_0)])
    else none
  | false =>
    some []
set_option maxRecDepth 100000 in
theorem fd_130 : cfg.funcs 130 = some (bodyOf Tryz.f130, Tryz.f130.ntmps, Tryz.f130.results.toList) := fn_of Tryz.func130 (by kernel_rfl) (by kernel_rfl)
theorem g_impl_putNum (n : Nat) (a0 : Int) (r : (List UInt8)) (h : T_impl_putNum n a0 = some r) : (mach cfg).call 130 [] [.val false [.nils], .val false [.int .i64 a0]] = some (.val false [.own 1 (eL e_u8 r)], []) := by
  unfold T_impl_putNum at h
  obtain ⟨r1, hr1, h⟩ := bs h
  cases r1 with
  | true =>
   try dsimp only at h
   obtain ⟨⟨o3_0, o3_1⟩, ho3, h⟩ := bs h
   try dsimp only at h
   obtain ⟨n4, h⟩ := need_some h
   obtain rfl := Option.some.inj h
   exact call_wQ [.cl (ok_impl_in a0 0 2147483647 _ hr1), .nt true, .lp (gl_impl_putNum_l0 n a0 false [] _ _ ho3), ⟨.conv .u8 o3_0, .i (((b8 o3_0).toNat : Nat) : Int), A.conv8⟩, ⟨.pl (eL e_u8 [(b8 o3_0)]), .b true, (A.pl E_u8)⟩, ⟨.room 1 (eL e_u8 o3_1) (eL e_u8 [(b8 o3_0)]), .b true, (A.room n4)⟩, ⟨.uni 1 (eL e_u8 [(b8 o3_0)]), .b true, (A.uni E_u8)⟩, ⟨.app (eL e_u8 o3_1) (eL e_u8 [(b8 o3_0)]), .l (eL e_u8 (o3_1 ++ [(b8 o3_0)])), A.app⟩] rfl fd_130 (by kernel_rfl)
  | false =>
   try dsimp only at h
   obtain rfl := Option.some.inj h
   exact call_wQ [.cl (ok_impl_in a0 0 2147483647 _ hr1), .nt false] rfl fd_130 (by kernel_rfl)
def S_impl_putNum (a0 : Int) : Option (List UInt8) := T_impl_putNum 10 a0
theorem spec_impl_putNum (a0 : Int) (r : (List UInt8)) (h : S_impl_putNum a0 = some r) : ∃ n, T_impl_putNum n a0 = some r := ⟨_, h⟩
theorem ok_impl_putNum (a0 : Int) (r : (List UInt8)) (h : S_impl_putNum a0 = some r) : (mach cfg).call 130 [] [.val false [.nils], .val false [.int .i64 a0]] = some (.val false [.own 1 (eL e_u8 r)], []) := by
  obtain ⟨n, hn⟩ := spec_impl_putNum a0 r h
  exact g_impl_putNum n a0 r hn
def L_impl_putNum_2_l0a : Nat → Int → (List UInt8) → Option (Int × (List UInt8))
  | 0, _, _ => none
  | m + 1, v0, v1 =>
    if 128 <= v0 then
      if roomP 1 (v1.length + [(b8 (w64 ((v0.tmod 128) + 128)))].length) then
      L_impl_putNum_2_l0a m (w64 (v0.tdiv 128)) (v1 ++ [(b8 (w64 ((v0.tmod 128) + 128)))])
      else none
    else
      some (v0, v1)
theorem gl_impl_putNum_2_l0a (m : Nat) : ∀ (v0 : Int) (v1 : (List UInt8)) (o : (Int × (List UInt8))), L_impl_putNum_2_l0a m v0 v1 = some o → (mach cfg).loop 130 (loopB Tryz.f130 0) ⟨[(0, .val false [.ref 1]), (1, .val false [.int .i64 v0])], [.dead, .obj 1 (eL e_u8 v1)], 1⟩ = some (match o with | ⟨o_0, o_1⟩ => (.exit 0, (⟨[(0, .val false [.ref 1]), (1, .val false [.int .i64 o_0])], [.dead, .obj 1 (eL e_u8 o_1)], 1⟩ : S))) := by
  induction m with
  | zero => intro v0 v1 o h; cases h
  | succ m ih =>
    intro v0 v1 o h
    rw [L_impl_putNum_2_l0a] at h
    rcases ite_some h with ⟨c1, h⟩ | ⟨c1, h⟩
    ·obtain ⟨n2, h⟩ := need_some h
     exact loop_nQ [.gT c1, ⟨.nz 128, .b true, rfl⟩, ⟨.rem v0 128, .i (v0.tmod 128), rfl⟩, .ad (v0.tmod 128) 128, ⟨.conv .u8 (w64 ((v0.tmod 128) + 128)), .i (((b8 (w64 ((v0.tmod 128) + 128))).toNat : Nat) : Int), A.conv8⟩, ⟨.pl (eL e_u8 [(b8 (w64 ((v0.tmod 128) + 128)))]), .b true, (A.pl E_u8)⟩, ⟨.room 1 (eL e_u8 v1) (eL e_u8 [(b8 (w64 ((v0.tmod 128) + 128)))]), .b true, (A.room n2)⟩, ⟨.uni 1 (eL e_u8 [(b8 (w64 ((v0.tmod 128) + 128)))]), .b true, (A.uni E_u8)⟩, ⟨.app (eL e_u8 v1) (eL e_u8 [(b8 (w64 ((v0.tmod 128) + 128)))]), .l (eL e_u8 (v1 ++ [(b8 (w64 ((v0.tmod 128) + 128)))])), A.app⟩, ⟨.nz 128, .b true, rfl⟩, ⟨.quo .i64 v0 128, .i (w64 (v0.tdiv 128)), rfl⟩] (by kernel_rfl) (ih (w64 (v0.tdiv 128)) (v1 ++ [(b8 (w64 ((v0.tmod 128) + 128)))]) o h)
    ·obtain rfl := Option.some.inj h
     exact loop_eQ [.gF c1] (by kernel_rfl) (by intro h; cases h)
def L_impl_putNum_2_l0 (n : Nat) (a0 : Int) (v1 : Bool) (e0 : (List UInt8)) : Nat → Option (Int × (List UInt8))
  | 0 => none
  | m + 1 =>
    if 128 <= a0 then
      if roomP 1 (e0.length + [(b8 (w64 ((a0.tmod 128) + 128)))].length) then
      (L_impl_putNum_2_l0a n (w64 (a0.tdiv 128)) (e0 ++ [(b8 (w64 ((a0.tmod 128) + 128)))])).bind fun ⟨o3_0, o3_1⟩ =>
      some (o3_0, o3_1)
      else none
    else
      some (a0, e0)
theorem gl_impl_putNum_2_l0 (n : Nat) (a0 : Int) (v1 : Bool) (e0 : (List UInt8)) (m : Nat) : ∀ (o : (Int × (List UInt8))), L_impl_putNum_2_l0 n a0 v1 e0 m = some o → (mach cfg).loop 130 (loopB Tryz.f130 0) ⟨[(0, .val false [.ref 1]), (1, .val false [.int .i64 a0]), (7, .val false [.bool v1])], [.dead, .obj 1 (eL e_u8 e0)], 1⟩ = some (match o with | ⟨o_0, o_1⟩ => (.exit 0, (⟨[(0, .val false [.ref 1]), (1, .val false [.int .i64 o_0])], [.dead, .obj 1 (eL e_u8 o_1)], 1⟩ : S))) := by
  induction m with
  | zero => intro  o h; cases h
  | succ m ih =>
    intro  o h
    rw [L_impl_putNum_2_l0] at h
    rcases ite_some h with ⟨c1, h⟩ | ⟨c1, h⟩
    ·obtain ⟨n2, h⟩ := need_some h
     obtain ⟨⟨o3_0, o3_1⟩, ho3, h⟩ := bs h
     try dsimp only at h
     obtain rfl := Option.some.inj h
     exact loop_nQ [.gT c1, ⟨.nz 128, .b true, rfl⟩, ⟨.rem a0 128, .i (a0.tmod 128), rfl⟩, .ad (a0.tmod 128) 128, ⟨.conv .u8 (w64 ((a0.tmod 128) + 128)), .i (((b8 (w64 ((a0.tmod 128) + 128))).toNat : Nat) : Int), A.conv8⟩, ⟨.pl (eL e_u8 [(b8 (w64 ((a0.tmod 128) + 128)))]), .b true, (A.pl E_u8)⟩, ⟨.room 1 (eL e_u8 e0) (eL e_u8 [(b8 (w64 ((a0.tmod 128) + 128)))]), .b true, (A.room n2)⟩, ⟨.uni 1 (eL e_u8 [(b8 (w64 ((a0.tmod 128) + 128)))]), .b true, (A.uni E_u8)⟩, ⟨.app (eL e_u8 e0) (eL e_u8 [(b8 (w64 ((a0.tmod 128) + 128)))]), .l (eL e_u8 (e0 ++ [(b8 (w64 ((a0.tmod 128) + 128)))])), A.app⟩, ⟨.nz 128, .b true, rfl⟩, ⟨.quo .i64 a0 128, .i (w64 (a0.tdiv 128)), rfl⟩] (by kernel_rfl) (gl_impl_putNum_2_l0a _ (w64 (a0.tdiv 128)) (e0 ++ [(b8 (w64 ((a0.tmod 128) + 128)))]) _ ho3)
    ·obtain rfl := Option.some.inj h
     exact loop_eQ [.gF c1] (by kernel_rfl) (by intro h; cases h)
def T_impl_putNum_2 (n : Nat) (a0 : Int) (e0 : (List UInt8)) : Option (List UInt8) :=
  (S_impl_in a0 0 2147483647).bind fun r1 =>
  match r1 with
  | true =>
    (L_impl_putNum_2_l0 n a0 false e0 n).bind fun ⟨o3_0, o3_1⟩ =>
    if roomP 1 (o3_1.length + [(b8 o3_0)].length) then
    some (o3_1 ++ [(b8 o3_0)])
    else none
  | false =>
    some e0
theorem g_impl_putNum_2 (n : Nat) (a0 : Int) (e0 : (List UInt8)) (r : (List UInt8)) (h : T_impl_putNum_2 n a0 e0 = some r) : (mach cfg).call 130 [.obj 1 (eL e_u8 e0)] [.val false [.ref 0], .val false [.int .i64 a0]] = some (.val false [.own 1 (eL e_u8 r)], [.dead]) := by
  unfold T_impl_putNum_2 at h
  obtain ⟨r1, hr1, h⟩ := bs h
  cases r1 with
  | true =>
   try dsimp only at h
   obtain ⟨⟨o3_0, o3_1⟩, ho3, h⟩ := bs h
   try dsimp only at h
   obtain ⟨n4, h⟩ := need_some h
   obtain rfl := Option.some.inj h
   exact call_wQ [.cl (ok_impl_in a0 0 2147483647 _ hr1), .nt true, .lp (gl_impl_putNum_2_l0 n a0 false e0 _ _ ho3), ⟨.conv .u8 o3_0, .i (((b8 o3_0).toNat : Nat) : Int), A.conv8⟩, ⟨.pl (eL e_u8 [(b8 o3_0)]), .b true, (A.pl E_u8)⟩, ⟨.room 1 (eL e_u8 o3_1) (eL e_u8 [(b8 o3_0)]), .b true, (A.room n4)⟩, ⟨.uni 1 (eL e_u8 [(b8 o3_0)]), .b true, (A.uni E_u8)⟩, ⟨.app (eL e_u8 o3_1) (eL e_u8 [(b8 o3_0)]), .l (eL e_u8 (o3_1 ++ [(b8 o3_0)])), A.app⟩] rfl fd_130 (by kernel_rfl)
  | false =>
   try dsimp only at h
   obtain rfl := Option.some.inj h
   exact call_wQ [.cl (ok_impl_in a0 0 2147483647 _ hr1), .nt false] rfl fd_130 (by kernel_rfl)
def S_impl_putNum_2 (a0 : Int) (e0 : (List UInt8)) : Option (List UInt8) := T_impl_putNum_2 10 a0 e0
theorem spec_impl_putNum_2 (a0 : Int) (e0 : (List UInt8)) (r : (List UInt8)) (h : S_impl_putNum_2 a0 e0 = some r) : ∃ n, T_impl_putNum_2 n a0 e0 = some r := ⟨_, h⟩
theorem ok_impl_putNum_2 (a0 : Int) (e0 : (List UInt8)) (r : (List UInt8)) (h : S_impl_putNum_2 a0 e0 = some r) : (mach cfg).call 130 [.obj 1 (eL e_u8 e0)] [.val false [.ref 0], .val false [.int .i64 a0]] = some (.val false [.own 1 (eL e_u8 r)], [.dead]) := by
  obtain ⟨n, hn⟩ := spec_impl_putNum_2 a0 e0 r h
  exact g_impl_putNum_2 n a0 e0 r hn
def S_impl_putText (a0 : (List UInt8)) (e0 : (List UInt8)) : Option (List UInt8) :=
  if 20 < ((a0.length : Nat) : Int) then
    some e0
  else
    (S_impl_putNum_2 ((a0.length : Nat) : Int) e0).bind fun r2 =>
    if roomP 1 (r2.length + a0.length) then
    some (r2 ++ a0)
    else none
set_option maxRecDepth 100000 in
theorem fd_131 : cfg.funcs 131 = some (bodyOf Tryz.f131, Tryz.f131.ntmps, Tryz.f131.results.toList) := fn_of Tryz.func131 (by kernel_rfl) (by kernel_rfl)
theorem ok_impl_putText (a0 : (List UInt8)) (e0 : (List UInt8)) (r : (List UInt8)) (h : S_impl_putText a0 e0 = some r) : (mach cfg).call 131 [.obj 1 (eL e_u8 e0)] [.val false [.ref 0], .val false [.seq (eL e_u8 a0)]] = some (.val false [.own 1 (eL e_u8 r)], [.dead]) := by
  unfold S_impl_putText at h
  rcases ite_some h with ⟨c1, h⟩ | ⟨c1, h⟩
  ·obtain rfl := Option.some.inj h
   exact call_wQ [.le e_u8 a0, .lT c1] rfl fd_131 (by kernel_rfl)
  ·obtain ⟨r2, hr2, h⟩ := bs h
   obtain ⟨n3, h⟩ := need_some h
   obtain rfl := Option.some.inj h
   exact call_wQ [.le e_u8 a0, .lF c1, .le e_u8 a0, .cl (ok_impl_putNum_2 ((a0.length : Nat) : Int) e0 _ hr2), ⟨.room 1 (eL e_u8 r2) (eL e_u8 a0), .b true, (A.room n3)⟩, ⟨.uni 1 (eL e_u8 a0), .b true, (A.uni E_u8)⟩, ⟨.app (eL e_u8 r2) (eL e_u8 a0), .l (eL e_u8 (r2 ++ a0)), A.app⟩] rfl fd_131 (by kernel_rfl)
def L_impl_Value_bytes_l0 (G_impl_Value_bytes : GValue → (List UInt8) → Option (List UInt8)) (v0 : (List GValue)) (v1 : Int) (a0 : GValue) : Nat → Int → (List UInt8) → Option (Int × (List UInt8))
  | 0, _, _ => none
  | m + 1, v2, v3 =>
    if v2 < v1 then
      (natO v2).bind fun i2 =>
      (v0[i2]?).bind fun x3 =>
      if a0.Kind = 5 then
        (a0.K[i2]?).bind fun x5 =>
        (S_impl_putText x5 v3).bind fun r6 =>
        (G_impl_Value_bytes x3 r6).bind fun r7 =>
        L_impl_Value_bytes_l0 G_impl_Value_bytes v0 v1 a0 m (w64 (v2 + 1)) r7
      else
        (G_impl_Value_bytes x3 v3).bind fun r5 =>
        L_impl_Value_bytes_l0 G_impl_Value_bytes v0 v1 a0 m (w64 (v2 + 1)) r5
    else
      some (v2, v3)
theorem gl_impl_Value_bytes_l0 (G_impl_Value_bytes : GValue → (List UInt8) → Option (List UInt8)) (H_impl_Value_bytes : ∀ (a0 : GValue) (e0 : (List UInt8)) (r : (List UInt8)), G_impl_Value_bytes a0 e0 = some r → (mach cfg).call 132 [.obj 1 (eL e_u8 e0)] [.val true [.int .i64 a0.Kind, .int .i64 a0.N, .seq (eL e_u8 a0.S), .seq (eL (e_sl e_u8) a0.K), .seq (eL e_GValue a0.L)], .val false [.ref 0]] = some (.val false [.own 1 (eL e_u8 r)], [.dead])) (v0 : (List GValue)) (v1 : Int) (a0 : GValue) (m : Nat) : ∀ (v2 : Int) (v3 : (List UInt8)) (o : (Int × (List UInt8))), L_impl_Value_bytes_l0 G_impl_Value_bytes v0 v1 a0 m v2 v3 = some o → (mach cfg).loop 132 (loopB Tryz.f132 0) ⟨[(1, .val false [.ref 1]), (2, .val false [.ptr 2 0]), (53, .val false [.seq (eL e_GValue v0)]), (54, .val false [.int .i64 v1]), (55, .val false [.int .i64 v2])], [.dead, .obj 1 (eL e_u8 v3), .var [.int .i64 a0.Kind, .int .i64 a0.N, .seq (eL e_u8 a0.S), .seq (eL (e_sl e_u8) a0.K), .seq (eL e_GValue a0.L)]], 1⟩ = some (match o with | ⟨o_0, o_1⟩ => (.exit 1, (⟨[(1, .val false [.ref 1]), (2, .val false [.ptr 2 0]), (53, .val false [.seq (eL e_GValue v0)]), (54, .val false [.int .i64 v1]), (55, .val false [.int .i64 o_0]), (56, .val false [.bool false])], [.dead, .obj 1 (eL e_u8 o_1), .var [.int .i64 a0.Kind, .int .i64 a0.N, .seq (eL e_u8 a0.S), .seq (eL (e_sl e_u8) a0.K), .seq (eL e_GValue a0.L)]], 1⟩ : S))) := by
  induction m with
  | zero => intro v2 v3 o h; cases h
  | succ m ih =>
    intro v2 v3 o h
    rw [L_impl_Value_bytes_l0] at h
    rcases ite_some h with ⟨c1, h⟩ | ⟨c1, h⟩
    ·obtain ⟨i2, hi2, h⟩ := bs h
     obtain ⟨x3, hx3, h⟩ := bs h
     rcases ite_some h with ⟨c4, h⟩ | ⟨c4, h⟩
     ·obtain ⟨x5, hx5, h⟩ := bs h
      obtain ⟨r6, hr6, h⟩ := bs h
      obtain ⟨r7, hr7, h⟩ := bs h
      exact loop_nQ [.lT c1, .na hi2, .ix hx3 (eq_GValue x3), .eT c4, .na hi2, .ix0 (e_sl e_u8) hx5, .cl (ok_impl_putText x5 v3 _ hr6), .cl (H_impl_Value_bytes x3 r6 _ hr7), .ad v2 1] (by kernel_rfl) (ih (w64 (v2 + 1)) r7 o h)
     ·obtain ⟨r5, hr5, h⟩ := bs h
      exact loop_nQ [.lT c1, .na hi2, .ix hx3 (eq_GValue x3), .eF c4, .cl (H_impl_Value_bytes x3 v3 _ hr5), .ad v2 1] (by kernel_rfl) (ih (w64 (v2 + 1)) r5 o h)
    ·obtain rfl := Option.some.inj h
     exact loop_eQ [.lF c1] (by kernel_rfl) (by intro h; cases h)
def T_impl_Value_bytes (G_impl_Value_bytes : GValue → (List UInt8) → Option (List UInt8)) (n : Nat) (a0 : GValue) (e0 : (List UInt8)) : Option (List UInt8) :=
  (S_impl_putNum_2 a0.Kind e0).bind fun r1 =>
  if a0.Kind = 1 then
    (S_impl_putNum_2 a0.N r1).bind fun r3 =>
    some r3
  else
    if a0.Kind = 2 then
      if a0.N < 0 then
        (S_impl_putNum_2 1 r1).bind fun r5 =>
        (S_impl_putNum_2 (w64 ((w64 (0 - a0.N)).tdiv 1000000)) r5).bind fun r6 =>
        (S_impl_putNum_2 ((w64 (0 - a0.N)).tmod 1000000) r6).bind fun r7 =>
        some r7
      else
        (S_impl_putNum_2 0 r1).bind fun r5 =>
        (S_impl_putNum_2 (w64 (a0.N.tdiv 1000000)) r5).bind fun r6 =>
        (S_impl_putNum_2 (a0.N.tmod 1000000) r6).bind fun r7 =>
        some r7
    else
      if a0.Kind = 3 then
        (S_impl_putText a0.S r1).bind fun r5 =>
        some r5
      else
        if a0.Kind = 4 then
          (S_impl_putNum_2 ((a0.L.length : Nat) : Int) r1).bind fun r6 =>
          (L_impl_Value_bytes_l0 G_impl_Value_bytes a0.L ((a0.L.length : Nat) : Int) a0 n 0 r6).bind fun ⟨o7_0, o7_1⟩ =>
          some o7_1
        else
          if a0.Kind = 5 then
            (S_impl_putNum_2 ((a0.L.length : Nat) : Int) r1).bind fun r7 =>
            (L_impl_Value_bytes_l0 G_impl_Value_bytes a0.L ((a0.L.length : Nat) : Int) a0 n 0 r7).bind fun ⟨o8_0, o8_1⟩ =>
            some o8_1
          else
            some r1
set_option maxRecDepth 100000 in
theorem fd_132 : cfg.funcs 132 = some (bodyOf Tryz.f132, Tryz.f132.ntmps, Tryz.f132.results.toList) := fn_of Tryz.func132 (by kernel_rfl) (by kernel_rfl)
theorem g_impl_Value_bytes (G_impl_Value_bytes : GValue → (List UInt8) → Option (List UInt8)) (H_impl_Value_bytes : ∀ (a0 : GValue) (e0 : (List UInt8)) (r : (List UInt8)), G_impl_Value_bytes a0 e0 = some r → (mach cfg).call 132 [.obj 1 (eL e_u8 e0)] [.val true [.int .i64 a0.Kind, .int .i64 a0.N, .seq (eL e_u8 a0.S), .seq (eL (e_sl e_u8) a0.K), .seq (eL e_GValue a0.L)], .val false [.ref 0]] = some (.val false [.own 1 (eL e_u8 r)], [.dead])) (n : Nat) (a0 : GValue) (e0 : (List UInt8)) (r : (List UInt8)) (h : T_impl_Value_bytes G_impl_Value_bytes n a0 e0 = some r) : (mach cfg).call 132 [.obj 1 (eL e_u8 e0)] [.val true [.int .i64 a0.Kind, .int .i64 a0.N, .seq (eL e_u8 a0.S), .seq (eL (e_sl e_u8) a0.K), .seq (eL e_GValue a0.L)], .val false [.ref 0]] = some (.val false [.own 1 (eL e_u8 r)], [.dead]) := by
  unfold T_impl_Value_bytes at h
  obtain ⟨r1, hr1, h⟩ := bs h
  rcases ite_some h with ⟨c2, h⟩ | ⟨c2, h⟩
  ·obtain ⟨r3, hr3, h⟩ := bs h
   obtain rfl := Option.some.inj h
   exact call_wQ [.cl (ok_impl_putNum_2 a0.Kind e0 _ hr1), .eT c2, .cl (ok_impl_putNum_2 a0.N r1 _ hr3)] rfl fd_132 (by kernel_rfl)
  ·rcases ite_some h with ⟨c3, h⟩ | ⟨c3, h⟩
   ·rcases ite_some h with ⟨c4, h⟩ | ⟨c4, h⟩
    ·obtain ⟨r5, hr5, h⟩ := bs h
     obtain ⟨r6, hr6, h⟩ := bs h
     obtain ⟨r7, hr7, h⟩ := bs h
     obtain rfl := Option.some.inj h
     exact call_wQ [.cl (ok_impl_putNum_2 a0.Kind e0 _ hr1), .eF c2, .eT c3, .lT c4, ⟨.neg .i64 a0.N, .i (w64 (0 - a0.N)), rfl⟩, .cl (ok_impl_putNum_2 1 r1 _ hr5), ⟨.nz 1000000, .b true, rfl⟩, ⟨.quo .i64 (w64 (0 - a0.N)) 1000000, .i (w64 ((w64 (0 - a0.N)).tdiv 1000000)), rfl⟩, .cl (ok_impl_putNum_2 (w64 ((w64 (0 - a0.N)).tdiv 1000000)) r5 _ hr6), ⟨.nz 1000000, .b true, rfl⟩, ⟨.rem (w64 (0 - a0.N)) 1000000, .i ((w64 (0 - a0.N)).tmod 1000000), rfl⟩, .cl (ok_impl_putNum_2 ((w64 (0 - a0.N)).tmod 1000000) r6 _ hr7)] rfl fd_132 (by kernel_rfl)
    ·obtain ⟨r5, hr5, h⟩ := bs h
     obtain ⟨r6, hr6, h⟩ := bs h
     obtain ⟨r7, hr7, h⟩ := bs h
     obtain rfl := Option.some.inj h
     exact call_wQ [.cl (ok_impl_putNum_2 a0.Kind e0 _ hr1), .eF c2, .eT c3, .lF c4, .cl (ok_impl_putNum_2 0 r1 _ hr5), ⟨.nz 1000000, .b true, rfl⟩, ⟨.quo .i64 a0.N 1000000, .i (w64 (a0.N.tdiv 1000000)), rfl⟩, .cl (ok_impl_putNum_2 (w64 (a0.N.tdiv 1000000)) r5 _ hr6), ⟨.nz 1000000, .b true, rfl⟩, ⟨.rem a0.N 1000000, .i (a0.N.tmod 1000000), rfl⟩, .cl (ok_impl_putNum_2 (a0.N.tmod 1000000) r6 _ hr7)] rfl fd_132 (by kernel_rfl)
   ·rcases ite_some h with ⟨c4, h⟩ | ⟨c4, h⟩
    ·obtain ⟨r5, hr5, h⟩ := bs h
     obtain rfl := Option.some.inj h
     exact call_wQ [.cl (ok_impl_putNum_2 a0.Kind e0 _ hr1), .eF c2, .eF c3, .eT c4, .cl (ok_impl_putText a0.S r1 _ hr5)] rfl fd_132 (by kernel_rfl)
    ·rcases ite_some h with ⟨c5, h⟩ | ⟨c5, h⟩
     ·obtain ⟨r6, hr6, h⟩ := bs h
      obtain ⟨⟨o7_0, o7_1⟩, ho7, h⟩ := bs h
      try dsimp only at h
      obtain rfl := Option.some.inj h
      exact call_wQ [.cl (ok_impl_putNum_2 a0.Kind e0 _ hr1), .eF c2, .eF c3, .eF c4, .eT c5, .le e_GValue a0.L, .cl (ok_impl_putNum_2 ((a0.L.length : Nat) : Int) r1 _ hr6), .le e_GValue a0.L, .lp (gl_impl_Value_bytes_l0 G_impl_Value_bytes H_impl_Value_bytes a0.L ((a0.L.length : Nat) : Int) a0 _ 0 r6 _ ho7)] rfl fd_132 (by kernel_rfl)
     ·rcases ite_some h with ⟨c6, h⟩ | ⟨c6, h⟩
      ·obtain ⟨r7, hr7, h⟩ := bs h
       obtain ⟨⟨o8_0, o8_1⟩, ho8, h⟩ := bs h
       try dsimp only at h
       obtain rfl := Option.some.inj h
       exact call_wQ [.cl (ok_impl_putNum_2 a0.Kind e0 _ hr1), .eF c2, .eF c3, .eF c4, .eF c5, .eT c6, .le e_GValue a0.L, .cl (ok_impl_putNum_2 ((a0.L.length : Nat) : Int) r1 _ hr7), .le e_GValue a0.L, .lp (gl_impl_Value_bytes_l0 G_impl_Value_bytes H_impl_Value_bytes a0.L ((a0.L.length : Nat) : Int) a0 _ 0 r7 _ ho8)] rfl fd_132 (by kernel_rfl)
      ·obtain rfl := Option.some.inj h
       exact call_wQ [.cl (ok_impl_putNum_2 a0.Kind e0 _ hr1), .eF c2, .eF c3, .eF c4, .eF c5, .eF c6] rfl fd_132 (by kernel_rfl)
def U_impl_Value_bytes : Nat → GValue → (List UInt8) → Option (List UInt8)
  | 0, _, _ => none
  | n + 1, a0, e0 => T_impl_Value_bytes (U_impl_Value_bytes n) n a0 e0
theorem rec_impl_Value_bytes (n : Nat) : (∀ (a0 : GValue) (e0 : (List UInt8)) (r : (List UInt8)), U_impl_Value_bytes n a0 e0 = some r → (mach cfg).call 132 [.obj 1 (eL e_u8 e0)] [.val true [.int .i64 a0.Kind, .int .i64 a0.N, .seq (eL e_u8 a0.S), .seq (eL (e_sl e_u8) a0.K), .seq (eL e_GValue a0.L)], .val false [.ref 0]] = some (.val false [.own 1 (eL e_u8 r)], [.dead])) := by
  induction n with
  | zero => exact fun _ _ _ h => (by rw [U_impl_Value_bytes] at h; cases h)
  | succ n ih =>
    have ih_impl_Value_bytes := ih
    exact fun a0 e0 r h => g_impl_Value_bytes (U_impl_Value_bytes n) ih_impl_Value_bytes n a0 e0 r (by rw [U_impl_Value_bytes] at h; exact h)
def S_impl_Value_bytes (a0 : GValue) (e0 : (List UInt8)) : Option (List UInt8) := U_impl_Value_bytes 100 a0 e0
theorem spec_impl_Value_bytes (a0 : GValue) (e0 : (List UInt8)) (r : (List UInt8)) (h : S_impl_Value_bytes a0 e0 = some r) : ∃ n, U_impl_Value_bytes n a0 e0 = some r := ⟨_, h⟩
theorem ok_impl_Value_bytes (a0 : GValue) (e0 : (List UInt8)) (r : (List UInt8)) (h : S_impl_Value_bytes a0 e0 = some r) : (mach cfg).call 132 [.obj 1 (eL e_u8 e0)] [.val true [.int .i64 a0.Kind, .int .i64 a0.N, .seq (eL e_u8 a0.S), .seq (eL (e_sl e_u8) a0.K), .seq (eL e_GValue a0.L)], .val false [.ref 0]] = some (.val false [.own 1 (eL e_u8 r)], [.dead]) := by
  obtain ⟨n, hn⟩ := spec_impl_Value_bytes a0 e0 r h
  exact (rec_impl_Value_bytes n) a0 e0 r hn
def L_impl_eventBytes_l0 (v0 : (List (List UInt8))) (v1 : Int) (a0 : GEvent) : Nat → Int → (List UInt8) → Option (Int × (List UInt8))
  | 0, _, _ => none
  | m + 1, v2, v4 =>
    if v2 < v1 then
      (natO v2).bind fun i2 =>
      (v0[i2]?).bind fun x3 =>
      (S_impl_putText x3 v4).bind fun r4 =>
      L_impl_eventBytes_l0 v0 v1 a0 m (w64 (v2 + 1)) r4
    else
      some (v2, v4)
theorem gl_impl_eventBytes_l0 (v0 : (List (List UInt8))) (v1 : Int) (a0 : GEvent) (m : Nat) : ∀ (v2 : Int) (v4 : (List UInt8)) (o : (Int × (List UInt8))), L_impl_eventBytes_l0 v0 v1 a0 m v2 v4 = some o → (mach cfg).loop 86 (loopB Tryz.f86 0) ⟨[(1, .val false [.ptr 0 0]), (3, .val false [.ref 1]), (33, .val false [.seq (eL (e_sl e_u8) v0)]), (34, .val false [.int .i64 v1]), (35, .val false [.int .i64 v2])], [.var [.int .i64 a0.Kind, .seq (eL e_u8 a0.Addr), .int .i64 a0.Act, .int .i64 a0.Val.Kind, .int .i64 a0.Val.N, .seq (eL e_u8 a0.Val.S), .seq (eL (e_sl e_u8) a0.Val.K), .seq (eL e_GValue a0.Val.L), .seq (eL (e_sl e_u8) a0.Deps)], .obj 1 (eL e_u8 v4)], 0⟩ = some (match o with | ⟨o_0, o_1⟩ => (.exit 1, (⟨[(1, .val false [.ptr 0 0]), (3, .val false [.ref 1]), (33, .val false [.seq (eL (e_sl e_u8) v0)]), (34, .val false [.int .i64 v1]), (35, .val false [.int .i64 o_0]), (36, .val false [.bool false])], [.var [.int .i64 a0.Kind, .seq (eL e_u8 a0.Addr), .int .i64 a0.Act, .int .i64 a0.Val.Kind, .int .i64 a0.Val.N, .seq (eL e_u8 a0.Val.S), .seq (eL (e_sl e_u8) a0.Val.K), .seq (eL e_GValue a0.Val.L), .seq (eL (e_sl e_u8) a0.Deps)], .obj 1 (eL e_u8 o_1)], 0⟩ : S))) := by
  induction m with
  | zero => intro v2 v4 o h; cases h
  | succ m ih =>
    intro v2 v4 o h
    rw [L_impl_eventBytes_l0] at h
    rcases ite_some h with ⟨c1, h⟩ | ⟨c1, h⟩
    ·obtain ⟨i2, hi2, h⟩ := bs h
     obtain ⟨x3, hx3, h⟩ := bs h
     obtain ⟨r4, hr4, h⟩ := bs h
     exact loop_nQ [.lT c1, .na hi2, .ix0 (e_sl e_u8) hx3, .cl (ok_impl_putText x3 v4 _ hr4), .ad v2 1] (by kernel_rfl) (ih (w64 (v2 + 1)) r4 o h)
    ·obtain rfl := Option.some.inj h
     exact loop_eQ [.lF c1] (by kernel_rfl) (by intro h; cases h)
def T_impl_eventBytes (n : Nat) (a0 : GEvent) : Option (List UInt8) :=
  (S_impl_putNum a0.Kind).bind fun r1 =>
  if 0 < ((a0.Addr.length : Nat) : Int) then
    (S_impl_putText a0.Addr r1).bind fun r3 =>
    if a0.Kind = 1 then
      (S_impl_putNum_2 a0.Act r3).bind fun r5 =>
      some r5
    else
      if a0.Kind = 2 then
        (S_impl_putNum_2 ((a0.Deps.length : Nat) : Int) r3).bind fun r6 =>
        (L_impl_eventBytes_l0 a0.Deps ((a0.Deps.length : Nat) : Int) a0 n 0 r6).bind fun ⟨o7_0, o7_1⟩ =>
        (S_impl_Value_bytes a0.Val o7_1).bind fun r8 =>
        some r8
      else
        some r3
  else
    if a0.Kind = 1 then
      (S_impl_putNum_2 a0.Act r1).bind fun r4 =>
      some r4
    else
      if a0.Kind = 2 then
        (S_impl_putNum_2 ((a0.Deps.length : Nat) : Int) r1).bind fun r5 =>
        (L_impl_eventBytes_l0 a0.Deps ((a0.Deps.length : Nat) : Int) a0 n 0 r5).bind fun ⟨o6_0, o6_1⟩ =>
        (S_impl_Value_bytes a0.Val o6_1).bind fun r7 =>
        some r7
      else
        some r1
set_option maxRecDepth 100000 in
theorem fd_86 : cfg.funcs 86 = some (bodyOf Tryz.f86, Tryz.f86.ntmps, Tryz.f86.results.toList) := fn_of Tryz.func86 (by kernel_rfl) (by kernel_rfl)
theorem g_impl_eventBytes (n : Nat) (a0 : GEvent) (r : (List UInt8)) (h : T_impl_eventBytes n a0 = some r) : (mach cfg).call 86 [] [.val true [.int .i64 a0.Kind, .seq (eL e_u8 a0.Addr), .int .i64 a0.Act, .int .i64 a0.Val.Kind, .int .i64 a0.Val.N, .seq (eL e_u8 a0.Val.S), .seq (eL (e_sl e_u8) a0.Val.K), .seq (eL e_GValue a0.Val.L), .seq (eL (e_sl e_u8) a0.Deps)]] = some (.val false [.own 1 (eL e_u8 r)], []) := by
  unfold T_impl_eventBytes at h
  obtain ⟨r1, hr1, h⟩ := bs h
  rcases ite_some h with ⟨c2, h⟩ | ⟨c2, h⟩
  ·obtain ⟨r3, hr3, h⟩ := bs h
   rcases ite_some h with ⟨c4, h⟩ | ⟨c4, h⟩
   ·obtain ⟨r5, hr5, h⟩ := bs h
    obtain rfl := Option.some.inj h
    exact call_wQ [.cl (ok_impl_putNum a0.Kind _ hr1), .le e_u8 a0.Addr, .lT c2, .cl (ok_impl_putText a0.Addr r1 _ hr3), .eT c4, .cl (ok_impl_putNum_2 a0.Act r3 _ hr5)] rfl fd_86 (by kernel_rfl)
   ·rcases ite_some h with ⟨c5, h⟩ | ⟨c5, h⟩
    ·obtain ⟨r6, hr6, h⟩ := bs h
     obtain ⟨⟨o7_0, o7_1⟩, ho7, h⟩ := bs h
     try dsimp only at h
     obtain ⟨r8, hr8, h⟩ := bs h
     obtain rfl := Option.some.inj h
     exact call_wQ [.cl (ok_impl_putNum a0.Kind _ hr1), .le e_u8 a0.Addr, .lT c2, .cl (ok_impl_putText a0.Addr r1 _ hr3), .eF c4, .eT c5, .le (e_sl e_u8) a0.Deps, .cl (ok_impl_putNum_2 ((a0.Deps.length : Nat) : Int) r3 _ hr6), .le (e_sl e_u8) a0.Deps, .lp (gl_impl_eventBytes_l0 a0.Deps ((a0.Deps.length : Nat) : Int) a0 _ 0 r6 _ ho7), .cl (ok_impl_Value_bytes a0.Val o7_1 _ hr8)] rfl fd_86 (by kernel_rfl)
    ·obtain rfl := Option.some.inj h
     exact call_wQ [.cl (ok_impl_putNum a0.Kind _ hr1), .le e_u8 a0.Addr, .lT c2, .cl (ok_impl_putText a0.Addr r1 _ hr3), .eF c4, .eF c5] rfl fd_86 (by kernel_rfl)
  ·rcases ite_some h with ⟨c3, h⟩ | ⟨c3, h⟩
   ·obtain ⟨r4, hr4, h⟩ := bs h
    obtain rfl := Option.some.inj h
    exact call_wQ [.cl (ok_impl_putNum a0.Kind _ hr1), .le e_u8 a0.Addr, .lF c2, .eT c3, .cl (ok_impl_putNum_2 a0.Act r1 _ hr4)] rfl fd_86 (by kernel_rfl)
   ·rcases ite_some h with ⟨c4, h⟩ | ⟨c4, h⟩
    ·obtain ⟨r5, hr5, h⟩ := bs h
     obtain ⟨⟨o6_0, o6_1⟩, ho6, h⟩ := bs h
     try dsimp only at h
     obtain ⟨r7, hr7, h⟩ := bs h
     obtain rfl := Option.some.inj h
     exact call_wQ [.cl (ok_impl_putNum a0.Kind _ hr1), .le e_u8 a0.Addr, .lF c2, .eF c3, .eT c4, .le (e_sl e_u8) a0.Deps, .cl (ok_impl_putNum_2 ((a0.Deps.length : Nat) : Int) r1 _ hr5), .le (e_sl e_u8) a0.Deps, .lp (gl_impl_eventBytes_l0 a0.Deps ((a0.Deps.length : Nat) : Int) a0 _ 0 r5 _ ho6), .cl (ok_impl_Value_bytes a0.Val o6_1 _ hr7)] rfl fd_86 (by kernel_rfl)
    ·obtain rfl := Option.some.inj h
     exact call_wQ [.cl (ok_impl_putNum a0.Kind _ hr1), .le e_u8 a0.Addr, .lF c2, .eF c3, .eF c4] rfl fd_86 (by kernel_rfl)
def S_impl_eventBytes (a0 : GEvent) : Option (List UInt8) := T_impl_eventBytes 100 a0
theorem spec_impl_eventBytes (a0 : GEvent) (r : (List UInt8)) (h : S_impl_eventBytes a0 = some r) : ∃ n, T_impl_eventBytes n a0 = some r := ⟨_, h⟩
theorem ok_impl_eventBytes (a0 : GEvent) (r : (List UInt8)) (h : S_impl_eventBytes a0 = some r) : (mach cfg).call 86 [] [.val true [.int .i64 a0.Kind, .seq (eL e_u8 a0.Addr), .int .i64 a0.Act, .int .i64 a0.Val.Kind, .int .i64 a0.Val.N, .seq (eL e_u8 a0.Val.S), .seq (eL (e_sl e_u8) a0.Val.K), .seq (eL e_GValue a0.Val.L), .seq (eL (e_sl e_u8) a0.Deps)]] = some (.val false [.own 1 (eL e_u8 r)], []) := by
  obtain ⟨n, hn⟩ := spec_impl_eventBytes a0 r h
  exact g_impl_eventBytes n a0 r hn
def S_impl_EventBytes (a0 : GEvent) : Option ((List UInt8) × Bool) :=
  (S_impl_isEvent a0).bind fun r1 =>
  match r1 with
  | true =>
    (S_impl_eventBytes a0).bind fun r3 =>
    some (r3, true)
  | false =>
    some ([], false)
set_option maxRecDepth 100000 in
theorem fd_37 : cfg.funcs 37 = some (bodyOf Tryz.f37, Tryz.f37.ntmps, Tryz.f37.results.toList) := fn_of Tryz.func37 (by kernel_rfl) (by kernel_rfl)
theorem ok_impl_EventBytes (a0 : GEvent) (r : ((List UInt8) × Bool)) (h : S_impl_EventBytes a0 = some r) : (mach cfg).call 37 [] [.val true [.int .i64 a0.Kind, .seq (eL e_u8 a0.Addr), .int .i64 a0.Act, .int .i64 a0.Val.Kind, .int .i64 a0.Val.N, .seq (eL e_u8 a0.Val.S), .seq (eL (e_sl e_u8) a0.Val.K), .seq (eL e_GValue a0.Val.L), .seq (eL (e_sl e_u8) a0.Deps)]] = some (.tup [(false, [.own 1 (eL e_u8 r.1)]), (false, [.bool r.2])], []) := by
  unfold S_impl_EventBytes at h
  obtain ⟨r1, hr1, h⟩ := bs h
  cases r1 with
  | true =>
   try dsimp only at h
   obtain ⟨r3, hr3, h⟩ := bs h
   obtain rfl := Option.some.inj h
   exact call_wQ [.cl (ok_impl_isEvent a0 _ hr1), .nt true, .cl (ok_impl_eventBytes a0 _ hr3)] rfl fd_37 (by kernel_rfl)
  | false =>
   try dsimp only at h
   obtain rfl := Option.some.inj h
   exact call_wQ [.cl (ok_impl_isEvent a0 _ hr1), .nt false] rfl fd_37 (by kernel_rfl)
def L_laws_eqByteS_l0 (a0 : (List UInt8)) (a1 : (List UInt8)) : Nat → Int → Option (Bool ⊕ Int)
  | 0, _ => none
  | m + 1, v2 =>
    if v2 < ((a0.length : Nat) : Int) then
      (natO v2).bind fun i2 =>
      (a0[i2]?).bind fun x3 =>
      (a1[i2]?).bind fun x4 =>
      if ((x3.toNat : Nat) : Int) = ((x4.toNat : Nat) : Int) then
        L_laws_eqByteS_l0 a0 a1 m (w64 (v2 + 1))
      else
        some (.inl false)
    else
      some (.inr v2)
theorem gl_laws_eqByteS_l0 (a0 : (List UInt8)) (a1 : (List UInt8)) (m : Nat) : ∀ (v2 : Int) (o : (Bool ⊕ Int)), L_laws_eqByteS_l0 a0 a1 m v2 = some o → (mach cfg).loop 27 (loopB Tryz.f27 0) ⟨[(0, .val false [.seq (eL e_u8 a0)]), (1, .val false [.seq (eL e_u8 a1)]), (5, .val false [.int .i64 v2])], [], 0⟩ = some (match o with | .inl o_0 => (.ret, (⟨[(4, .val false [.bool o_0])], [], 0⟩ : S)) | .inr (o_1) => (.exit 0, (⟨[(0, .val false [.seq (eL e_u8 a0)]), (1, .val false [.seq (eL e_u8 a1)]), (5, .val false [.int .i64 o_1]), (14, .val false [.bool false])], [], 0⟩ : S))) := by
  induction m with
  | zero => intro v2 o h; cases h
  | succ m ih =>
    intro v2 o h
    rw [L_laws_eqByteS_l0] at h
    rcases ite_some h with ⟨c1, h⟩ | ⟨c1, h⟩
    ·obtain ⟨i2, hi2, h⟩ := bs h
     obtain ⟨x3, hx3, h⟩ := bs h
     obtain ⟨x4, hx4, h⟩ := bs h
     rcases ite_some h with ⟨c5, h⟩ | ⟨c5, h⟩
     ·exact loop_nQ [.le e_u8 a0, .lT c1, .na hi2, .ix0 e_u8 hx3, .na hi2, .ix0 e_u8 hx4, .eT c5, .nt true, .ad v2 1] (by kernel_rfl) (ih (w64 (v2 + 1)) o h)
     ·obtain rfl := Option.some.inj h
      exact loop_eQ [.le e_u8 a0, .lT c1, .na hi2, .ix0 e_u8 hx3, .na hi2, .ix0 e_u8 hx4, .eF c5, .nt false] (by kernel_rfl) (by intro h; cases h)
    ·obtain rfl := Option.some.inj h
     exact loop_eQ [.le e_u8 a0, .lF c1] (by kernel_rfl) (by intro h; cases h)
def T_laws_eqByteS (n : Nat) (a0 : (List UInt8)) (a1 : (List UInt8)) : Option Bool :=
  if ((a0.length : Nat) : Int) = ((a1.length : Nat) : Int) then
    (L_laws_eqByteS_l0 a0 a1 n 0).bind fun o2 =>
    match o2 with
    | .inl o2_0 =>
      some o2_0
    | .inr (o2_1) =>
      some true
  else
    some false
set_option maxRecDepth 100000 in
theorem fd_27 : cfg.funcs 27 = some (bodyOf Tryz.f27, Tryz.f27.ntmps, Tryz.f27.results.toList) := fn_of Tryz.func27 (by kernel_rfl) (by kernel_rfl)
theorem g_laws_eqByteS (n : Nat) (a0 : (List UInt8)) (a1 : (List UInt8)) (r : Bool) (h : T_laws_eqByteS n a0 a1 = some r) : (mach cfg).call 27 [] [.val false [.seq (eL e_u8 a0)], .val false [.seq (eL e_u8 a1)]] = some (.val false [.bool r], []) := by
  unfold T_laws_eqByteS at h
  rcases ite_some h with ⟨c1, h⟩ | ⟨c1, h⟩
  ·obtain ⟨o2, ho2, h⟩ := bs h
   let p72 : List (Q cfg) := [.le e_u8 a0, .le e_u8 a1, .eT c1, .nt true, .lp (gl_laws_eqByteS_l0 a0 a1 _ 0 _ ho2)]
   rcases o2 with o2_0 | o2_1
   · try dsimp only at h
     obtain rfl := Option.some.inj h
     exact call_wQ p72 rfl fd_27 (by kernel_rfl)
   · try dsimp only at h
     obtain rfl := Option.some.inj h
     exact call_wQ p72 rfl fd_27 (by kernel_rfl)
  ·obtain rfl := Option.some.inj h
   exact call_wQ [.le e_u8 a0, .le e_u8 a1, .eF c1, .nt false] rfl fd_27 (by kernel_rfl)
theorem eqByteS_loop {a : List UInt8} (ha : a.length <= 2 ^ 40) : ∀ (d i m : Nat), i + d = a.length → d < m → ∃ z, L_laws_eqByteS_l0 a a m (i : Int) = some (.inr z) := by
  intro d
  induction d with
  | zero =>
    intro i m hi hm
    obtain ⟨m, rfl, _⟩ := fuel hm
    exact ⟨_, by rw [L_laws_eqByteS_l0, if_neg (by omega)]⟩
  | succ d ih =>
    intro i m hi hm
    obtain ⟨m, rfl, hm'⟩ := fuel hm
    have hil : i < a.length := by omega
    rw [L_laws_eqByteS_l0, if_pos (by omega), natO_nat, Option.bind_some, get_some hil, Option.bind_some, Option.bind_some, if_pos rfl, w64_succ (by omega)]
    exact ih (i + 1) m (by omega) (by omega)
def S_laws_eqByteS (a0 : (List UInt8)) (a1 : (List UInt8)) : Option Bool := if a0 = a1 ∧ a0.length <= 2 ^ 40 then some true else none
theorem spec_laws_eqByteS (a0 : (List UInt8)) (a1 : (List UInt8)) (r : Bool) (h : S_laws_eqByteS a0 a1 = some r) : ∃ n, T_laws_eqByteS n a0 a1 = some r := by
  unfold S_laws_eqByteS at h
  obtain ⟨⟨he, ha⟩, h2⟩ := need_c h
  clear h
  subst he
  refine ⟨a0.length + 1, ?_⟩
  obtain ⟨z, hz⟩ := eqByteS_loop ha a0.length 0 (a0.length + 1) (by omega) (by omega)
  rw [show ((0 : Nat) : Int) = 0 from rfl] at hz
  unfold T_laws_eqByteS
  rw [if_pos rfl, hz]; exact h2
theorem ok_laws_eqByteS (a0 : (List UInt8)) (a1 : (List UInt8)) (r : Bool) (h : S_laws_eqByteS a0 a1 = some r) : (mach cfg).call 27 [] [.val false [.seq (eL e_u8 a0)], .val false [.seq (eL e_u8 a1)]] = some (.val false [.bool r], []) := by
  obtain ⟨n, hn⟩ := spec_laws_eqByteS a0 a1 r h
  exact g_laws_eqByteS n a0 a1 r hn
def L_laws_eqByteSS_l0 (a0 : (List (List UInt8))) (a1 : (List (List UInt8))) : Nat → Int → Option (Bool ⊕ Int)
  | 0, _ => none
  | m + 1, v2 =>
    if v2 < ((a0.length : Nat) : Int) then
      (natO v2).bind fun i2 =>
      (a0[i2]?).bind fun x3 =>
      (a1[i2]?).bind fun x4 =>
      (S_laws_eqByteS x3 x4).bind fun r5 =>
      match r5 with
      | true =>
        L_laws_eqByteSS_l0 a0 a1 m (w64 (v2 + 1))
      | false =>
        some (.inl false)
    else
      some (.inr v2)
theorem gl_laws_eqByteSS_l0 (a0 : (List (List UInt8))) (a1 : (List (List UInt8))) (m : Nat) : ∀ (v2 : Int) (o : (Bool ⊕ Int)), L_laws_eqByteSS_l0 a0 a1 m v2 = some o → (mach cfg).loop 20 (loopB Tryz.f20 0) ⟨[(0, .val false [.seq (eL (e_sl e_u8) a0)]), (1, .val false [.seq (eL (e_sl e_u8) a1)]), (5, .val false [.int .i64 v2])], [], 0⟩ = some (match o with | .inl o_0 => (.ret, (⟨[(4, .val false [.bool o_0])], [], 0⟩ : S)) | .inr (o_1) => (.exit 0, (⟨[(0, .val false [.seq (eL (e_sl e_u8) a0)]), (1, .val false [.seq (eL (e_sl e_u8) a1)]), (5, .val false [.int .i64 o_1]), (14, .val false [.bool false])], [], 0⟩ : S))) := by
  induction m with
  | zero => intro v2 o h; cases h
  | succ m ih =>
    intro v2 o h
    rw [L_laws_eqByteSS_l0] at h
    rcases ite_some h with ⟨c1, h⟩ | ⟨c1, h⟩
    ·obtain ⟨i2, hi2, h⟩ := bs h
     obtain ⟨x3, hx3, h⟩ := bs h
     obtain ⟨x4, hx4, h⟩ := bs h
     obtain ⟨r5, hr5, h⟩ := bs h
     let p73 : List (Q cfg) := [.le (e_sl e_u8) a0, .lT c1, .na hi2, .ix0 (e_sl e_u8) hx3, .na hi2, .ix0 (e_sl e_u8) hx4, .cl (ok_laws_eqByteS x3 x4 _ hr5)]
     cases r5 with
     | true =>
      try dsimp only at h
      exact loop_nQ (p73 ++ [.nt true, .ad v2 1]) (by kernel_rfl) (ih (w64 (v2 + 1)) o h)
     | false =>
      try dsimp only at h
      obtain rfl := Option.some.inj h
      exact loop_eQ (p73 ++ [.nt false]) (by kernel_rfl) (by intro h; cases h)
    ·obtain rfl := Option.some.inj h
     exact loop_eQ [.le (e_sl e_u8) a0, .lF c1] (by kernel_rfl) (by intro h; cases h)
def T_laws_eqByteSS (n : Nat) (a0 : (List (List UInt8))) (a1 : (List (List UInt8))) : Option Bool :=
  if ((a0.length : Nat) : Int) = ((a1.length : Nat) : Int) then
    (L_laws_eqByteSS_l0 a0 a1 n 0).bind fun o2 =>
    match o2 with
    | .inl o2_0 =>
      some o2_0
    | .inr (o2_1) =>
      some true
  else
    some false
set_option maxRecDepth 100000 in
theorem fd_20 : cfg.funcs 20 = some (bodyOf Tryz.f20, Tryz.f20.ntmps, Tryz.f20.results.toList) := fn_of Tryz.func20 (by kernel_rfl) (by kernel_rfl)
theorem g_laws_eqByteSS (n : Nat) (a0 : (List (List UInt8))) (a1 : (List (List UInt8))) (r : Bool) (h : T_laws_eqByteSS n a0 a1 = some r) : (mach cfg).call 20 [] [.val false [.seq (eL (e_sl e_u8) a0)], .val false [.seq (eL (e_sl e_u8) a1)]] = some (.val false [.bool r], []) := by
  unfold T_laws_eqByteSS at h
  rcases ite_some h with ⟨c1, h⟩ | ⟨c1, h⟩
  ·obtain ⟨o2, ho2, h⟩ := bs h
   let p74 : List (Q cfg) := [.le (e_sl e_u8) a0, .le (e_sl e_u8) a1, .eT c1, .nt true, .lp (gl_laws_eqByteSS_l0 a0 a1 _ 0 _ ho2)]
   rcases o2 with o2_0 | o2_1
   · try dsimp only at h
     obtain rfl := Option.some.inj h
     exact call_wQ p74 rfl fd_20 (by kernel_rfl)
   · try dsimp only at h
     obtain rfl := Option.some.inj h
     exact call_wQ p74 rfl fd_20 (by kernel_rfl)
  ·obtain rfl := Option.some.inj h
   exact call_wQ [.le (e_sl e_u8) a0, .le (e_sl e_u8) a1, .eF c1, .nt false] rfl fd_20 (by kernel_rfl)
theorem eqByteSS_loop {a : List (List UInt8)} (ha : bsz a <= 2 ^ 40) : ∀ (d i m : Nat), i + d = a.length → d < m → ∃ z, L_laws_eqByteSS_l0 a a m (i : Int) = some (.inr z) := by
  have hl := bsz_len a
  intro d
  induction d with
  | zero =>
    intro i m hi hm
    obtain ⟨m, rfl, _⟩ := fuel hm
    exact ⟨_, by rw [L_laws_eqByteSS_l0, if_neg (by omega)]⟩
  | succ d ih =>
    intro i m hi hm
    obtain ⟨m, rfl, hm'⟩ := fuel hm
    have hil : i < a.length := by omega
    have hx := bsz_mem (List.getElem_mem hil)
    rw [L_laws_eqByteSS_l0, if_pos (by omega), natO_nat, Option.bind_some, get_some hil, Option.bind_some, Option.bind_some]
    unfold S_laws_eqByteS
    rw [if_pos ⟨rfl, by omega⟩, Option.bind_some, w64_succ (by omega)]
    exact ih (i + 1) m (by omega) (by omega)
def S_laws_eqByteSS (a0 : (List (List UInt8))) (a1 : (List (List UInt8))) : Option Bool := if a0 = a1 ∧ bsz a0 <= 2 ^ 40 then some true else none
theorem spec_laws_eqByteSS (a0 : (List (List UInt8))) (a1 : (List (List UInt8))) (r : Bool) (h : S_laws_eqByteSS a0 a1 = some r) : ∃ n, T_laws_eqByteSS n a0 a1 = some r := by
  unfold S_laws_eqByteSS at h
  obtain ⟨⟨he, ha⟩, h2⟩ := need_c h
  clear h
  subst he
  have hl := bsz_len a0
  refine ⟨a0.length + 1, ?_⟩
  obtain ⟨z, hz⟩ := eqByteSS_loop ha a0.length 0 (a0.length + 1) (by omega) (by omega)
  rw [show ((0 : Nat) : Int) = 0 from rfl] at hz
  unfold T_laws_eqByteSS
  rw [if_pos rfl, hz]; exact h2
theorem ok_laws_eqByteSS (a0 : (List (List UInt8))) (a1 : (List (List UInt8))) (r : Bool) (h : S_laws_eqByteSS a0 a1 = some r) : (mach cfg).call 20 [] [.val false [.seq (eL (e_sl e_u8) a0)], .val false [.seq (eL (e_sl e_u8) a1)]] = some (.val false [.bool r], []) := by
  obtain ⟨n, hn⟩ := spec_laws_eqByteSS a0 a1 r h
  exact g_laws_eqByteSS n a0 a1 r hn
def L_laws_eqValueS_l0 (G_laws_eqValue : GValue → GValue → Option Bool) (a0 : (List GValue)) (a1 : (List GValue)) : Nat → Int → Option (Bool ⊕ Int)
  | 0, _ => none
  | m + 1, v2 =>
    if v2 < ((a0.length : Nat) : Int) then
      (natO v2).bind fun i2 =>
      (a0[i2]?).bind fun x3 =>
      (a1[i2]?).bind fun x4 =>
      (G_laws_eqValue x3 x4).bind fun r5 =>
      match r5 with
      | true =>
        L_laws_eqValueS_l0 G_laws_eqValue a0 a1 m (w64 (v2 + 1))
      | false =>
        some (.inl false)
    else
      some (.inr v2)
theorem gl_laws_eqValueS_l0 (G_laws_eqValue : GValue → GValue → Option Bool) (H_laws_eqValue : ∀ (a0 : GValue) (a1 : GValue) (r : Bool), G_laws_eqValue a0 a1 = some r → (mach cfg).call 76 [] [.val true [.int .i64 a0.Kind, .int .i64 a0.N, .seq (eL e_u8 a0.S), .seq (eL (e_sl e_u8) a0.K), .seq (eL e_GValue a0.L)], .val true [.int .i64 a1.Kind, .int .i64 a1.N, .seq (eL e_u8 a1.S), .seq (eL (e_sl e_u8) a1.K), .seq (eL e_GValue a1.L)]] = some (.val false [.bool r], [])) (a0 : (List GValue)) (a1 : (List GValue)) (m : Nat) : ∀ (v2 : Int) (o : (Bool ⊕ Int)), L_laws_eqValueS_l0 G_laws_eqValue a0 a1 m v2 = some o → (mach cfg).loop 121 (loopB Tryz.f121 0) ⟨[(0, .val false [.seq (eL e_GValue a0)]), (1, .val false [.seq (eL e_GValue a1)]), (5, .val false [.int .i64 v2])], [], 0⟩ = some (match o with | .inl o_0 => (.ret, (⟨[(4, .val false [.bool o_0])], [], 0⟩ : S)) | .inr (o_1) => (.exit 0, (⟨[(0, .val false [.seq (eL e_GValue a0)]), (1, .val false [.seq (eL e_GValue a1)]), (5, .val false [.int .i64 o_1]), (14, .val false [.bool false])], [], 0⟩ : S))) := by
  induction m with
  | zero => intro v2 o h; cases h
  | succ m ih =>
    intro v2 o h
    rw [L_laws_eqValueS_l0] at h
    rcases ite_some h with ⟨c1, h⟩ | ⟨c1, h⟩
    ·obtain ⟨i2, hi2, h⟩ := bs h
     obtain ⟨x3, hx3, h⟩ := bs h
     obtain ⟨x4, hx4, h⟩ := bs h
     obtain ⟨r5, hr5, h⟩ := bs h
     let p75 : List (Q cfg) := [.le e_GValue a0, .lT c1, .na hi2, .ix hx3 (eq_GValue x3), .na hi2, .ix hx4 (eq_GValue x4), .cl (H_laws_eqValue x3 x4 _ hr5)]
     cases r5 with
     | true =>
      try dsimp only at h
      exact loop_nQ (p75 ++ [.nt true, .ad v2 1]) (by kernel_rfl) (ih (w64 (v2 + 1)) o h)
     | false =>
      try dsimp only at h
      obtain rfl := Option.some.inj h
      exact loop_eQ (p75 ++ [.nt false]) (by kernel_rfl) (by intro h; cases h)
    ·obtain rfl := Option.some.inj h
     exact loop_eQ [.le e_GValue a0, .lF c1] (by kernel_rfl) (by intro h; cases h)
def T_laws_eqValueS (G_laws_eqValue : GValue → GValue → Option Bool) (n : Nat) (a0 : (List GValue)) (a1 : (List GValue)) : Option Bool :=
  if ((a0.length : Nat) : Int) = ((a1.length : Nat) : Int) then
    (L_laws_eqValueS_l0 G_laws_eqValue a0 a1 n 0).bind fun o2 =>
    match o2 with
    | .inl o2_0 =>
      some o2_0
    | .inr (o2_1) =>
      some true
  else
    some false
set_option maxRecDepth 100000 in
theorem fd_121 : cfg.funcs 121 = some (bodyOf Tryz.f121, Tryz.f121.ntmps, Tryz.f121.results.toList) := fn_of Tryz.func121 (by kernel_rfl) (by kernel_rfl)
theorem g_laws_eqValueS (G_laws_eqValue : GValue → GValue → Option Bool) (H_laws_eqValue : ∀ (a0 : GValue) (a1 : GValue) (r : Bool), G_laws_eqValue a0 a1 = some r → (mach cfg).call 76 [] [.val true [.int .i64 a0.Kind, .int .i64 a0.N, .seq (eL e_u8 a0.S), .seq (eL (e_sl e_u8) a0.K), .seq (eL e_GValue a0.L)], .val true [.int .i64 a1.Kind, .int .i64 a1.N, .seq (eL e_u8 a1.S), .seq (eL (e_sl e_u8) a1.K), .seq (eL e_GValue a1.L)]] = some (.val false [.bool r], [])) (n : Nat) (a0 : (List GValue)) (a1 : (List GValue)) (r : Bool) (h : T_laws_eqValueS G_laws_eqValue n a0 a1 = some r) : (mach cfg).call 121 [] [.val false [.seq (eL e_GValue a0)], .val false [.seq (eL e_GValue a1)]] = some (.val false [.bool r], []) := by
  unfold T_laws_eqValueS at h
  rcases ite_some h with ⟨c1, h⟩ | ⟨c1, h⟩
  ·obtain ⟨o2, ho2, h⟩ := bs h
   let p76 : List (Q cfg) := [.le e_GValue a0, .le e_GValue a1, .eT c1, .nt true, .lp (gl_laws_eqValueS_l0 G_laws_eqValue H_laws_eqValue a0 a1 _ 0 _ ho2)]
   rcases o2 with o2_0 | o2_1
   · try dsimp only at h
     obtain rfl := Option.some.inj h
     exact call_wQ p76 rfl fd_121 (by kernel_rfl)
   · try dsimp only at h
     obtain rfl := Option.some.inj h
     exact call_wQ p76 rfl fd_121 (by kernel_rfl)
  ·obtain rfl := Option.some.inj h
   exact call_wQ [.le e_GValue a0, .le e_GValue a1, .eF c1, .nt false] rfl fd_121 (by kernel_rfl)
def T_laws_eqValue (G_laws_eqValueS : (List GValue) → (List GValue) → Option Bool) (a0 : GValue) (a1 : GValue) : Option Bool :=
  if a0.Kind = a1.Kind then
    if a0.N = a1.N then
      (S_laws_eqByteS a0.S a1.S).bind fun r3 =>
      match r3 with
      | true =>
        (S_laws_eqByteSS a0.K a1.K).bind fun r5 =>
        match r5 with
        | true =>
          (G_laws_eqValueS a0.L a1.L).bind fun r7 =>
          match r7 with
          | true =>
            some true
          | false =>
            some false
        | false =>
          some false
      | false =>
        some false
    else
      some false
  else
    some false
set_option maxRecDepth 100000 in
theorem fd_76 : cfg.funcs 76 = some (bodyOf Tryz.f76, Tryz.f76.ntmps, Tryz.f76.results.toList) := fn_of Tryz.func76 (by kernel_rfl) (by kernel_rfl)
theorem g_laws_eqValue (G_laws_eqValueS : (List GValue) → (List GValue) → Option Bool) (H_laws_eqValueS : ∀ (a0 : (List GValue)) (a1 : (List GValue)) (r : Bool), G_laws_eqValueS a0 a1 = some r → (mach cfg).call 121 [] [.val false [.seq (eL e_GValue a0)], .val false [.seq (eL e_GValue a1)]] = some (.val false [.bool r], [])) (a0 : GValue) (a1 : GValue) (r : Bool) (h : T_laws_eqValue G_laws_eqValueS a0 a1 = some r) : (mach cfg).call 76 [] [.val true [.int .i64 a0.Kind, .int .i64 a0.N, .seq (eL e_u8 a0.S), .seq (eL (e_sl e_u8) a0.K), .seq (eL e_GValue a0.L)], .val true [.int .i64 a1.Kind, .int .i64 a1.N, .seq (eL e_u8 a1.S), .seq (eL (e_sl e_u8) a1.K), .seq (eL e_GValue a1.L)]] = some (.val false [.bool r], []) := by
  unfold T_laws_eqValue at h
  rcases ite_some h with ⟨c1, h⟩ | ⟨c1, h⟩
  ·rcases ite_some h with ⟨c2, h⟩ | ⟨c2, h⟩
   ·obtain ⟨r3, hr3, h⟩ := bs h
    let p77 : List (Q cfg) := [.eT c1, .nt true, .eT c2, .nt true, .cl (ok_laws_eqByteS a0.S a1.S _ hr3)]
    cases r3 with
    | true =>
     try dsimp only at h
     obtain ⟨r5, hr5, h⟩ := bs h
     let p78 : List (Q cfg) := p77 ++ [.nt true, .cl (ok_laws_eqByteSS a0.K a1.K _ hr5)]
     cases r5 with
     | true =>
      try dsimp only at h
      obtain ⟨r7, hr7, h⟩ := bs h
      cases r7 with
      | true =>
       try dsimp only at h
       obtain rfl := Option.some.inj h
       exact call_wQ (p78 ++ [.nt true, .cl (H_laws_eqValueS a0.L a1.L _ hr7), .nt true]) rfl fd_76 (by kernel_rfl)
      | false =>
       try dsimp only at h
       obtain rfl := Option.some.inj h
       exact call_wQ (p78 ++ [.nt true, .cl (H_laws_eqValueS a0.L a1.L _ hr7), .nt false]) rfl fd_76 (by kernel_rfl)
     | false =>
      try dsimp only at h
      obtain rfl := Option.some.inj h
      exact call_wQ (p78 ++ [.nt false]) rfl fd_76 (by kernel_rfl)
    | false =>
     try dsimp only at h
     obtain rfl := Option.some.inj h
     exact call_wQ (p77 ++ [.nt false]) rfl fd_76 (by kernel_rfl)
   ·obtain rfl := Option.some.inj h
    exact call_wQ [.eT c1, .nt true, .eF c2, .nt false] rfl fd_76 (by kernel_rfl)
  ·obtain rfl := Option.some.inj h
   exact call_wQ [.eF c1, .nt false] rfl fd_76 (by kernel_rfl)
mutual
def U_laws_eqValueS : Nat → (List GValue) → (List GValue) → Option Bool
  | 0, _, _ => none
  | n + 1, a0, a1 => T_laws_eqValueS (U_laws_eqValue n) n a0 a1
def U_laws_eqValue : Nat → GValue → GValue → Option Bool
  | 0, _, _ => none
  | n + 1, a0, a1 => T_laws_eqValue (U_laws_eqValueS n) a0 a1
end
theorem rec_laws_eqValueS (n : Nat) : (∀ (a0 : (List GValue)) (a1 : (List GValue)) (r : Bool), U_laws_eqValueS n a0 a1 = some r → (mach cfg).call 121 [] [.val false [.seq (eL e_GValue a0)], .val false [.seq (eL e_GValue a1)]] = some (.val false [.bool r], [])) ∧ (∀ (a0 : GValue) (a1 : GValue) (r : Bool), U_laws_eqValue n a0 a1 = some r → (mach cfg).call 76 [] [.val true [.int .i64 a0.Kind, .int .i64 a0.N, .seq (eL e_u8 a0.S), .seq (eL (e_sl e_u8) a0.K), .seq (eL e_GValue a0.L)], .val true [.int .i64 a1.Kind, .int .i64 a1.N, .seq (eL e_u8 a1.S), .seq (eL (e_sl e_u8) a1.K), .seq (eL e_GValue a1.L)]] = some (.val false [.bool r], [])) := by
  induction n with
  | zero => exact ⟨fun _ _ _ h => (by rw [U_laws_eqValueS] at h; cases h), fun _ _ _ h => (by rw [U_laws_eqValue] at h; cases h)⟩
  | succ n ih =>
    obtain ⟨ih_laws_eqValueS, ih_laws_eqValue⟩ := ih
    exact ⟨fun a0 a1 r h => g_laws_eqValueS (U_laws_eqValue n) ih_laws_eqValue n a0 a1 r (by rw [U_laws_eqValueS] at h; exact h),
      fun a0 a1 r h => g_laws_eqValue (U_laws_eqValueS n) ih_laws_eqValueS a0 a1 r (by rw [U_laws_eqValue] at h; exact h)⟩
theorem eqValueS_T {G : GValue → GValue → Option Bool} {a : List GValue} {f : Nat} (ha : a.length <= 2 ^ 40) (hf : a.length < f) (hG : ∀ v ∈ a, G v v = some true) : T_laws_eqValueS G f a a = some true := by
  have loop : ∀ (d i m : Nat), i + d = a.length → d < m → ∃ z, L_laws_eqValueS_l0 G a a m (i : Int) = some (.inr z) := by
    intro d
    induction d with
    | zero =>
      intro i m hi hm
      obtain ⟨m, rfl, _⟩ := fuel hm
      exact ⟨_, by rw [L_laws_eqValueS_l0, if_neg (by omega)]⟩
    | succ d ih =>
      intro i m hi hm
      obtain ⟨m, rfl, hm'⟩ := fuel hm
      have hil : i < a.length := by omega
      rw [L_laws_eqValueS_l0, if_pos (by omega), natO_nat, Option.bind_some, get_some hil, Option.bind_some, Option.bind_some, hG _ (List.getElem_mem hil), Option.bind_some, w64_succ (by omega)]
      exact ih (i + 1) m (by omega) (by omega)
  obtain ⟨z, hz⟩ := loop a.length 0 f (by omega) (by omega)
  rw [show ((0 : Nat) : Int) = 0 from rfl] at hz
  unfold T_laws_eqValueS
  rw [if_pos rfl, hz]; rfl
theorem eqValue_U : ∀ (N : Nat) (v : GValue), vsz v < N → vsz v <= 2 ^ 40 → ∀ f : Nat, 2 * vsz v + 3 <= f → U_laws_eqValue f v v = some true := by
  intro N
  induction N with
  | zero => intro v hv; omega
  | succ N ih =>
    intro v hv hs f hf
    obtain ⟨f, rfl, _⟩ := fuel (show 0 < f by omega)
    obtain ⟨f, rfl, _⟩ := fuel (show 0 < f by omega)
    have he := vsz_eq v
    have hl := vszs_len v.L
    rw [U_laws_eqValue]
    unfold T_laws_eqValue S_laws_eqByteS S_laws_eqByteSS
    rw [if_pos rfl, if_pos rfl, if_pos (show v.S = v.S ∧ v.S.length <= 2 ^ 40 from ⟨rfl, by omega⟩), Option.bind_some]
    dsimp only
    rw [if_pos (show v.K = v.K ∧ bsz v.K <= 2 ^ 40 from ⟨rfl, by omega⟩), Option.bind_some]
    dsimp only
    rw [U_laws_eqValueS, eqValueS_T (by omega) (by omega) fun x hx => ?_]
    · rfl
    · have := vszs_mem hx
      exact ih x (by omega) (by omega) f (by omega)
open Classical in
noncomputable def S_laws_eqValueS (a0 : (List GValue)) (a1 : (List GValue)) : Option Bool := if a0 = a1 ∧ vszs a0 <= 2 ^ 40 then some true else none
theorem spec_laws_eqValueS (a0 : (List GValue)) (a1 : (List GValue)) (r : Bool) (h : S_laws_eqValueS a0 a1 = some r) : ∃ n, U_laws_eqValueS n a0 a1 = some r := by
  unfold S_laws_eqValueS at h
  obtain ⟨⟨he, ha⟩, h2⟩ := need_c h
  clear h
  subst he
  have hl := vszs_len a0
  refine ⟨2 * vszs a0 + 5, ?_⟩
  rw [U_laws_eqValueS, eqValueS_T (by omega) (by omega) fun x hx => ?_, h2]
  have := vszs_mem hx
  exact eqValue_U _ x (Nat.lt_succ_self _) (by omega) _ (by omega)
open Classical in
noncomputable def S_laws_eqValue (a0 : GValue) (a1 : GValue) : Option Bool := if a0 = a1 ∧ vsz a0 <= 2 ^ 40 then some true else none
theorem spec_laws_eqValue (a0 : GValue) (a1 : GValue) (r : Bool) (h : S_laws_eqValue a0 a1 = some r) : ∃ n, U_laws_eqValue n a0 a1 = some r := by
  unfold S_laws_eqValue at h
  obtain ⟨⟨he, ha⟩, h2⟩ := need_c h
  clear h
  subst he
  exact ⟨2 * vsz a0 + 3, by rw [<- h2]; exact eqValue_U _ a0 (Nat.lt_succ_self _) ha _ (Nat.le_refl _)⟩
theorem ok_laws_eqValueS (a0 : (List GValue)) (a1 : (List GValue)) (r : Bool) (h : S_laws_eqValueS a0 a1 = some r) : (mach cfg).call 121 [] [.val false [.seq (eL e_GValue a0)], .val false [.seq (eL e_GValue a1)]] = some (.val false [.bool r], []) := by
  obtain ⟨n, hn⟩ := spec_laws_eqValueS a0 a1 r h
  exact (rec_laws_eqValueS n).1 a0 a1 r hn
theorem ok_laws_eqValue (a0 : GValue) (a1 : GValue) (r : Bool) (h : S_laws_eqValue a0 a1 = some r) : (mach cfg).call 76 [] [.val true [.int .i64 a0.Kind, .int .i64 a0.N, .seq (eL e_u8 a0.S), .seq (eL (e_sl e_u8) a0.K), .seq (eL e_GValue a0.L)], .val true [.int .i64 a1.Kind, .int .i64 a1.N, .seq (eL e_u8 a1.S), .seq (eL (e_sl e_u8) a1.K), .seq (eL e_GValue a1.L)]] = some (.val false [.bool r], []) := by
  obtain ⟨n, hn⟩ := spec_laws_eqValue a0 a1 r h
  exact (rec_laws_eqValueS n).2 a0 a1 r hn
def S_laws_eqEvent (a0 : GEvent) (a1 : GEvent) : Option Bool :=
  if a0.Kind = a1.Kind then
    (S_laws_eqByteS a0.Addr a1.Addr).bind fun r2 =>
    match r2 with
    | true =>
      if a0.Act = a1.Act then
        (S_laws_eqValue a0.Val a1.Val).bind fun r5 =>
        match r5 with
        | true =>
          (S_laws_eqByteSS a0.Deps a1.Deps).bind fun r7 =>
          match r7 with
          | true =>
            some true
          | false =>
            some false
        | false =>
          some false
      else
        some false
    | false =>
      some false
  else
    some false
set_option maxRecDepth 100000 in
theorem fd_38 : cfg.funcs 38 = some (bodyOf Tryz.f38, Tryz.f38.ntmps, Tryz.f38.results.toList) := fn_of Tryz.func38 (by kernel_rfl) (by kernel_rfl)
theorem ok_laws_eqEvent (a0 : GEvent) (a1 : GEvent) (r : Bool) (h : S_laws_eqEvent a0 a1 = some r) : (mach cfg).call 38 [] [.val true [.int .i64 a0.Kind, .seq (eL e_u8 a0.Addr), .int .i64 a0.Act, .int .i64 a0.Val.Kind, .int .i64 a0.Val.N, .seq (eL e_u8 a0.Val.S), .seq (eL (e_sl e_u8) a0.Val.K), .seq (eL e_GValue a0.Val.L), .seq (eL (e_sl e_u8) a0.Deps)], .val true [.int .i64 a1.Kind, .seq (eL e_u8 a1.Addr), .int .i64 a1.Act, .int .i64 a1.Val.Kind, .int .i64 a1.Val.N, .seq (eL e_u8 a1.Val.S), .seq (eL (e_sl e_u8) a1.Val.K), .seq (eL e_GValue a1.Val.L), .seq (eL (e_sl e_u8) a1.Deps)]] = some (.val false [.bool r], []) := by
  unfold S_laws_eqEvent at h
  rcases ite_some h with ⟨c1, h⟩ | ⟨c1, h⟩
  ·obtain ⟨r2, hr2, h⟩ := bs h
   cases r2 with
   | true =>
    try dsimp only at h
    rcases ite_some h with ⟨c4, h⟩ | ⟨c4, h⟩
    ·obtain ⟨r5, hr5, h⟩ := bs h
     let p79 : List (Q cfg) := [.eT c1, .nt true, .cl (ok_laws_eqByteS a0.Addr a1.Addr _ hr2), .nt true, .eT c4, .nt true, .cl (ok_laws_eqValue a0.Val a1.Val _ hr5)]
     cases r5 with
     | true =>
      try dsimp only at h
      obtain ⟨r7, hr7, h⟩ := bs h
      cases r7 with
      | true =>
       try dsimp only at h
       obtain rfl := Option.some.inj h
       exact call_wQ (p79 ++ [.nt true, .cl (ok_laws_eqByteSS a0.Deps a1.Deps _ hr7), .nt true]) rfl fd_38 (by kernel_rfl)
      | false =>
       try dsimp only at h
       obtain rfl := Option.some.inj h
       exact call_wQ (p79 ++ [.nt true, .cl (ok_laws_eqByteSS a0.Deps a1.Deps _ hr7), .nt false]) rfl fd_38 (by kernel_rfl)
     | false =>
      try dsimp only at h
      obtain rfl := Option.some.inj h
      exact call_wQ (p79 ++ [.nt false]) rfl fd_38 (by kernel_rfl)
    ·obtain rfl := Option.some.inj h
     exact call_wQ [.eT c1, .nt true, .cl (ok_laws_eqByteS a0.Addr a1.Addr _ hr2), .nt true, .eF c4, .nt false] rfl fd_38 (by kernel_rfl)
   | false =>
    try dsimp only at h
    obtain rfl := Option.some.inj h
    exact call_wQ [.eT c1, .nt true, .cl (ok_laws_eqByteS a0.Addr a1.Addr _ hr2), .nt false] rfl fd_38 (by kernel_rfl)
  ·obtain rfl := Option.some.inj h
   exact call_wQ [.eF c1, .nt false] rfl fd_38 (by kernel_rfl)
def L_laws_markByteS_l0 : Nat → Int → Int → (List UInt8) → Option (Int × Int × (List UInt8))
  | 0, _, _, _ => none
  | m + 1, a0, v1, e0 =>
    if v1 < ((e0.length : Nat) : Int) then
      (natO v1).bind fun i2 =>
      (e0[i2]?).bind fun x3 =>
      L_laws_markByteS_l0 m (w64 (a0 + 1)) (w64 (v1 + 1)) (e0.set i2 (b8 a0))
    else
      some (a0, v1, e0)
theorem gl_laws_markByteS_l0 (m : Nat) : ∀ (a0 : Int) (v1 : Int) (e0 : (List UInt8)) (o : (Int × Int × (List UInt8))), L_laws_markByteS_l0 m a0 v1 e0 = some o → (mach cfg).loop 28 (loopB Tryz.f28 0) ⟨[(0, .val false [.ref 0]), (1, .val false [.int .i64 a0]), (5, .val false [.int .i64 v1])], [.obj 1 (eL e_u8 e0)], 1⟩ = some (match o with | ⟨o_0, o_1, o_2⟩ => (.exit 0, (⟨[(0, .val false [.ref 0]), (1, .val false [.int .i64 o_0]), (5, .val false [.int .i64 o_1]), (9, .val false [.bool false])], [.obj 1 (eL e_u8 o_2)], 1⟩ : S))) := by
  induction m with
  | zero => intro a0 v1 e0 o h; cases h
  | succ m ih =>
    intro a0 v1 e0 o h
    rw [L_laws_markByteS_l0] at h
    rcases ite_some h with ⟨c1, h⟩ | ⟨c1, h⟩
    ·obtain ⟨i2, hi2, h⟩ := bs h
     obtain ⟨x3, hx3, h⟩ := bs h
     exact loop_nQ [.le e_u8 e0, .lT c1, ⟨.conv .u8 a0, .i (((b8 a0).toNat : Nat) : Int), A.conv8⟩, .na hi2, .ix0 e_u8 hx3, .ix0 e_u8 hx3, ⟨.setL (eL e_u8 e0) i2 [.int .u8 (((b8 a0).toNat : Nat) : Int)], .l (eL e_u8 (e0.set i2 (b8 a0))), (A.setL rfl)⟩, .ad a0 1, .ad v1 1] (by kernel_rfl) (ih (w64 (a0 + 1)) (w64 (v1 + 1)) (e0.set i2 (b8 a0)) o h)
    ·obtain rfl := Option.some.inj h
     exact loop_eQ [.le e_u8 e0, .lF c1] (by kernel_rfl) (by intro h; cases h)
def T_laws_markByteS (n : Nat) (a0 : Int) (e0 : (List UInt8)) : Option (Int × (List UInt8)) :=
  (L_laws_markByteS_l0 n a0 0 e0).bind fun ⟨o1_0, o1_1, o1_2⟩ =>
  some (o1_0, o1_2)
set_option maxRecDepth 100000 in
theorem fd_28 : cfg.funcs 28 = some (bodyOf Tryz.f28, Tryz.f28.ntmps, Tryz.f28.results.toList) := fn_of Tryz.func28 (by kernel_rfl) (by kernel_rfl)
theorem g_laws_markByteS (n : Nat) (a0 : Int) (e0 : (List UInt8)) (r : (Int × (List UInt8))) (h : T_laws_markByteS n a0 e0 = some r) : (mach cfg).call 28 [.obj 1 (eL e_u8 e0)] [.val false [.ref 0], .val false [.int .i64 a0]] = some (.val false [.int .i64 r.1], [.obj 1 (eL e_u8 r.2)]) := by
  unfold T_laws_markByteS at h
  obtain ⟨⟨o1_0, o1_1, o1_2⟩, ho1, h⟩ := bs h
  try dsimp only at h
  obtain rfl := Option.some.inj h
  exact call_wQ [.lp (gl_laws_markByteS_l0 _ a0 0 e0 _ ho1)] rfl fd_28 (by kernel_rfl)
theorem markByteS_loop : ∀ (l p : List UInt8) (k : Int) (m : Nat), 0 <= k → k + 2 * l.length <= 2 ^ 41 → p.length + l.length <= 2 ^ 41 → l.length < m → ∃ z, L_laws_markByteS_l0 m k ((p.length : Nat) : Int) (p ++ l) = some (k + l.length, z, p ++ mB k l) := by
  intro l
  induction l with
  | nil =>
    intro p k m _ _ _ hm
    obtain ⟨m, rfl, _⟩ := fuel hm
    exact ⟨_, by rw [L_laws_markByteS_l0, if_neg (nlt_end p)]; simp [mB]; rfl⟩
  | cons x l ih =>
    intro p k m h0 h1 h2 hm
    obtain ⟨m, rfl, hm'⟩ := fuel hm
    simp only [List.length_cons] at h1 h2 hm'
    obtain ⟨z, hz⟩ := ih (p ++ [b8 k]) (k + 1) m (by omega) (by omega) (by simp; omega) (by omega)
    rw [L_laws_markByteS_l0, if_pos (lt_mid p x l), natO_nat, Option.bind_some, get_mid, Option.bind_some, set_mid, w64_len p (b8 k) (by omega), w64_id (x := k + 1) (by omega) (by omega), snoc_app p (b8 k) l, hz]
    refine ⟨z, ?_⟩
    rw [mB, snoc_app p (b8 k) (mB (k + 1) l)]
    simp only [List.length_cons]
    rw [show k + 1 + (l.length : Int) = k + ((l.length + 1 : Nat) : Int) by omega]
def S_laws_markByteS (a0 : Int) (e0 : (List UInt8)) : Option (Int × (List UInt8)) := if 0 <= a0 ∧ a0 + 2 * e0.length <= 2 ^ 41 then some (a0 + e0.length, mB a0 e0) else none
theorem markByteS_eq {a : Int} {s : List UInt8} (h0 : 0 <= a) (h1 : a + 2 * s.length <= 2 ^ 41) : S_laws_markByteS a s = some (a + s.length, mB a s) := if_pos ⟨h0, h1⟩
theorem spec_laws_markByteS (a0 : Int) (e0 : (List UInt8)) (r : (Int × (List UInt8))) (h : S_laws_markByteS a0 e0 = some r) : ∃ n, T_laws_markByteS n a0 e0 = some r := by
  unfold S_laws_markByteS at h
  obtain ⟨⟨h0, h1⟩, h⟩ := need_c h
  obtain ⟨z, hz⟩ := markByteS_loop e0 [] a0 (e0.length + 1) h0 h1 (by simp; omega) (by omega)
  refine ⟨e0.length + 1, ?_⟩
  unfold T_laws_markByteS
  simp only [List.nil_append, List.length_nil, Int.natCast_zero] at hz
  rw [hz]
  exact h
theorem ok_laws_markByteS (a0 : Int) (e0 : (List UInt8)) (r : (Int × (List UInt8))) (h : S_laws_markByteS a0 e0 = some r) : (mach cfg).call 28 [.obj 1 (eL e_u8 e0)] [.val false [.ref 0], .val false [.int .i64 a0]] = some (.val false [.int .i64 r.1], [.obj 1 (eL e_u8 r.2)]) := by
  obtain ⟨n, hn⟩ := spec_laws_markByteS a0 e0 r h
  exact g_laws_markByteS n a0 e0 r hn
def L_laws_markByteSS_l0 : Nat → Int → Int → (List (List UInt8)) → Option (Int × Int × (List (List UInt8)))
  | 0, _, _, _ => none
  | m + 1, a0, v1, e0 =>
    if v1 < ((e0.length : Nat) : Int) then
      (natO v1).bind fun i2 =>
      (e0[i2]?).bind fun x3 =>
      (S_laws_markByteS a0 x3).bind fun ⟨r4_0, r4_1⟩ =>
      L_laws_markByteSS_l0 m r4_0 (w64 (v1 + 1)) (e0.set i2 r4_1)
    else
      some (a0, v1, e0)
theorem gl_laws_markByteSS_l0 (m : Nat) : ∀ (a0 : Int) (v1 : Int) (e0 : (List (List UInt8))) (o : (Int × Int × (List (List UInt8)))), L_laws_markByteSS_l0 m a0 v1 e0 = some o → (mach cfg).loop 22 (loopB Tryz.f22 0) ⟨[(0, .val false [.ref 0]), (1, .val false [.int .i64 a0]), (5, .val false [.int .i64 v1])], [.obj 1 (eL (o_sl 1 e_u8) e0)], 1⟩ = some (match o with | ⟨o_0, o_1, o_2⟩ => (.exit 0, (⟨[(0, .val false [.ref 0]), (1, .val false [.int .i64 o_0]), (5, .val false [.int .i64 o_1]), (9, .val false [.bool false])], [.obj 1 (eL (o_sl 1 e_u8) o_2)], 1⟩ : S))) := by
  induction m with
  | zero => intro a0 v1 e0 o h; cases h
  | succ m ih =>
    intro a0 v1 e0 o h
    rw [L_laws_markByteSS_l0] at h
    rcases ite_some h with ⟨c1, h⟩ | ⟨c1, h⟩
    ·obtain ⟨i2, hi2, h⟩ := bs h
     obtain ⟨x3, hx3, h⟩ := bs h
     obtain ⟨⟨r4_0, r4_1⟩, hr4, h⟩ := bs h
     try dsimp only at h
     exact loop_nQ [.le (o_sl 1 e_u8) e0, .lT c1, .na hi2, .ix0 (o_sl 1 e_u8) hx3, .ix0 (o_sl 1 e_u8) hx3, .cl (ok_laws_markByteS a0 x3 _ hr4), .ix0 (o_sl 1 e_u8) hx3, ⟨.setL (eL (o_sl 1 e_u8) e0) i2 [.own 1 (eL e_u8 r4_1)], .l (eL (o_sl 1 e_u8) (e0.set i2 r4_1)), (A.setL rfl)⟩, .ad v1 1] (by kernel_rfl) (ih r4_0 (w64 (v1 + 1)) (e0.set i2 r4_1) o h)
    ·obtain rfl := Option.some.inj h
     exact loop_eQ [.le (o_sl 1 e_u8) e0, .lF c1] (by kernel_rfl) (by intro h; cases h)
def T_laws_markByteSS (n : Nat) (a0 : Int) (e0 : (List (List UInt8))) : Option (Int × (List (List UInt8))) :=
  (L_laws_markByteSS_l0 n a0 0 e0).bind fun ⟨o1_0, o1_1, o1_2⟩ =>
  some (o1_0, o1_2)
set_option maxRecDepth 100000 in
theorem fd_22 : cfg.funcs 22 = some (bodyOf Tryz.f22, Tryz.f22.ntmps, Tryz.f22.results.toList) := fn_of Tryz.func22 (by kernel_rfl) (by kernel_rfl)
theorem g_laws_markByteSS (n : Nat) (a0 : Int) (e0 : (List (List UInt8))) (r : (Int × (List (List UInt8)))) (h : T_laws_markByteSS n a0 e0 = some r) : (mach cfg).call 22 [.obj 1 (eL (o_sl 1 e_u8) e0)] [.val false [.ref 0], .val false [.int .i64 a0]] = some (.val false [.int .i64 r.1], [.obj 1 (eL (o_sl 1 e_u8) r.2)]) := by
  unfold T_laws_markByteSS at h
  obtain ⟨⟨o1_0, o1_1, o1_2⟩, ho1, h⟩ := bs h
  try dsimp only at h
  obtain rfl := Option.some.inj h
  exact call_wQ [.lp (gl_laws_markByteSS_l0 _ a0 0 e0 _ ho1)] rfl fd_22 (by kernel_rfl)
theorem markByteSS_loop : ∀ (l p : List (List UInt8)) (k : Int) (m : Nat), 0 <= k → k + 2 * bsz l <= 2 ^ 41 → p.length + l.length <= 2 ^ 41 → l.length < m → ∃ z, L_laws_markByteSS_l0 m k ((p.length : Nat) : Int) (p ++ l) = some (k + cB l, z, p ++ mBB k l) := by
  intro l
  induction l with
  | nil =>
    intro p k m _ _ _ hm
    obtain ⟨m, rfl, _⟩ := fuel hm
    exact ⟨_, by rw [L_laws_markByteSS_l0, if_neg (nlt_end p)]; simp [mBB, cB]; rfl⟩
  | cons x l ih =>
    intro p k m h0 h1 h2 hm
    obtain ⟨m, rfl, hm'⟩ := fuel hm
    rw [bsz_cons] at h1
    simp only [List.length_cons] at h2 hm'
    obtain ⟨z, hz⟩ := ih (p ++ [mB k x]) (k + x.length) m (by omega) (by omega) (by simp; omega) (by omega)
    rw [L_laws_markByteSS_l0, if_pos (lt_mid p x l), natO_nat, Option.bind_some, get_mid, Option.bind_some, markByteS_eq (by omega) (by omega), Option.bind_some]
    dsimp only
    rw [set_mid, w64_len p (mB k x) (by omega), snoc_app p (mB k x) l, hz]
    refine ⟨z, ?_⟩
    rw [mBB, snoc_app p (mB k x) (mBB (k + x.length) l), cB_cons]
    rw [show k + (x.length : Int) + (cB l : Int) = k + ((x.length + cB l : Nat) : Int) by omega]
def S_laws_markByteSS (a0 : Int) (e0 : (List (List UInt8))) : Option (Int × (List (List UInt8))) := if 0 <= a0 ∧ a0 + 2 * bsz e0 <= 2 ^ 41 then some (a0 + cB e0, mBB a0 e0) else none
theorem markByteSS_eq {a : Int} {s : List (List UInt8)} (h0 : 0 <= a) (h1 : a + 2 * bsz s <= 2 ^ 41) : S_laws_markByteSS a s = some (a + cB s, mBB a s) := if_pos ⟨h0, h1⟩
theorem spec_laws_markByteSS (a0 : Int) (e0 : (List (List UInt8))) (r : (Int × (List (List UInt8)))) (h : S_laws_markByteSS a0 e0 = some r) : ∃ n, T_laws_markByteSS n a0 e0 = some r := by
  unfold S_laws_markByteSS at h
  obtain ⟨⟨h0, h1⟩, h⟩ := need_c h
  have := bsz_len e0
  obtain ⟨z, hz⟩ := markByteSS_loop e0 [] a0 (e0.length + 1) h0 h1 (by simp; omega) (by omega)
  refine ⟨e0.length + 1, ?_⟩
  unfold T_laws_markByteSS
  simp only [List.nil_append, List.length_nil, Int.natCast_zero] at hz
  rw [hz]
  exact h
theorem ok_laws_markByteSS (a0 : Int) (e0 : (List (List UInt8))) (r : (Int × (List (List UInt8)))) (h : S_laws_markByteSS a0 e0 = some r) : (mach cfg).call 22 [.obj 1 (eL (o_sl 1 e_u8) e0)] [.val false [.ref 0], .val false [.int .i64 a0]] = some (.val false [.int .i64 r.1], [.obj 1 (eL (o_sl 1 e_u8) r.2)]) := by
  obtain ⟨n, hn⟩ := spec_laws_markByteSS a0 e0 r h
  exact g_laws_markByteSS n a0 e0 r hn
def L_laws_markValueS_l0 (G_laws_markValueS : Int → (List GValue) → Option (Int × (List GValue))) : Nat → Int → Int → (List GValue) → Option (Int × Int × (List GValue))
  | 0, _, _, _ => none
  | m + 1, a0, v1, e0 =>
    if v1 < ((e0.length : Nat) : Int) then
      (natO v1).bind fun i2 =>
      (e0[i2]?).bind fun x3 =>
      ((e0.set i2 (GValue.mk a0 x3.N x3.S x3.K x3.L))[i2]?).bind fun x4 =>
      (((e0.set i2 (GValue.mk a0 x3.N x3.S x3.K x3.L)).set i2 (GValue.mk x4.Kind (w64 (a0 + 1)) x4.S x4.K x4.L))[i2]?).bind fun x5 =>
      (S_laws_markByteS (w64 ((w64 (a0 + 1)) + 1)) x5.S).bind fun ⟨r6_0, r6_1⟩ =>
      ((((e0.set i2 (GValue.mk a0 x3.N x3.S x3.K x3.L)).set i2 (GValue.mk x4.Kind (w64 (a0 + 1)) x4.S x4.K x4.L)).set i2 (GValue.mk x5.Kind x5.N r6_1 x5.K x5.L))[i2]?).bind fun x7 =>
      (S_laws_markByteSS r6_0 x7.K).bind fun ⟨r8_0, r8_1⟩ =>
      (((((e0.set i2 (GValue.mk a0 x3.N x3.S x3.K x3.L)).set i2 (GValue.mk x4.Kind (w64 (a0 + 1)) x4.S x4.K x4.L)).set i2 (GValue.mk x5.Kind x5.N r6_1 x5.K x5.L)).set i2 (GValue.mk x7.Kind x7.N x7.S r8_1 x7.L))[i2]?).bind fun x9 =>
      (G_laws_markValueS r8_0 x9.L).bind fun ⟨r10_0, r10_1⟩ =>
      L_laws_markValueS_l0 G_laws_markValueS m r10_0 (w64 (v1 + 1)) (((((e0.set i2 (GValue.mk a0 x3.N x3.S x3.K x3.L)).set i2 (GValue.mk x4.Kind (w64 (a0 + 1)) x4.S x4.K x4.L)).set i2 (GValue.mk x5.Kind x5.N r6_1 x5.K x5.L)).set i2 (GValue.mk x7.Kind x7.N x7.S r8_1 x7.L)).set i2 (GValue.mk x9.Kind x9.N x9.S x9.K r10_1))
    else
      some (a0, v1, e0)
theorem gl_laws_markValueS_l0 (G_laws_markValueS : Int → (List GValue) → Option (Int × (List GValue))) (H_laws_markValueS : ∀ (a0 : Int) (e0 : (List GValue)) (r : (Int × (List GValue))), G_laws_markValueS a0 e0 = some r → (mach cfg).call 114 [.obj 5 (eL o_GValue e0)] [.val false [.ref 0], .val false [.int .i64 a0]] = some (.val false [.int .i64 r.1], [.obj 5 (eL o_GValue r.2)])) (m : Nat) : ∀ (a0 : Int) (v1 : Int) (e0 : (List GValue)) (o : (Int × Int × (List GValue))), L_laws_markValueS_l0 G_laws_markValueS m a0 v1 e0 = some o → (mach cfg).loop 114 (loopB Tryz.f114 0) ⟨[(0, .val false [.ref 0]), (1, .val false [.int .i64 a0]), (5, .val false [.int .i64 v1])], [.obj 5 (eL o_GValue e0)], 1⟩ = some (match o with | ⟨o_0, o_1, o_2⟩ => (.exit 0, (⟨[(0, .val false [.ref 0]), (1, .val false [.int .i64 o_0]), (5, .val false [.int .i64 o_1]), (9, .val false [.bool false])], [.obj 5 (eL o_GValue o_2)], 1⟩ : S))) := by
  induction m with
  | zero => intro a0 v1 e0 o h; cases h
  | succ m ih =>
    intro a0 v1 e0 o h
    rw [L_laws_markValueS_l0] at h
    rcases ite_some h with ⟨c1, h⟩ | ⟨c1, h⟩
    ·obtain ⟨i2, hi2, h⟩ := bs h
     obtain ⟨x3, hx3, h⟩ := bs h
     obtain ⟨x4, hx4, h⟩ := bs h
     obtain ⟨x5, hx5, h⟩ := bs h
     obtain ⟨⟨r6_0, r6_1⟩, hr6, h⟩ := bs h
     try dsimp only at h
     obtain ⟨x7, hx7, h⟩ := bs h
     obtain ⟨⟨r8_0, r8_1⟩, hr8, h⟩ := bs h
     try dsimp only at h
     obtain ⟨x9, hx9, h⟩ := bs h
     obtain ⟨⟨r10_0, r10_1⟩, hr10, h⟩ := bs h
     try dsimp only at h
     exact loop_nQ [.le o_GValue e0, .lT c1, .na hi2, .ix hx3 (oeq_GValue x3), .ix hx3 (oeq_GValue x3), ⟨.setL (eL o_GValue e0) i2 [.int .i64 a0, .int .i64 x3.N, .own 1 (eL e_u8 x3.S), .own 1 (eL (o_sl 1 e_u8) x3.K), .own 5 (eL o_GValue x3.L)], .l (eL o_GValue (e0.set i2 (GValue.mk a0 x3.N x3.S x3.K x3.L))), (A.setL (oeq_GValue (GValue.mk a0 x3.N x3.S x3.K x3.L)))⟩, .ad a0 1, .na hi2, .ix hx4 (oeq_GValue x4), .ix hx4 (oeq_GValue x4), ⟨.setL (eL o_GValue (e0.set i2 (GValue.mk a0 x3.N x3.S x3.K x3.L))) i2 [.int .i64 x4.Kind, .int .i64 (w64 (a0 + 1)), .own 1 (eL e_u8 x4.S), .own 1 (eL (o_sl 1 e_u8) x4.K), .own 5 (eL o_GValue x4.L)], .l (eL o_GValue ((e0.set i2 (GValue.mk a0 x3.N x3.S x3.K x3.L)).set i2 (GValue.mk x4.Kind (w64 (a0 + 1)) x4.S x4.K x4.L))), (A.setL (oeq_GValue (GValue.mk x4.Kind (w64 (a0 + 1)) x4.S x4.K x4.L)))⟩, .ad (w64 (a0 + 1)) 1, .na hi2, .ix hx5 (oeq_GValue x5), .ix hx5 (oeq_GValue x5), .cl (ok_laws_markByteS (w64 ((w64 (a0 + 1)) + 1)) x5.S _ hr6), .ix hx5 (oeq_GValue x5), ⟨.setL (eL o_GValue ((e0.set i2 (GValue.mk a0 x3.N x3.S x3.K x3.L)).set i2 (GValue.mk x4.Kind (w64 (a0 + 1)) x4.S x4.K x4.L))) i2 [.int .i64 x5.Kind, .int .i64 x5.N, .own 1 (eL e_u8 r6_1), .own 1 (eL (o_sl 1 e_u8) x5.K), .own 5 (eL o_GValue x5.L)], .l (eL o_GValue (((e0.set i2 (GValue.mk a0 x3.N x3.S x3.K x3.L)).set i2 (GValue.mk x4.Kind (w64 (a0 + 1)) x4.S x4.K x4.L)).set i2 (GValue.mk x5.Kind x5.N r6_1 x5.K x5.L))), (A.setL (oeq_GValue (GValue.mk x5.Kind x5.N r6_1 x5.K x5.L)))⟩, .na hi2, .ix hx7 (oeq_GValue x7), .ix hx7 (oeq_GValue x7), .cl (ok_laws_markByteSS r6_0 x7.K _ hr8), .ix hx7 (oeq_GValue x7), ⟨.setL (eL o_GValue (((e0.set i2 (GValue.mk a0 x3.N x3.S x3.K x3.L)).set i2 (GValue.mk x4.Kind (w64 (a0 + 1)) x4.S x4.K x4.L)).set i2 (GValue.mk x5.Kind x5.N r6_1 x5.K x5.L))) i2 [.int .i64 x7.Kind, .int .i64 x7.N, .own 1 (eL e_u8 x7.S), .own 1 (eL (o_sl 1 e_u8) r8_1), .own 5 (eL o_GValue x7.L)], .l (eL o_GValue ((((e0.set i2 (GValue.mk a0 x3.N x3.S x3.K x3.L)).set i2 (GValue.mk x4.Kind (w64 (a0 + 1)) x4.S x4.K x4.L)).set i2 (GValue.mk x5.Kind x5.N r6_1 x5.K x5.L)).set i2 (GValue.mk x7.Kind x7.N x7.S r8_1 x7.L))), (A.setL (oeq_GValue (GValue.mk x7.Kind x7.N x7.S r8_1 x7.L)))⟩, .na hi2, .ix hx9 (oeq_GValue x9), .ix hx9 (oeq_GValue x9), .cl (H_laws_markValueS r8_0 x9.L _ hr10), .ix hx9 (oeq_GValue x9), ⟨.setL (eL o_GValue ((((e0.set i2 (GValue.mk a0 x3.N x3.S x3.K x3.L)).set i2 (GValue.mk x4.Kind (w64 (a0 + 1)) x4.S x4.K x4.L)).set i2 (GValue.mk x5.Kind x5.N r6_1 x5.K x5.L)).set i2 (GValue.mk x7.Kind x7.N x7.S r8_1 x7.L))) i2 [.int .i64 x9.Kind, .int .i64 x9.N, .own 1 (eL e_u8 x9.S), .own 1 (eL (o_sl 1 e_u8) x9.K), .own 5 (eL o_GValue r10_1)], .l (eL o_GValue (((((e0.set i2 (GValue.mk a0 x3.N x3.S x3.K x3.L)).set i2 (GValue.mk x4.Kind (w64 (a0 + 1)) x4.S x4.K x4.L)).set i2 (GValue.mk x5.Kind x5.N r6_1 x5.K x5.L)).set i2 (GValue.mk x7.Kind x7.N x7.S r8_1 x7.L)).set i2 (GValue.mk x9.Kind x9.N x9.S x9.K r10_1))), (A.setL (oeq_GValue (GValue.mk x9.Kind x9.N x9.S x9.K r10_1)))⟩, .ad v1 1] (by kernel_rfl) (ih r10_0 (w64 (v1 + 1)) (((((e0.set i2 (GValue.mk a0 x3.N x3.S x3.K x3.L)).set i2 (GValue.mk x4.Kind (w64 (a0 + 1)) x4.S x4.K x4.L)).set i2 (GValue.mk x5.Kind x5.N r6_1 x5.K x5.L)).set i2 (GValue.mk x7.Kind x7.N x7.S r8_1 x7.L)).set i2 (GValue.mk x9.Kind x9.N x9.S x9.K r10_1)) o h)
    ·obtain rfl := Option.some.inj h
     exact loop_eQ [.le o_GValue e0, .lF c1] (by kernel_rfl) (by intro h; cases h)
def T_laws_markValueS (G_laws_markValueS : Int → (List GValue) → Option (Int × (List GValue))) (n : Nat) (a0 : Int) (e0 : (List GValue)) : Option (Int × (List GValue)) :=
  (L_laws_markValueS_l0 G_laws_markValueS n a0 0 e0).bind fun ⟨o1_0, o1_1, o1_2⟩ =>
  some (o1_0, o1_2)
set_option maxRecDepth 100000 in
theorem fd_114 : cfg.funcs 114 = some (bodyOf Tryz.f114, Tryz.f114.ntmps, Tryz.f114.results.toList) := fn_of Tryz.func114 (by kernel_rfl) (by kernel_rfl)
theorem g_laws_markValueS (G_laws_markValueS : Int → (List GValue) → Option (Int × (List GValue))) (H_laws_markValueS : ∀ (a0 : Int) (e0 : (List GValue)) (r : (Int × (List GValue))), G_laws_markValueS a0 e0 = some r → (mach cfg).call 114 [.obj 5 (eL o_GValue e0)] [.val false [.ref 0], .val false [.int .i64 a0]] = some (.val false [.int .i64 r.1], [.obj 5 (eL o_GValue r.2)])) (n : Nat) (a0 : Int) (e0 : (List GValue)) (r : (Int × (List GValue))) (h : T_laws_markValueS G_laws_markValueS n a0 e0 = some r) : (mach cfg).call 114 [.obj 5 (eL o_GValue e0)] [.val false [.ref 0], .val false [.int .i64 a0]] = some (.val false [.int .i64 r.1], [.obj 5 (eL o_GValue r.2)]) := by
  unfold T_laws_markValueS at h
  obtain ⟨⟨o1_0, o1_1, o1_2⟩, ho1, h⟩ := bs h
  try dsimp only at h
  obtain rfl := Option.some.inj h
  exact call_wQ [.lp (gl_laws_markValueS_l0 G_laws_markValueS H_laws_markValueS _ a0 0 e0 _ ho1)] rfl fd_114 (by kernel_rfl)
def U_laws_markValueS : Nat → Int → (List GValue) → Option (Int × (List GValue))
  | 0, _, _ => none
  | n + 1, a0, e0 => T_laws_markValueS (U_laws_markValueS n) n a0 e0
theorem rec_laws_markValueS (n : Nat) : (∀ (a0 : Int) (e0 : (List GValue)) (r : (Int × (List GValue))), U_laws_markValueS n a0 e0 = some r → (mach cfg).call 114 [.obj 5 (eL o_GValue e0)] [.val false [.ref 0], .val false [.int .i64 a0]] = some (.val false [.int .i64 r.1], [.obj 5 (eL o_GValue r.2)])) := by
  induction n with
  | zero => exact fun _ _ _ h => (by rw [U_laws_markValueS] at h; cases h)
  | succ n ih =>
    have ih_laws_markValueS := ih
    exact fun a0 e0 r h => g_laws_markValueS (U_laws_markValueS n) ih_laws_markValueS n a0 e0 r (by rw [U_laws_markValueS] at h; exact h)
theorem markValueS_loop {G : Int → List GValue → Option (Int × List GValue)} : ∀ (l p : List GValue) (k : Int) (m : Nat), (∀ v ∈ l, ∀ i : Int, 0 <= i → i + 2 * vszs v.L <= 2 ^ 41 → G i v.L = some (i + cVs v.L, mVs i v.L)) → 0 <= k → k + 2 * vszs l <= 2 ^ 41 → p.length + l.length <= 2 ^ 41 → l.length < m → ∃ z, L_laws_markValueS_l0 G m k ((p.length : Nat) : Int) (p ++ l) = some (k + cVs l, z, p ++ mVs k l) := by
  intro l
  induction l with
  | nil =>
    intro p k m _ _ _ _ hm
    obtain ⟨m, rfl, _⟩ := fuel hm
    exact ⟨_, by rw [L_laws_markValueS_l0, if_neg (nlt_end p)]; simp [mVs, cVs]; rfl⟩
  | cons x l ih =>
    intro p k m hG h0 h1 h2 hm
    obtain ⟨m, rfl, hm'⟩ := fuel hm
    simp only [List.length_cons] at h2 hm'
    have hx := hG x List.mem_cons_self
    have hc := cV_le x
    obtain ⟨kd, n, s, kk, ks⟩ := x
    have hb := bsz_cB kk
    have hd := cVs_le ks
    simp only [vszs, vsz] at h1
    simp only [cV, vsz] at hc
    simp only [GValue.L] at hx
    obtain ⟨z, hz⟩ := ih (p ++ [mV k (.mk kd n s kk ks)]) (k + cV (.mk kd n s kk ks)) m (fun v hv => hG v (List.mem_cons_of_mem _ hv)) (by omega) (by simp only [cV]; omega) (by simp; omega) (by omega)
    rw [L_laws_markValueS_l0, if_pos (lt_mid p _ l), natO_nat, Option.bind_some, get_mid, Option.bind_some]
    simp only [set_mid, get_mid, Option.bind_some, GValue.Kind, GValue.N, GValue.S, GValue.K, GValue.L]
    rw [w64_id (x := k + 1) (by omega) (by omega), w64_id (x := k + 1 + 1) (by omega) (by omega), markByteS_eq (by omega) (by omega)]
    simp only [Option.bind_some, set_mid, get_mid, GValue.Kind, GValue.N, GValue.S, GValue.K, GValue.L]
    rw [markByteSS_eq (by omega) (by omega)]
    simp only [Option.bind_some, set_mid, get_mid, GValue.Kind, GValue.N, GValue.S, GValue.K, GValue.L]
    rw [hx _ (by omega) (by omega)]
    simp only [Option.bind_some, set_mid, get_mid, GValue.Kind, GValue.N, GValue.S, GValue.K, GValue.L]
    refine ⟨z, ?_⟩
    rw [w64_len p (mV k (.mk kd n s kk ks)) (by omega), show GValue.mk k (k + 1) (mB (k + 1 + 1) s) (mBB (k + 1 + 1 + s.length) kk) (mVs (k + 1 + 1 + s.length + cB kk) ks) = mV k (.mk kd n s kk ks) by simp only [mV], snoc_app p _ l,
      show k + 1 + 1 + (s.length : Int) + (cB kk : Int) + (cVs ks : Int) = k + ((cV (.mk kd n s kk ks) : Nat) : Int) by simp only [cV]; omega, hz]
    simp only [mVs, cVs, List.append_assoc, List.singleton_append]
    rw [show k + ((cV (.mk kd n s kk ks) : Nat) : Int) + (cVs l : Int) = k + ((cV (.mk kd n s kk ks) + cVs l : Nat) : Int) by omega]
theorem markValueS_U : ∀ (N : Nat) (l : List GValue), vszs l < N → ∀ (k : Int) (f : Nat), 0 <= k → k + 2 * vszs l <= 2 ^ 41 → vszs l + 2 <= f → U_laws_markValueS f k l = some (k + cVs l, mVs k l) := by
  intro N
  induction N with
  | zero => intro l hl; omega
  | succ N ih =>
    intro l hl k f h0 h1 hf
    obtain ⟨f, rfl, _⟩ := fuel (show 0 < f by omega)
    have hlen := vszs_len l
    rw [U_laws_markValueS]
    unfold T_laws_markValueS
    obtain ⟨z, hz⟩ := markValueS_loop (G := U_laws_markValueS f) l [] k f (fun v hv i g0 g1 => by
      have := vszs_mem hv
      have := vsz_eq v
      exact ih v.L (by omega) i f g0 g1 (by omega)) h0 h1 (by simp; omega) (by omega)
    simp only [List.nil_append, List.length_nil, Int.natCast_zero] at hz
    rw [hz]; rfl
def S_laws_markValueS (a0 : Int) (e0 : (List GValue)) : Option (Int × (List GValue)) := if 0 <= a0 ∧ a0 + 2 * vszs e0 <= 2 ^ 41 then some (a0 + cVs e0, mVs a0 e0) else none
theorem markValueS_eq {a : Int} {s : List GValue} (h0 : 0 <= a) (h1 : a + 2 * vszs s <= 2 ^ 41) : S_laws_markValueS a s = some (a + cVs s, mVs a s) := if_pos ⟨h0, h1⟩
theorem spec_laws_markValueS (a0 : Int) (e0 : (List GValue)) (r : (Int × (List GValue))) (h : S_laws_markValueS a0 e0 = some r) : ∃ n, U_laws_markValueS n a0 e0 = some r := by
  unfold S_laws_markValueS at h
  obtain ⟨⟨h0, h1⟩, h⟩ := need_c h
  exact ⟨vszs e0 + 2, by rw [markValueS_U _ e0 (Nat.lt_succ_self _) a0 _ h0 h1 (Nat.le_refl _), h]⟩
theorem ok_laws_markValueS (a0 : Int) (e0 : (List GValue)) (r : (Int × (List GValue))) (h : S_laws_markValueS a0 e0 = some r) : (mach cfg).call 114 [.obj 5 (eL o_GValue e0)] [.val false [.ref 0], .val false [.int .i64 a0]] = some (.val false [.int .i64 r.1], [.obj 5 (eL o_GValue r.2)]) := by
  obtain ⟨n, hn⟩ := spec_laws_markValueS a0 e0 r h
  exact (rec_laws_markValueS n) a0 e0 r hn
def S_laws_markValue (a0_0 : Int) (a0_1 : Int) (a1 : Int) (e0 : (List UInt8)) (e1 : (List (List UInt8))) (e2 : (List GValue)) : Option (Int × (List UInt8) × (List (List UInt8)) × (List GValue)) :=
  (S_laws_markByteS a1 e0).bind fun ⟨r1_0, r1_1⟩ =>
  (S_laws_markByteSS r1_0 e1).bind fun ⟨r2_0, r2_1⟩ =>
  (S_laws_markValueS r2_0 e2).bind fun ⟨r3_0, r3_1⟩ =>
  some (r3_0, r1_1, r2_1, r3_1)
set_option maxRecDepth 100000 in
theorem fd_77 : cfg.funcs 77 = some (bodyOf Tryz.f77, Tryz.f77.ntmps, Tryz.f77.results.toList) := fn_of Tryz.func77 (by kernel_rfl) (by kernel_rfl)
theorem ok_laws_markValue (a0_0 : Int) (a0_1 : Int) (a1 : Int) (e0 : (List UInt8)) (e1 : (List (List UInt8))) (e2 : (List GValue)) (r : (Int × (List UInt8) × (List (List UInt8)) × (List GValue))) (h : S_laws_markValue a0_0 a0_1 a1 e0 e1 e2 = some r) : (mach cfg).call 77 [.obj 1 (eL e_u8 e0), .obj 1 (eL (o_sl 1 e_u8) e1), .obj 5 (eL o_GValue e2)] [.val true [.int .i64 a0_0, .int .i64 a0_1, .ref 0, .ref 1, .ref 2], .val false [.int .i64 a1]] = some (.val false [.int .i64 r.1], [.obj 1 (eL e_u8 r.2.1), .obj 1 (eL (o_sl 1 e_u8) r.2.2.1), .obj 5 (eL o_GValue r.2.2.2)]) := by
  unfold S_laws_markValue at h
  obtain ⟨⟨r1_0, r1_1⟩, hr1, h⟩ := bs h
  try dsimp only at h
  obtain ⟨⟨r2_0, r2_1⟩, hr2, h⟩ := bs h
  try dsimp only at h
  obtain ⟨⟨r3_0, r3_1⟩, hr3, h⟩ := bs h
  try dsimp only at h
  obtain rfl := Option.some.inj h
  exact call_wQ [.cl (ok_laws_markByteS a1 e0 _ hr1), .cl (ok_laws_markByteSS r1_0 e1 _ hr2), .cl (ok_laws_markValueS r2_0 e2 _ hr3)] rfl fd_77 (by kernel_rfl)
def S_laws_markEvent (a0_0 : Int) (a0_2 : Int) (a0_3 : Int) (a0_4 : Int) (a1 : Int) (e0 : (List UInt8)) (e1 : (List UInt8)) (e2 : (List (List UInt8))) (e3 : (List GValue)) (e4 : (List (List UInt8))) : Option (Int × (List UInt8) × (List UInt8) × (List (List UInt8)) × (List GValue) × (List (List UInt8))) :=
  (S_laws_markByteS a1 e0).bind fun ⟨r1_0, r1_1⟩ =>
  (S_laws_markValue a0_3 a0_4 r1_0 e1 e2 e3).bind fun ⟨r2_0, r2_1, r2_2, r2_3⟩ =>
  (S_laws_markByteSS r2_0 e4).bind fun ⟨r3_0, r3_1⟩ =>
  some (r3_0, r1_1, r2_1, r2_2, r2_3, r3_1)
set_option maxRecDepth 100000 in
theorem fd_39 : cfg.funcs 39 = some (bodyOf Tryz.f39, Tryz.f39.ntmps, Tryz.f39.results.toList) := fn_of Tryz.func39 (by kernel_rfl) (by kernel_rfl)
theorem ok_laws_markEvent (a0_0 : Int) (a0_2 : Int) (a0_3 : Int) (a0_4 : Int) (a1 : Int) (e0 : (List UInt8)) (e1 : (List UInt8)) (e2 : (List (List UInt8))) (e3 : (List GValue)) (e4 : (List (List UInt8))) (r : (Int × (List UInt8) × (List UInt8) × (List (List UInt8)) × (List GValue) × (List (List UInt8)))) (h : S_laws_markEvent a0_0 a0_2 a0_3 a0_4 a1 e0 e1 e2 e3 e4 = some r) : (mach cfg).call 39 [.obj 1 (eL e_u8 e0), .obj 1 (eL e_u8 e1), .obj 1 (eL (o_sl 1 e_u8) e2), .obj 5 (eL o_GValue e3), .obj 1 (eL (o_sl 1 e_u8) e4)] [.val true [.int .i64 a0_0, .ref 0, .int .i64 a0_2, .int .i64 a0_3, .int .i64 a0_4, .ref 1, .ref 2, .ref 3, .ref 4], .val false [.int .i64 a1]] = some (.val false [.int .i64 r.1], [.obj 1 (eL e_u8 r.2.1), .obj 1 (eL e_u8 r.2.2.1), .obj 1 (eL (o_sl 1 e_u8) r.2.2.2.1), .obj 5 (eL o_GValue r.2.2.2.2.1), .obj 1 (eL (o_sl 1 e_u8) r.2.2.2.2.2)]) := by
  unfold S_laws_markEvent at h
  obtain ⟨⟨r1_0, r1_1⟩, hr1, h⟩ := bs h
  try dsimp only at h
  obtain ⟨⟨r2_0, r2_1, r2_2, r2_3⟩, hr2, h⟩ := bs h
  try dsimp only at h
  obtain ⟨⟨r3_0, r3_1⟩, hr3, h⟩ := bs h
  try dsimp only at h
  obtain rfl := Option.some.inj h
  exact call_wQ [.cl (ok_laws_markByteS a1 e0 _ hr1), .cl (ok_laws_markValue a0_3 a0_4 r1_0 e1 e2 e3 _ hr2), .cl (ok_laws_markByteSS r2_0 e4 _ hr3)] rfl fd_39 (by kernel_rfl)
def L_laws_heldByteS_l0 (a0 : (List UInt8)) : Nat → Int → Int → Option (Int ⊕ (Int × Int))
  | 0, _, _ => none
  | m + 1, a1, v2 =>
    if v2 < ((a0.length : Nat) : Int) then
      (natO v2).bind fun i2 =>
      (a0[i2]?).bind fun x3 =>
      if ((x3.toNat : Nat) : Int) = (((b8 a1).toNat : Nat) : Int) then
        L_laws_heldByteS_l0 a0 m (w64 (a1 + 1)) (w64 (v2 + 1))
      else
        some (.inl (-1))
    else
      some (.inr (a1, v2))
theorem gl_laws_heldByteS_l0 (a0 : (List UInt8)) (m : Nat) : ∀ (a1 : Int) (v2 : Int) (o : (Int ⊕ (Int × Int))), L_laws_heldByteS_l0 a0 m a1 v2 = some o → (mach cfg).loop 40 (loopB Tryz.f40 0) ⟨[(0, .val false [.seq (eL e_u8 a0)]), (1, .val false [.int .i64 a1]), (5, .val false [.int .i64 v2])], [], 0⟩ = some (match o with | .inl o_0 => (.ret, (⟨[(4, .val false [.int .i64 o_0])], [], 0⟩ : S)) | .inr (⟨o_1_0, o_1_1⟩) => (.exit 0, (⟨[(0, .val false [.seq (eL e_u8 a0)]), (1, .val false [.int .i64 o_1_0]), (5, .val false [.int .i64 o_1_1]), (9, .val false [.bool false])], [], 0⟩ : S))) := by
  induction m with
  | zero => intro a1 v2 o h; cases h
  | succ m ih =>
    intro a1 v2 o h
    rw [L_laws_heldByteS_l0] at h
    rcases ite_some h with ⟨c1, h⟩ | ⟨c1, h⟩
    ·obtain ⟨i2, hi2, h⟩ := bs h
     obtain ⟨x3, hx3, h⟩ := bs h
     rcases ite_some h with ⟨c4, h⟩ | ⟨c4, h⟩
     ·exact loop_nQ [.le e_u8 a0, .lT c1, .na hi2, .ix0 e_u8 hx3, ⟨.conv .u8 a1, .i (((b8 a1).toNat : Nat) : Int), A.conv8⟩, .eT c4, .nt true, .ad a1 1, .ad v2 1] (by kernel_rfl) (ih (w64 (a1 + 1)) (w64 (v2 + 1)) o h)
     ·obtain rfl := Option.some.inj h
      exact loop_eQ [.le e_u8 a0, .lT c1, .na hi2, .ix0 e_u8 hx3, ⟨.conv .u8 a1, .i (((b8 a1).toNat : Nat) : Int), A.conv8⟩, .eF c4, .nt false] (by kernel_rfl) (by intro h; cases h)
    ·obtain rfl := Option.some.inj h
     exact loop_eQ [.le e_u8 a0, .lF c1] (by kernel_rfl) (by intro h; cases h)
def T_laws_heldByteS (n : Nat) (a0 : (List UInt8)) (a1 : Int) : Option Int :=
  (L_laws_heldByteS_l0 a0 n a1 0).bind fun o1 =>
  match o1 with
  | .inl o1_0 =>
    some o1_0
  | .inr (⟨o1_1_0, o1_1_1⟩) =>
    some o1_1_0
set_option maxRecDepth 100000 in
theorem fd_40 : cfg.funcs 40 = some (bodyOf Tryz.f40, Tryz.f40.ntmps, Tryz.f40.results.toList) := fn_of Tryz.func40 (by kernel_rfl) (by kernel_rfl)
theorem g_laws_heldByteS (n : Nat) (a0 : (List UInt8)) (a1 : Int) (r : Int) (h : T_laws_heldByteS n a0 a1 = some r) : (mach cfg).call 40 [] [.val false [.seq (eL e_u8 a0)], .val false [.int .i64 a1]] = some (.val false [.int .i64 r], []) := by
  unfold T_laws_heldByteS at h
  obtain ⟨o1, ho1, h⟩ := bs h
  rcases o1 with o1_0 | ⟨o1_1_0, o1_1_1⟩
  · try dsimp only at h
    obtain rfl := Option.some.inj h
    exact call_wQ [.lp (gl_laws_heldByteS_l0 a0 _ a1 0 _ ho1)] rfl fd_40 (by kernel_rfl)
  · try dsimp only at h
    obtain rfl := Option.some.inj h
    exact call_wQ [.lp (gl_laws_heldByteS_l0 a0 _ a1 0 _ ho1)] rfl fd_40 (by kernel_rfl)
theorem heldByteS_loop {a : List UInt8} : ∀ (l p : List UInt8) (k : Int) (m : Nat), a = p ++ l → mB k l = l → 0 <= k → k + 2 * l.length <= 2 ^ 41 → p.length + l.length <= 2 ^ 41 → l.length < m → ∃ z, L_laws_heldByteS_l0 a m k ((p.length : Nat) : Int) = some (.inr (k + l.length, z)) := by
  intro l
  induction l with
  | nil =>
    intro p k m ha _ _ _ _ hm
    subst ha
    obtain ⟨m, rfl, _⟩ := fuel hm
    exact ⟨_, by rw [L_laws_heldByteS_l0, if_neg (nlt_end p)]; simp; rfl⟩
  | cons x l ih =>
    intro p k m ha hm0 h0 h1 h2 hm
    obtain ⟨m, rfl, hm'⟩ := fuel hm
    simp only [List.length_cons] at h1 h2 hm'
    rw [mB] at hm0
    obtain ⟨e1, e2⟩ := List.cons.inj hm0
    obtain ⟨z, hz⟩ := ih (p ++ [x]) (k + 1) m (by rw [ha]; simp) e2 (by omega) (by omega) (by simp; omega) (by omega)
    refine ⟨z, ?_⟩
    rw [L_laws_heldByteS_l0, if_pos (by rw [ha]; exact lt_mid p x l), natO_nat, Option.bind_some, show a[p.length]? = some x by rw [ha]; exact get_mid p x l, Option.bind_some, if_pos (by rw [e1]), w64_len p x (by omega), w64_id (x := k + 1) (by omega) (by omega), hz]
    simp only [List.length_cons]
    rw [show k + 1 + (l.length : Int) = k + ((l.length + 1 : Nat) : Int) by omega]
def S_laws_heldByteS (a0 : (List UInt8)) (a1 : Int) : Option Int := if mB a1 a0 = a0 ∧ 0 <= a1 ∧ a1 + 2 * a0.length <= 2 ^ 41 then some (a1 + a0.length) else none
theorem heldByteS_eq {a : Int} {s : List UInt8} (h : mB a s = s) (h0 : 0 <= a) (h1 : a + 2 * s.length <= 2 ^ 41) : S_laws_heldByteS s a = some (a + s.length) := if_pos ⟨h, h0, h1⟩
theorem spec_laws_heldByteS (a0 : (List UInt8)) (a1 : Int) (r : Int) (h : S_laws_heldByteS a0 a1 = some r) : ∃ n, T_laws_heldByteS n a0 a1 = some r := by
  unfold S_laws_heldByteS at h
  obtain ⟨⟨he, h0, h1⟩, h⟩ := need_c h
  obtain ⟨z, hz⟩ := heldByteS_loop (a := a0) a0 [] a1 (a0.length + 1) rfl he h0 h1 (by simp; omega) (by omega)
  refine ⟨a0.length + 1, ?_⟩
  unfold T_laws_heldByteS
  simp only [List.length_nil, Int.natCast_zero] at hz
  rw [hz]
  exact h
theorem ok_laws_heldByteS (a0 : (List UInt8)) (a1 : Int) (r : Int) (h : S_laws_heldByteS a0 a1 = some r) : (mach cfg).call 40 [] [.val false [.seq (eL e_u8 a0)], .val false [.int .i64 a1]] = some (.val false [.int .i64 r], []) := by
  obtain ⟨n, hn⟩ := spec_laws_heldByteS a0 a1 r h
  exact g_laws_heldByteS n a0 a1 r hn
def S_laws_FnExactEventBytes (a0 : GEvent) : Option Bool :=
  (S_laws_szEvent a0 1048576).bind fun r1 =>
  if r1 < 0 then
    some true
  else
    (S_laws_toEvent a0).bind fun r3 =>
    (S_spec_EventBytes r3).bind fun ⟨r4_0, r4_1⟩ =>
    (S_impl_EventBytes r3).bind fun ⟨r5_0, r5_1⟩ =>
    (S_laws_eqByteS r5_0 r4_0).bind fun r6 =>
    match r6 with
    | true =>
      match r5_1 with
      | true =>
        match r4_1 with
        | true =>
          (S_laws_eqEvent r3 r3).bind fun r10 =>
          match r10 with
          | true =>
            (S_laws_markEvent r3.Kind r3.Act r3.Val.Kind r3.Val.N 1 r3.Addr r3.Val.S r3.Val.K r3.Val.L r3.Deps).bind fun ⟨r12_0, r12_1, r12_2, r12_3, r12_4, r12_5⟩ =>
            if r12_0 < 0 then
              none
            else
              (S_laws_markByteS 1 r5_0).bind fun ⟨r14_0, r14_1⟩ =>
              (S_laws_heldByteS r14_1 1).bind fun r15 =>
              if r15 < 0 then
                none
              else
                if r15 = r14_0 then
                  some true
                else
                  none
          | false =>
            none
        | false =>
          none
      | false =>
        match r4_1 with
        | true =>
          none
        | false =>
          (S_laws_eqEvent r3 r3).bind fun r10 =>
          match r10 with
          | true =>
            (S_laws_markEvent r3.Kind r3.Act r3.Val.Kind r3.Val.N 1 r3.Addr r3.Val.S r3.Val.K r3.Val.L r3.Deps).bind fun ⟨r12_0, r12_1, r12_2, r12_3, r12_4, r12_5⟩ =>
            if r12_0 < 0 then
              none
            else
              (S_laws_markByteS 1 r5_0).bind fun ⟨r14_0, r14_1⟩ =>
              (S_laws_heldByteS r14_1 1).bind fun r15 =>
              if r15 < 0 then
                none
              else
                if r15 = r14_0 then
                  some true
                else
                  none
          | false =>
            none
    | false =>
      none
set_option maxRecDepth 100000 in
theorem fd_7 : cfg.funcs 7 = some (bodyOf Tryz.f7, Tryz.f7.ntmps, Tryz.f7.results.toList) := fn_of Tryz.func7 (by kernel_rfl) (by kernel_rfl)
theorem ok_laws_FnExactEventBytes (a0 : GEvent) (r : Bool) (h : S_laws_FnExactEventBytes a0 = some r) : (mach cfg).call 7 [] [.val true [.int .i64 a0.Kind, .seq (eL e_u8 a0.Addr), .int .i64 a0.Act, .int .i64 a0.Val.Kind, .int .i64 a0.Val.N, .seq (eL e_u8 a0.Val.S), .seq (eL (e_sl e_u8) a0.Val.K), .seq (eL e_GValue a0.Val.L), .seq (eL (e_sl e_u8) a0.Deps)]] = some (.val false [.bool r], []) := by
  unfold S_laws_FnExactEventBytes at h
  obtain ⟨r1, hr1, h⟩ := bs h
  let p80 : List (Q cfg) := [.cl (ok_laws_szEvent a0 1048576 _ hr1)]
  rcases ite_some h with ⟨c2, h⟩ | ⟨c2, h⟩
  ·obtain rfl := Option.some.inj h
   exact call_wQ (p80 ++ [.lT c2]) rfl fd_7 (by kernel_rfl)
  ·obtain ⟨r3, hr3, h⟩ := bs h
   obtain ⟨⟨r4_0, r4_1⟩, hr4, h⟩ := bs h
   try dsimp only at h
   obtain ⟨⟨r5_0, r5_1⟩, hr5, h⟩ := bs h
   try dsimp only at h
   obtain ⟨r6, hr6, h⟩ := bs h
   let p81 : List (Q cfg) := p80 ++ [.lF c2, .cl (ok_laws_toEvent a0 _ hr3), ⟨.view (eL e_u8 r3.Addr), .l (eL e_u8 r3.Addr), (A.view E_u8)⟩, ⟨.view (eL e_u8 r3.Val.S), .l (eL e_u8 r3.Val.S), (A.view E_u8)⟩, ⟨.view (eL (o_sl 1 e_u8) r3.Val.K), .l (eL (e_sl e_u8) r3.Val.K), (A.viewO (O_sl 1 O_u8))⟩, ⟨.view (eL o_GValue r3.Val.L), .l (eL e_GValue r3.Val.L), (A.viewO O_GValue)⟩, ⟨.view (eL (o_sl 1 e_u8) r3.Deps), .l (eL (e_sl e_u8) r3.Deps), (A.viewO (O_sl 1 O_u8))⟩, .cl (ok_spec_EventBytes r3 _ hr4), ⟨.cln (eL e_u8 r4_0), .b true, (A.cln O_u8)⟩, .cl (ok_laws_toEvent a0 _ hr3), ⟨.view (eL e_u8 r3.Addr), .l (eL e_u8 r3.Addr), (A.view E_u8)⟩, ⟨.view (eL e_u8 r3.Val.S), .l (eL e_u8 r3.Val.S), (A.view E_u8)⟩, ⟨.view (eL (o_sl 1 e_u8) r3.Val.K), .l (eL (e_sl e_u8) r3.Val.K), (A.viewO (O_sl 1 O_u8))⟩, ⟨.view (eL o_GValue r3.Val.L), .l (eL e_GValue r3.Val.L), (A.viewO O_GValue)⟩, ⟨.view (eL (o_sl 1 e_u8) r3.Deps), .l (eL (e_sl e_u8) r3.Deps), (A.viewO (O_sl 1 O_u8))⟩, .cl (ok_impl_EventBytes r3 _ hr5), ⟨.cln (eL e_u8 r5_0), .b true, (A.cln O_u8)⟩, ⟨.view (eL e_u8 r5_0), .l (eL e_u8 r5_0), (A.view E_u8)⟩, ⟨.view (eL e_u8 r4_0), .l (eL e_u8 r4_0), (A.view E_u8)⟩, .cl (ok_laws_eqByteS r5_0 r4_0 _ hr6), .nt true]
   cases r6 with
   | true =>
    try dsimp only at h
    cases r5_1 with
    | true =>
     try dsimp only at h
     cases r4_1 with
     | true =>
      try dsimp only at h
      obtain ⟨r10, hr10, h⟩ := bs h
      cases r10 with
      | true =>
       try dsimp only at h
       obtain ⟨⟨r12_0, r12_1, r12_2, r12_3, r12_4, r12_5⟩, hr12, h⟩ := bs h
       try dsimp only at h
       rcases ite_some h with ⟨c13, h⟩ | ⟨c13, h⟩
       ·cases h
       ·obtain ⟨⟨r14_0, r14_1⟩, hr14, h⟩ := bs h
        try dsimp only at h
        obtain ⟨r15, hr15, h⟩ := bs h
        rcases ite_some h with ⟨c16, h⟩ | ⟨c16, h⟩
        ·cases h
        ·rcases ite_some h with ⟨c17, h⟩ | ⟨c17, h⟩
         ·obtain rfl := Option.some.inj h
          exact call_wQ (p81 ++ [⟨.eqB true true, .b true, rfl⟩, .nt true, .cl (ok_laws_toEvent a0 _ hr3), ⟨.view (eL e_u8 r3.Addr), .l (eL e_u8 r3.Addr), (A.view E_u8)⟩, ⟨.view (eL e_u8 r3.Val.S), .l (eL e_u8 r3.Val.S), (A.view E_u8)⟩, ⟨.view (eL (o_sl 1 e_u8) r3.Val.K), .l (eL (e_sl e_u8) r3.Val.K), (A.viewO (O_sl 1 O_u8))⟩, ⟨.view (eL o_GValue r3.Val.L), .l (eL e_GValue r3.Val.L), (A.viewO O_GValue)⟩, ⟨.view (eL (o_sl 1 e_u8) r3.Deps), .l (eL (e_sl e_u8) r3.Deps), (A.viewO (O_sl 1 O_u8))⟩, ⟨.view (eL e_u8 r3.Addr), .l (eL e_u8 r3.Addr), (A.view E_u8)⟩, ⟨.view (eL e_u8 r3.Val.S), .l (eL e_u8 r3.Val.S), (A.view E_u8)⟩, ⟨.view (eL (o_sl 1 e_u8) r3.Val.K), .l (eL (e_sl e_u8) r3.Val.K), (A.viewO (O_sl 1 O_u8))⟩, ⟨.view (eL o_GValue r3.Val.L), .l (eL e_GValue r3.Val.L), (A.viewO O_GValue)⟩, ⟨.view (eL (o_sl 1 e_u8) r3.Deps), .l (eL (e_sl e_u8) r3.Deps), (A.viewO (O_sl 1 O_u8))⟩, .cl (ok_laws_eqEvent r3 r3 _ hr10), .nt true, .cl (ok_laws_markEvent r3.Kind r3.Act r3.Val.Kind r3.Val.N 1 r3.Addr r3.Val.S r3.Val.K r3.Val.L r3.Deps _ hr12), .lF c13, ⟨.view (eL e_u8 r5_0), .l (eL e_u8 r5_0), (A.view E_u8)⟩, ⟨.view (eL e_u8 r4_0), .l (eL e_u8 r4_0), (A.view E_u8)⟩, .cl (ok_laws_eqByteS r5_0 r4_0 _ hr6), .nt true, ⟨.eqB true true, .b true, rfl⟩, .nt true, .cl (ok_laws_markByteS 1 r5_0 _ hr14), ⟨.view (eL e_u8 r14_1), .l (eL e_u8 r14_1), (A.view E_u8)⟩, .cl (ok_laws_heldByteS r14_1 1 _ hr15), .lF c16, .eT c17, .nt true, .cl (ok_laws_toEvent a0 _ hr3), ⟨.view (eL e_u8 r3.Addr), .l (eL e_u8 r3.Addr), (A.view E_u8)⟩, ⟨.view (eL e_u8 r3.Val.S), .l (eL e_u8 r3.Val.S), (A.view E_u8)⟩, ⟨.view (eL (o_sl 1 e_u8) r3.Val.K), .l (eL (e_sl e_u8) r3.Val.K), (A.viewO (O_sl 1 O_u8))⟩, ⟨.view (eL o_GValue r3.Val.L), .l (eL e_GValue r3.Val.L), (A.viewO O_GValue)⟩, ⟨.view (eL (o_sl 1 e_u8) r3.Deps), .l (eL (e_sl e_u8) r3.Deps), (A.viewO (O_sl 1 O_u8))⟩, .cl (ok_impl_EventBytes r3 _ hr5), ⟨.cln (eL e_u8 r5_0), .b true, (A.cln O_u8)⟩, ⟨.view (eL e_u8 r5_0), .l (eL e_u8 r5_0), (A.view E_u8)⟩, ⟨.view (eL e_u8 r4_0), .l (eL e_u8 r4_0), (A.view E_u8)⟩, .cl (ok_laws_eqByteS r5_0 r4_0 _ hr6), .nt true, ⟨.eqB true true, .b true, rfl⟩, .nt true, ⟨.view (eL e_u8 r14_1), .l (eL e_u8 r14_1), (A.view E_u8)⟩, .cl (ok_laws_heldByteS r14_1 1 _ hr15), .lF c16, .eT c17, .nt true]) rfl fd_7 (by kernel_rfl)
         ·cases h
      | false =>
       try dsimp only at h
       cases h
     | false =>
      try dsimp only at h
      cases h
    | false =>
     try dsimp only at h
     cases r4_1 with
     | true =>
      try dsimp only at h
      cases h
     | false =>
      try dsimp only at h
      obtain ⟨r10, hr10, h⟩ := bs h
      cases r10 with
      | true =>
       try dsimp only at h
       obtain ⟨⟨r12_0, r12_1, r12_2, r12_3, r12_4, r12_5⟩, hr12, h⟩ := bs h
       try dsimp only at h
       rcases ite_some h with ⟨c13, h⟩ | ⟨c13, h⟩
       ·cases h
       ·obtain ⟨⟨r14_0, r14_1⟩, hr14, h⟩ := bs h
        try dsimp only at h
        obtain ⟨r15, hr15, h⟩ := bs h
        rcases ite_some h with ⟨c16, h⟩ | ⟨c16, h⟩
        ·cases h
        ·rcases ite_some h with ⟨c17, h⟩ | ⟨c17, h⟩
         ·obtain rfl := Option.some.inj h
          exact call_wQ (p81 ++ [⟨.eqB false false, .b true, rfl⟩, .nt true, .cl (ok_laws_toEvent a0 _ hr3), ⟨.view (eL e_u8 r3.Addr), .l (eL e_u8 r3.Addr), (A.view E_u8)⟩, ⟨.view (eL e_u8 r3.Val.S), .l (eL e_u8 r3.Val.S), (A.view E_u8)⟩, ⟨.view (eL (o_sl 1 e_u8) r3.Val.K), .l (eL (e_sl e_u8) r3.Val.K), (A.viewO (O_sl 1 O_u8))⟩, ⟨.view (eL o_GValue r3.Val.L), .l (eL e_GValue r3.Val.L), (A.viewO O_GValue)⟩, ⟨.view (eL (o_sl 1 e_u8) r3.Deps), .l (eL (e_sl e_u8) r3.Deps), (A.viewO (O_sl 1 O_u8))⟩, ⟨.view (eL e_u8 r3.Addr), .l (eL e_u8 r3.Addr), (A.view E_u8)⟩, ⟨.view (eL e_u8 r3.Val.S), .l (eL e_u8 r3.Val.S), (A.view E_u8)⟩, ⟨.view (eL (o_sl 1 e_u8) r3.Val.K), .l (eL (e_sl e_u8) r3.Val.K), (A.viewO (O_sl 1 O_u8))⟩, ⟨.view (eL o_GValue r3.Val.L), .l (eL e_GValue r3.Val.L), (A.viewO O_GValue)⟩, ⟨.view (eL (o_sl 1 e_u8) r3.Deps), .l (eL (e_sl e_u8) r3.Deps), (A.viewO (O_sl 1 O_u8))⟩, .cl (ok_laws_eqEvent r3 r3 _ hr10), .nt true, .cl (ok_laws_markEvent r3.Kind r3.Act r3.Val.Kind r3.Val.N 1 r3.Addr r3.Val.S r3.Val.K r3.Val.L r3.Deps _ hr12), .lF c13, ⟨.view (eL e_u8 r5_0), .l (eL e_u8 r5_0), (A.view E_u8)⟩, ⟨.view (eL e_u8 r4_0), .l (eL e_u8 r4_0), (A.view E_u8)⟩, .cl (ok_laws_eqByteS r5_0 r4_0 _ hr6), .nt true, ⟨.eqB false false, .b true, rfl⟩, .nt true, .cl (ok_laws_markByteS 1 r5_0 _ hr14), ⟨.view (eL e_u8 r14_1), .l (eL e_u8 r14_1), (A.view E_u8)⟩, .cl (ok_laws_heldByteS r14_1 1 _ hr15), .lF c16, .eT c17, .nt true, .cl (ok_laws_toEvent a0 _ hr3), ⟨.view (eL e_u8 r3.Addr), .l (eL e_u8 r3.Addr), (A.view E_u8)⟩, ⟨.view (eL e_u8 r3.Val.S), .l (eL e_u8 r3.Val.S), (A.view E_u8)⟩, ⟨.view (eL (o_sl 1 e_u8) r3.Val.K), .l (eL (e_sl e_u8) r3.Val.K), (A.viewO (O_sl 1 O_u8))⟩, ⟨.view (eL o_GValue r3.Val.L), .l (eL e_GValue r3.Val.L), (A.viewO O_GValue)⟩, ⟨.view (eL (o_sl 1 e_u8) r3.Deps), .l (eL (e_sl e_u8) r3.Deps), (A.viewO (O_sl 1 O_u8))⟩, .cl (ok_impl_EventBytes r3 _ hr5), ⟨.cln (eL e_u8 r5_0), .b true, (A.cln O_u8)⟩, ⟨.view (eL e_u8 r5_0), .l (eL e_u8 r5_0), (A.view E_u8)⟩, ⟨.view (eL e_u8 r4_0), .l (eL e_u8 r4_0), (A.view E_u8)⟩, .cl (ok_laws_eqByteS r5_0 r4_0 _ hr6), .nt true, ⟨.eqB false false, .b true, rfl⟩, .nt true, ⟨.view (eL e_u8 r14_1), .l (eL e_u8 r14_1), (A.view E_u8)⟩, .cl (ok_laws_heldByteS r14_1 1 _ hr15), .lF c16, .eT c17, .nt true]) rfl fd_7 (by kernel_rfl)
         ·cases h
      | false =>
       try dsimp only at h
       cases h
   | false =>
    try dsimp only at h
    cases h
end
end Go.Am.Try
