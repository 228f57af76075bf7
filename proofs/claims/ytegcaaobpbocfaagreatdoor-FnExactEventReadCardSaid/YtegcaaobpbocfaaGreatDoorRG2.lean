/- The functions of the program in plain Lean, and that the machine answers as they do; conditions at each theorem. -/
import Derived.Test.YtegcaaobpbocfaaGreatDoorRG1
set_option linter.unusedVariables false
set_option linter.unusedSimpArgs false
namespace Go.Am.Try
open Go.Am Go.Proofs
set_option linter.unusedVariables false
set_option maxRecDepth 20000
set_option maxHeartbeats 2000000
noncomputable section
def L_spec_l4addrs_l0 (a0 : (List (List UInt8))) : Nat → Int → Option (Bool ⊕ Int)
  | 0, _ => none
  | m + 1, v1 =>
    if v1 < ((a0.length : Nat) : Int) then
      (natO v1).bind fun i2 =>
      (a0[i2]?).bind fun x3 =>
      (S_spec_AddrOk x3).bind fun r4 =>
      match r4 with
      | true =>
        if 0 < v1 then
          (natO (w64 (v1 - 1))).bind fun i7 =>
          (a0[i7]?).bind fun x8 =>
          if Op.bytesLess x8 x3 = true then
            L_spec_l4addrs_l0 a0 m (w64 (v1 + 1))
          else
            some (.inl false)
        else
          L_spec_l4addrs_l0 a0 m (w64 (v1 + 1))
      | false =>
        some (.inl false)
    else
      some (.inr v1)
theorem gl_spec_l4addrs_l0 (a0 : (List (List UInt8))) (m : Nat) : ∀ (v1 : Int) (o : (Bool ⊕ Int)), L_spec_l4addrs_l0 a0 m v1 = some o → (mach cfg).loop 29 (loopB Tryz.f29 0) ⟨[(0, .val false [.seq (eL (e_sl e_u8) a0)]), (3, .val false [.int .i64 v1])], [], 0⟩ = some (match o with | .inl o_0 => (.ret, (⟨[(2, .val false [.bool o_0])], [], 0⟩ : S)) | .inr (o_1) => (.exit 0, (⟨[(0, .val false [.seq (eL (e_sl e_u8) a0)]), (3, .val false [.int .i64 o_1]), (10, .val false [.bool false])], [], 0⟩ : S))) := by
  induction m with
  | zero => intro v1 o h; cases h
  | succ m ih =>
    intro v1 o h
    rw [L_spec_l4addrs_l0] at h
    rcases ite_some h with ⟨c1, h⟩ | ⟨c1, h⟩
    ·obtain ⟨i2, hi2, h⟩ := bs h
     obtain ⟨x3, hx3, h⟩ := bs h
     obtain ⟨r4, hr4, h⟩ := bs h
     let p27 : List (Q cfg) := [.le (e_sl e_u8) a0, .lT c1, .na hi2, .ix0 (e_sl e_u8) hx3]
     cases r4 with
     | true =>
      try dsimp only at h
      rcases ite_some h with ⟨c6, h⟩ | ⟨c6, h⟩
      ·obtain ⟨i7, hi7, h⟩ := bs h
       obtain ⟨x8, hx8, h⟩ := bs h
       rcases ite_some h with ⟨c9, h⟩ | ⟨c9, h⟩
       ·exact loop_nQ (p27 ++ [.cl (ok_spec_AddrOk x3 _ hr4), .nt true, .lT c6, .su v1 1, .na hi7, .ix0 (e_sl e_u8) hx8, ⟨.bytes (eL e_u8 x8), .s x8, A.bytes⟩, .na hi2, .ix0 (e_sl e_u8) hx3, ⟨.bytes (eL e_u8 x3), .s x3, A.bytes⟩, ⟨.ltS x8 x3, .b true, (A.ltS_t c9)⟩, .nt true, .ad v1 1]) (by kernel_rfl) (ih (w64 (v1 + 1)) o h)
       ·obtain rfl := Option.some.inj h
        exact loop_eQ (p27 ++ [.cl (ok_spec_AddrOk x3 _ hr4), .nt true, .lT c6, .su v1 1, .na hi7, .ix0 (e_sl e_u8) hx8, ⟨.bytes (eL e_u8 x8), .s x8, A.bytes⟩, .na hi2, .ix0 (e_sl e_u8) hx3, ⟨.bytes (eL e_u8 x3), .s x3, A.bytes⟩, ⟨.ltS x8 x3, .b false, (A.ltS_f c9)⟩, .nt false]) (by kernel_rfl) (by intro h; cases h)
      ·exact loop_nQ (p27 ++ [.cl (ok_spec_AddrOk x3 _ hr4), .nt true, .lF c6, .ad v1 1]) (by kernel_rfl) (ih (w64 (v1 + 1)) o h)
     | false =>
      try dsimp only at h
      obtain rfl := Option.some.inj h
      exact loop_eQ (p27 ++ [.cl (ok_spec_AddrOk x3 _ hr4), .nt false]) (by kernel_rfl) (by intro h; cases h)
    ·obtain rfl := Option.some.inj h
     exact loop_eQ [.le (e_sl e_u8) a0, .lF c1] (by kernel_rfl) (by intro h; cases h)
def T_spec_l4addrs (n : Nat) (a0 : (List (List UInt8))) : Option Bool :=
  if 8 < ((a0.length : Nat) : Int) then
    some false
  else
    (L_spec_l4addrs_l0 a0 n 0).bind fun o2 =>
    match o2 with
    | .inl o2_0 =>
      some o2_0
    | .inr (o2_1) =>
      some true
set_option maxRecDepth 100000 in
theorem fd_29 : cfg.funcs 29 = some (bodyOf Tryz.f29, Tryz.f29.ntmps, Tryz.f29.results.toList) := fn_of Tryz.func29 (by kernel_rfl) (by kernel_rfl)
theorem g_spec_l4addrs (n : Nat) (a0 : (List (List UInt8))) (r : Bool) (h : T_spec_l4addrs n a0 = some r) : (mach cfg).call 29 [] [.val false [.seq (eL (e_sl e_u8) a0)]] = some (.val false [.bool r], []) := by
  unfold T_spec_l4addrs at h
  rcases ite_some h with ⟨c1, h⟩ | ⟨c1, h⟩
  ·obtain rfl := Option.some.inj h
   exact call_wQ [.le (e_sl e_u8) a0, .lT c1] rfl fd_29 (by kernel_rfl)
  ·obtain ⟨o2, ho2, h⟩ := bs h
   let p28 : List (Q cfg) := [.le (e_sl e_u8) a0, .lF c1, .lp (gl_spec_l4addrs_l0 a0 _ 0 _ ho2)]
   rcases o2 with o2_0 | o2_1
   · try dsimp only at h
     obtain rfl := Option.some.inj h
     exact call_wQ p28 rfl fd_29 (by kernel_rfl)
   · try dsimp only at h
     obtain rfl := Option.some.inj h
     exact call_wQ p28 rfl fd_29 (by kernel_rfl)
theorem specAd_eq {a : List UInt8} (h : a.length <= 2 ^ 20) : S_spec_AddrOk a = some (addrB a) := specA_eq h
theorem l4addrs_loop {a : List (List UInt8)} (hs : ∀ x ∈ a, x.length <= 2 ^ 20) (ha : a.length <= 2 ^ 40) : ∀ (d i m : Nat), i + d = a.length → d < m → ∃ z, L_spec_l4addrs_l0 a m (i : Int) = some (if gAll addrB id a i d = true then .inr z else .inl false) := by
  intro d
  induction d with
  | zero =>
    intro i m hi hm
    obtain ⟨m, rfl, _⟩ := fuel hm
    exact ⟨_, by rw [L_spec_l4addrs_l0, if_neg (by omega)]; rfl⟩
  | succ d ih =>
    intro i m hi hm
    obtain ⟨m, rfl, hm'⟩ := fuel hm
    have hil : i < a.length := by omega
    rw [L_spec_l4addrs_l0, if_pos (by omega), natO_nat, Option.bind_some, get_some hil, Option.bind_some, specAd_eq (hs _ (List.getElem_mem hil)), Option.bind_some, gAll_succ]
    obtain ⟨z, hz⟩ := ih (i + 1) m (by omega) (by omega)
    cases hx : addrB a[i] with
    | false =>
      refine ⟨0, ?_⟩
      have : gOk addrB id a i = false := by
        unfold gOk; rw [get_some hil]; simp [hx]
      rw [this]; rfl
    | true =>
      dsimp only
      by_cases h0 : 0 < i
      · rw [if_pos (by omega), w64_pred (by omega) h0, natO_nat, Option.bind_some, get_some (show i - 1 < a.length by omega), Option.bind_some, gOk_eq hil h0, hx, Bool.true_and, w64_succ (by omega), hz]
        by_cases hl : Op.bytesLess a[i - 1] a[i] = true
        · rw [if_pos hl, show Op.bytesLess (id a[i - 1]) (id a[i]) = true from hl, Bool.true_and]; exact ⟨z, rfl⟩
        · rw [if_neg hl, show Op.bytesLess (id a[i - 1]) (id a[i]) = false from Bool.eq_false_iff.2 hl]; exact ⟨z, rfl⟩
      · obtain rfl : i = 0 := by omega
        rw [if_neg (by omega), gOk_zero hil, hx, Bool.true_and, w64_succ (by omega), hz]
        exact ⟨z, rfl⟩
def S_spec_l4addrs (a0 : (List (List UInt8))) : Option Bool := if bsz a0 <= 2 ^ 20 then some (addrsB a0) else none
theorem spec_spec_l4addrs (a0 : (List (List UInt8))) (r : Bool) (h : S_spec_l4addrs a0 = some r) : ∃ n, T_spec_l4addrs n a0 = some r := by
  unfold S_spec_l4addrs at h
  obtain ⟨ha, h⟩ := need_c h
  have hl := bsz_len a0
  obtain ⟨z, hz⟩ := l4addrs_loop (a := a0) (fun x hx => by have := bsz_mem hx; omega) (by omega) a0.length 0 (a0.length + 1) (by omega) (by omega)
  refine ⟨a0.length + 1, ?_⟩
  unfold T_spec_l4addrs
  rw [show ((0 : Nat) : Int) = 0 from rfl] at hz
  rw [<- h]
  unfold addrsB
  by_cases h8 : (8 : Int) < ((a0.length : Nat) : Int)
  · rw [if_pos h8, decide_eq_false (by omega)]; rfl
  · rw [if_neg h8, hz, Option.bind_some, decide_eq_true (by omega), Bool.true_and]
    cases gAll addrB id a0 0 a0.length <;> rfl
theorem ok_spec_l4addrs (a0 : (List (List UInt8))) (r : Bool) (h : S_spec_l4addrs a0 = some r) : (mach cfg).call 29 [] [.val false [.seq (eL (e_sl e_u8) a0)]] = some (.val false [.bool r], []) := by
  obtain ⟨n, hn⟩ := spec_spec_l4addrs a0 r h
  exact g_spec_l4addrs n a0 r hn
def S_spec_EventOk (a0 : GEvent) : Option Bool :=
  if a0.Kind < 0 then
    some false
  else
    if 6 < a0.Kind then
      some false
    else
      if a0.Kind = 1 then
        if 0 < ((a0.Addr.length : Nat) : Int) then
          (S_spec_AddrOk a0.Addr).bind fun r5 =>
          match r5 with
          | true =>
            if a0.Act < 1 then
              some false
            else
              if 4 < a0.Act then
                some false
              else
                (S_spec_ValOk a0.Val).bind fun r9 =>
                match r9 with
                | true =>
                  (S_spec_l4zero a0.Val).bind fun r11 =>
                  match r11 with
                  | true =>
                    some (decide (((a0.Deps.length : Nat) : Int) = 0))
                  | false =>
                    some false
                | false =>
                  some false
          | false =>
            some false
        else
          some false
      else
        if a0.Kind = 2 then
          if 0 < ((a0.Addr.length : Nat) : Int) then
            (S_spec_AddrOk a0.Addr).bind fun r6 =>
            match r6 with
            | true =>
              if a0.Act = 0 then
                (S_spec_l4map a0.Val).bind fun r9 =>
                match r9 with
                | true =>
                  (S_spec_l4addrs a0.Deps).bind fun r11 =>
                  some r11
                | false =>
                  some false
              else
                some false
            | false =>
              some false
          else
            some false
        else
          if a0.Kind = 3 then
            if 0 < ((a0.Addr.length : Nat) : Int) then
              (S_spec_AddrOk a0.Addr).bind fun r7 =>
              match r7 with
              | true =>
                if a0.Act = 0 then
                  (S_spec_ValOk a0.Val).bind fun r10 =>
                  match r10 with
                  | true =>
                    (S_spec_l4zero a0.Val).bind fun r12 =>
                    match r12 with
                    | true =>
                      some (decide (((a0.Deps.length : Nat) : Int) = 0))
                    | false =>
                      some false
                  | false =>
                    some false
                else
                  some false
              | false =>
                some false
            else
              some false
          else
            if a0.Kind = 4 then
              if 0 < ((a0.Addr.length : Nat) : Int) then
                (S_spec_AddrOk a0.Addr).bind fun r8 =>
                match r8 with
                | true =>
                  if a0.Act = 0 then
                    (S_spec_ValOk a0.Val).bind fun r11 =>
                    match r11 with
                    | true =>
                      (S_spec_l4zero a0.Val).bind fun r13 =>
                      match r13 with
                      | true =>
                        some (decide (((a0.Deps.length : Nat) : Int) = 0))
                      | false =>
                        some false
                    | false =>
                      some false
                  else
                    some false
                | false =>
                  some false
              else
                some false
            else
              if 0 < ((a0.Addr.length : Nat) : Int) then
                some false
              else
                if a0.Act = 0 then
                  (S_spec_ValOk a0.Val).bind fun r9 =>
                  match r9 with
                  | true =>
                    (S_spec_l4zero a0.Val).bind fun r11 =>
                    match r11 with
                    | true =>
                      some (decide (((a0.Deps.length : Nat) : Int) = 0))
                    | false =>
                      some false
                  | false =>
                    some false
                else
                  some false
set_option maxRecDepth 100000 in
theorem fd_15 : cfg.funcs 15 = some (bodyOf Tryz.f15, Tryz.f15.ntmps, Tryz.f15.results.toList) := fn_of Tryz.func15 (by kernel_rfl) (by kernel_rfl)
theorem ok_spec_EventOk (a0 : GEvent) (r : Bool) (h : S_spec_EventOk a0 = some r) : (mach cfg).call 15 [] [.val true [.int .i64 a0.Kind, .seq (eL e_u8 a0.Addr), .int .i64 a0.Act, .int .i64 a0.Val.Kind, .int .i64 a0.Val.N, .seq (eL e_u8 a0.Val.S), .seq (eL (e_sl e_u8) a0.Val.K), .seq (eL e_GValue a0.Val.L), .seq (eL (e_sl e_u8) a0.Deps)]] = some (.val false [.bool r], []) := by
  unfold S_spec_EventOk at h
  rcases ite_some h with ⟨c1, h⟩ | ⟨c1, h⟩
  ·obtain rfl := Option.some.inj h
   exact call_wQ [.lT c1] rfl fd_15 (by kernel_rfl)
  ·let p29 : List (Q cfg) := [.lF c1]
   rcases ite_some h with ⟨c2, h⟩ | ⟨c2, h⟩
   ·obtain rfl := Option.some.inj h
    exact call_wQ (p29 ++ [.lT c2]) rfl fd_15 (by kernel_rfl)
   ·let p30 : List (Q cfg) := p29 ++ [.lF c2]
    rcases ite_some h with ⟨c3, h⟩ | ⟨c3, h⟩
    ·rcases ite_some h with ⟨c4, h⟩ | ⟨c4, h⟩
     ·obtain ⟨r5, hr5, h⟩ := bs h
      cases r5 with
      | true =>
       try dsimp only at h
       rcases ite_some h with ⟨c7, h⟩ | ⟨c7, h⟩
       ·obtain rfl := Option.some.inj h
        exact call_wQ (p30 ++ [.eT c3, .le e_u8 a0.Addr, .lT c4, ⟨.eqB true true, .b true, rfl⟩, .nt true, .cl (ok_spec_AddrOk a0.Addr _ hr5), .nt true, .eT c3, .lT c7]) rfl fd_15 (by kernel_rfl)
       ·rcases ite_some h with ⟨c8, h⟩ | ⟨c8, h⟩
        ·obtain rfl := Option.some.inj h
         exact call_wQ (p30 ++ [.eT c3, .le e_u8 a0.Addr, .lT c4, ⟨.eqB true true, .b true, rfl⟩, .nt true, .cl (ok_spec_AddrOk a0.Addr _ hr5), .nt true, .eT c3, .lF c7, .lT c8]) rfl fd_15 (by kernel_rfl)
        ·obtain ⟨r9, hr9, h⟩ := bs h
         let p31 : List (Q cfg) := p30 ++ [.eT c3, .le e_u8 a0.Addr, .lT c4, ⟨.eqB true true, .b true, rfl⟩, .nt true, .cl (ok_spec_AddrOk a0.Addr _ hr5), .nt true, .eT c3, .lF c7, .lF c8, .eFo a0.Kind 2 (by omega), .cl (ok_spec_ValOk a0.Val _ hr9)]
         cases r9 with
         | true =>
          try dsimp only at h
          obtain ⟨r11, hr11, h⟩ := bs h
          cases r11 with
          | true =>
           try dsimp only at h
           obtain rfl := Option.some.inj h
           exact call_wQ (p31 ++ [.cl (ok_spec_l4zero a0.Val _ hr11), .le (e_sl e_u8) a0.Deps, .eD ((a0.Deps.length : Nat) : Int) 0]) rfl fd_15 (by kernel_rfl)
          | false =>
           try dsimp only at h
           obtain rfl := Option.some.inj h
           exact call_wQ (p31 ++ [.cl (ok_spec_l4zero a0.Val _ hr11)]) rfl fd_15 (by kernel_rfl)
         | false =>
          try dsimp only at h
          obtain rfl := Option.some.inj h
          exact call_wQ p31 rfl fd_15 (by kernel_rfl)
      | false =>
       try dsimp only at h
       obtain rfl := Option.some.inj h
       exact call_wQ (p30 ++ [.eT c3, .le e_u8 a0.Addr, .lT c4, ⟨.eqB true true, .b true, rfl⟩, .nt true, .cl (ok_spec_AddrOk a0.Addr _ hr5), .nt false]) rfl fd_15 (by kernel_rfl)
     ·obtain rfl := Option.some.inj h
      exact call_wQ (p30 ++ [.eT c3, .le e_u8 a0.Addr, .lF c4, ⟨.eqB true false, .b false, rfl⟩, .nt false]) rfl fd_15 (by kernel_rfl)
    ·let p32 : List (Q cfg) := p30 ++ [.eF c3]
     rcases ite_some h with ⟨c4, h⟩ | ⟨c4, h⟩
     ·rcases ite_some h with ⟨c5, h⟩ | ⟨c5, h⟩
      ·obtain ⟨r6, hr6, h⟩ := bs h
       cases r6 with
       | true =>
        try dsimp only at h
        rcases ite_some h with ⟨c8, h⟩ | ⟨c8, h⟩
        ·obtain ⟨r9, hr9, h⟩ := bs h
         let p33 : List (Q cfg) := p32 ++ [.eT c4, .le e_u8 a0.Addr, .lT c5, ⟨.eqB true true, .b true, rfl⟩, .nt true, .cl (ok_spec_AddrOk a0.Addr _ hr6), .nt true, .eF c3, .eT c8, .nt true, .eT c4, .cl (ok_spec_l4map a0.Val _ hr9)]
         cases r9 with
         | true =>
          try dsimp only at h
          obtain ⟨r11, hr11, h⟩ := bs h
          obtain rfl := Option.some.inj h
          exact call_wQ (p33 ++ [.cl (ok_spec_l4addrs a0.Deps _ hr11)]) rfl fd_15 (by kernel_rfl)
         | false =>
          try dsimp only at h
          obtain rfl := Option.some.inj h
          exact call_wQ p33 rfl fd_15 (by kernel_rfl)
        ·obtain rfl := Option.some.inj h
         exact call_wQ (p32 ++ [.eT c4, .le e_u8 a0.Addr, .lT c5, ⟨.eqB true true, .b true, rfl⟩, .nt true, .cl (ok_spec_AddrOk a0.Addr _ hr6), .nt true, .eF c3, .eF c8, .nt false]) rfl fd_15 (by kernel_rfl)
       | false =>
        try dsimp only at h
        obtain rfl := Option.some.inj h
        exact call_wQ (p32 ++ [.eT c4, .le e_u8 a0.Addr, .lT c5, ⟨.eqB true true, .b true, rfl⟩, .nt true, .cl (ok_spec_AddrOk a0.Addr _ hr6), .nt false]) rfl fd_15 (by kernel_rfl)
      ·obtain rfl := Option.some.inj h
       exact call_wQ (p32 ++ [.eT c4, .le e_u8 a0.Addr, .lF c5, ⟨.eqB true false, .b false, rfl⟩, .nt false]) rfl fd_15 (by kernel_rfl)
     ·let p34 : List (Q cfg) := p32 ++ [.eF c4]
      rcases ite_some h with ⟨c5, h⟩ | ⟨c5, h⟩
      ·rcases ite_some h with ⟨c6, h⟩ | ⟨c6, h⟩
       ·obtain ⟨r7, hr7, h⟩ := bs h
        cases r7 with
        | true =>
         try dsimp only at h
         rcases ite_some h with ⟨c9, h⟩ | ⟨c9, h⟩
         ·obtain ⟨r10, hr10, h⟩ := bs h
          let p35 : List (Q cfg) := p34 ++ [.eT c5, .le e_u8 a0.Addr, .lT c6, ⟨.eqB true true, .b true, rfl⟩, .nt true, .cl (ok_spec_AddrOk a0.Addr _ hr7), .nt true, .eF c3, .eT c9, .nt true, .eF c4, .cl (ok_spec_ValOk a0.Val _ hr10)]
          cases r10 with
          | true =>
           try dsimp only at h
           obtain ⟨r12, hr12, h⟩ := bs h
           cases r12 with
           | true =>
            try dsimp only at h
            obtain rfl := Option.some.inj h
            exact call_wQ (p35 ++ [.cl (ok_spec_l4zero a0.Val _ hr12), .le (e_sl e_u8) a0.Deps, .eD ((a0.Deps.length : Nat) : Int) 0]) rfl fd_15 (by kernel_rfl)
           | false =>
            try dsimp only at h
            obtain rfl := Option.some.inj h
            exact call_wQ (p35 ++ [.cl (ok_spec_l4zero a0.Val _ hr12)]) rfl fd_15 (by kernel_rfl)
          | false =>
           try dsimp only at h
           obtain rfl := Option.some.inj h
           exact call_wQ p35 rfl fd_15 (by kernel_rfl)
         ·obtain rfl := Option.some.inj h
          exact call_wQ (p34 ++ [.eT c5, .le e_u8 a0.Addr, .lT c6, ⟨.eqB true true, .b true, rfl⟩, .nt true, .cl (ok_spec_AddrOk a0.Addr _ hr7), .nt true, .eF c3, .eF c9, .nt false]) rfl fd_15 (by kernel_rfl)
        | false =>
         try dsimp only at h
         obtain rfl := Option.some.inj h
         exact call_wQ (p34 ++ [.eT c5, .le e_u8 a0.Addr, .lT c6, ⟨.eqB true true, .b true, rfl⟩, .nt true, .cl (ok_spec_AddrOk a0.Addr _ hr7), .nt false]) rfl fd_15 (by kernel_rfl)
       ·obtain rfl := Option.some.inj h
        exact call_wQ (p34 ++ [.eT c5, .le e_u8 a0.Addr, .lF c6, ⟨.eqB true false, .b false, rfl⟩, .nt false]) rfl fd_15 (by kernel_rfl)
      ·let p36 : List (Q cfg) := p34 ++ [.eF c5]
       rcases ite_some h with ⟨c6, h⟩ | ⟨c6, h⟩
       ·rcases ite_some h with ⟨c7, h⟩ | ⟨c7, h⟩
        ·obtain ⟨r8, hr8, h⟩ := bs h
         cases r8 with
         | true =>
          try dsimp only at h
          rcases ite_some h with ⟨c10, h⟩ | ⟨c10, h⟩
          ·obtain ⟨r11, hr11, h⟩ := bs h
           let p37 : List (Q cfg) := p36 ++ [.eT c6, .le e_u8 a0.Addr, .lT c7, ⟨.eqB true true, .b true, rfl⟩, .nt true, .cl (ok_spec_AddrOk a0.Addr _ hr8), .nt true, .eF c3, .eT c10, .nt true, .eF c4, .cl (ok_spec_ValOk a0.Val _ hr11)]
           cases r11 with
           | true =>
            try dsimp only at h
            obtain ⟨r13, hr13, h⟩ := bs h
            cases r13 with
            | true =>
             try dsimp only at h
             obtain rfl := Option.some.inj h
             exact call_wQ (p37 ++ [.cl (ok_spec_l4zero a0.Val _ hr13), .le (e_sl e_u8) a0.Deps, .eD ((a0.Deps.length : Nat) : Int) 0]) rfl fd_15 (by kernel_rfl)
            | false =>
             try dsimp only at h
             obtain rfl := Option.some.inj h
             exact call_wQ (p37 ++ [.cl (ok_spec_l4zero a0.Val _ hr13)]) rfl fd_15 (by kernel_rfl)
           | false =>
            try dsimp only at h
            obtain rfl := Option.some.inj h
            exact call_wQ p37 rfl fd_15 (by kernel_rfl)
          ·obtain rfl := Option.some.inj h
           exact call_wQ (p36 ++ [.eT c6, .le e_u8 a0.Addr, .lT c7, ⟨.eqB true true, .b true, rfl⟩, .nt true, .cl (ok_spec_AddrOk a0.Addr _ hr8), .nt true, .eF c3, .eF c10, .nt false]) rfl fd_15 (by kernel_rfl)
         | false =>
          try dsimp only at h
          obtain rfl := Option.some.inj h
          exact call_wQ (p36 ++ [.eT c6, .le e_u8 a0.Addr, .lT c7, ⟨.eqB true true, .b true, rfl⟩, .nt true, .cl (ok_spec_AddrOk a0.Addr _ hr8), .nt false]) rfl fd_15 (by kernel_rfl)
        ·obtain rfl := Option.some.inj h
         exact call_wQ (p36 ++ [.eT c6, .le e_u8 a0.Addr, .lF c7, ⟨.eqB true false, .b false, rfl⟩, .nt false]) rfl fd_15 (by kernel_rfl)
       ·rcases ite_some h with ⟨c7, h⟩ | ⟨c7, h⟩
        ·obtain rfl := Option.some.inj h
         exact call_wQ (p36 ++ [.eF c6, .le e_u8 a0.Addr, .lT c7, ⟨.eqB false true, .b false, rfl⟩, .nt false]) rfl fd_15 (by kernel_rfl)
        ·rcases ite_some h with ⟨c8, h⟩ | ⟨c8, h⟩
         ·obtain ⟨r9, hr9, h⟩ := bs h
          let p38 : List (Q cfg) := p36 ++ [.eF c6, .le e_u8 a0.Addr, .lF c7, ⟨.eqB false false, .b true, rfl⟩, .nt true, .eF c3, .eT c8, .nt true, .eF c4, .cl (ok_spec_ValOk a0.Val _ hr9)]
          cases r9 with
          | true =>
           try dsimp only at h
           obtain ⟨r11, hr11, h⟩ := bs h
           cases r11 with
           | true =>
            try dsimp only at h
            obtain rfl := Option.some.inj h
            exact call_wQ (p38 ++ [.cl (ok_spec_l4zero a0.Val _ hr11), .le (e_sl e_u8) a0.Deps, .eD ((a0.Deps.length : Nat) : Int) 0]) rfl fd_15 (by kernel_rfl)
           | false =>
            try dsimp only at h
            obtain rfl := Option.some.inj h
            exact call_wQ (p38 ++ [.cl (ok_spec_l4zero a0.Val _ hr11)]) rfl fd_15 (by kernel_rfl)
          | false =>
           try dsimp only at h
           obtain rfl := Option.some.inj h
           exact call_wQ p38 rfl fd_15 (by kernel_rfl)
         ·obtain rfl := Option.some.inj h
          exact call_wQ (p36 ++ [.eF c6, .le e_u8 a0.Addr, .lF c7, ⟨.eqB false false, .b true, rfl⟩, .nt true, .eF c3, .eF c8, .nt false]) rfl fd_15 (by kernel_rfl)
def L_spec_PutNum_l0a : Nat → Int → (List UInt8) → Option (Int × (List UInt8))
  | 0, _, _ => none
  | m + 1, v0, v1 =>
    if 127 < v0 then
      if roomP 1 (v1.length + [(b8 (w64 ((v0.tmod 128) + 128)))].length) then
      L_spec_PutNum_l0a m (w64 (v0.tdiv 128)) (v1 ++ [(b8 (w64 ((v0.tmod 128) + 128)))])
      else none
    else
      some (v0, v1)
theorem gl_spec_PutNum_l0a (m : Nat) : ∀ (v0 : Int) (v1 : (List UInt8)) (o : (Int × (List UInt8))), L_spec_PutNum_l0a m v0 v1 = some o → (mach cfg).loop 32 (loopB Tryz.f32 0) ⟨[(1, .val false [.int .i64 v0]), (5, .val false [.ref 0])], [.obj 1 (eL e_u8 v1)], 0⟩ = some (match o with | ⟨o_0, o_1⟩ => (.exit 0, (⟨[(1, .val false [.int .i64 o_0]), (5, .val false [.ref 0])], [.obj 1 (eL e_u8 o_1)], 0⟩ : S))) := by
  induction m with
  | zero => intro v0 v1 o h; cases h
  | succ m ih =>
    intro v0 v1 o h
    rw [L_spec_PutNum_l0a] at h
    rcases ite_some h with ⟨c1, h⟩ | ⟨c1, h⟩
    ·obtain ⟨n2, h⟩ := need_some h
     exact loop_nQ [.lT c1, ⟨.nz 128, .b true, rfl⟩, ⟨.rem v0 128, .i (v0.tmod 128), rfl⟩, .ad (v0.tmod 128) 128, ⟨.conv .u8 (w64 ((v0.tmod 128) + 128)), .i (((b8 (w64 ((v0.tmod 128) + 128))).toNat : Nat) : Int), A.conv8⟩, ⟨.pl (eL e_u8 [(b8 (w64 ((v0.tmod 128) + 128)))]), .b true, (A.pl E_u8)⟩, ⟨.room 1 (eL e_u8 v1) (eL e_u8 [(b8 (w64 ((v0.tmod 128) + 128)))]), .b true, (A.room n2)⟩, ⟨.uni 1 (eL e_u8 [(b8 (w64 ((v0.tmod 128) + 128)))]), .b true, (A.uni E_u8)⟩, ⟨.app (eL e_u8 v1) (eL e_u8 [(b8 (w64 ((v0.tmod 128) + 128)))]), .l (eL e_u8 (v1 ++ [(b8 (w64 ((v0.tmod 128) + 128)))])), A.app⟩, ⟨.nz 128, .b true, rfl⟩, ⟨.quo .i64 v0 128, .i (w64 (v0.tdiv 128)), rfl⟩] (by kernel_rfl) (ih (w64 (v0.tdiv 128)) (v1 ++ [(b8 (w64 ((v0.tmod 128) + 128)))]) o h)
    ·obtain rfl := Option.some.inj h
     exact loop_eQ [.lF c1] (by kernel_rfl) (by intro h; cases h)
def L_spec_PutNum_l0 (n : Nat) (a1 : Int) (v1 : Bool) (a0 : (List UInt8)) : Nat → Option (Int × (List UInt8))
  | 0 => none
  | m + 1 =>
    if 127 < a1 then
      if roomP 1 (a0.length + [(b8 (w64 ((a1.tmod 128) + 128)))].length) then
      (L_spec_PutNum_l0a n (w64 (a1.tdiv 128)) (a0 ++ [(b8 (w64 ((a1.tmod 128) + 128)))])).bind fun ⟨o3_0, o3_1⟩ =>
      some (o3_0, o3_1)
      else none
    else
      some (a1, a0)
theorem gl_spec_PutNum_l0 (n : Nat) (a1 : Int) (v1 : Bool) (a0 : (List UInt8)) (m : Nat) : ∀ (o : (Int × (List UInt8))), L_spec_PutNum_l0 n a1 v1 a0 m = some o → (mach cfg).loop 32 (loopB Tryz.f32 0) ⟨[(1, .val false [.int .i64 a1]), (5, .val false [.ref 0]), (14, .val false [.bool v1])], [.obj 1 (eL e_u8 a0)], 0⟩ = some (match o with | ⟨o_0, o_1⟩ => (.exit 0, (⟨[(1, .val false [.int .i64 o_0]), (5, .val false [.ref 0])], [.obj 1 (eL e_u8 o_1)], 0⟩ : S))) := by
  induction m with
  | zero => intro  o h; cases h
  | succ m ih =>
    intro  o h
    rw [L_spec_PutNum_l0] at h
    rcases ite_some h with ⟨c1, h⟩ | ⟨c1, h⟩
    ·obtain ⟨n2, h⟩ := need_some h
     obtain ⟨⟨o3_0, o3_1⟩, ho3, h⟩ := bs h
     try dsimp only at h
     obtain rfl := Option.some.inj h
     exact loop_nQ [.lT c1, ⟨.nz 128, .b true, rfl⟩, ⟨.rem a1 128, .i (a1.tmod 128), rfl⟩, .ad (a1.tmod 128) 128, ⟨.conv .u8 (w64 ((a1.tmod 128) + 128)), .i (((b8 (w64 ((a1.tmod 128) + 128))).toNat : Nat) : Int), A.conv8⟩, ⟨.pl (eL e_u8 [(b8 (w64 ((a1.tmod 128) + 128)))]), .b true, (A.pl E_u8)⟩, ⟨.room 1 (eL e_u8 a0) (eL e_u8 [(b8 (w64 ((a1.tmod 128) + 128)))]), .b true, (A.room n2)⟩, ⟨.uni 1 (eL e_u8 [(b8 (w64 ((a1.tmod 128) + 128)))]), .b true, (A.uni E_u8)⟩, ⟨.app (eL e_u8 a0) (eL e_u8 [(b8 (w64 ((a1.tmod 128) + 128)))]), .l (eL e_u8 (a0 ++ [(b8 (w64 ((a1.tmod 128) + 128)))])), A.app⟩, ⟨.nz 128, .b true, rfl⟩, ⟨.quo .i64 a1 128, .i (w64 (a1.tdiv 128)), rfl⟩] (by kernel_rfl) (gl_spec_PutNum_l0a _ (w64 (a1.tdiv 128)) (a0 ++ [(b8 (w64 ((a1.tmod 128) + 128)))]) _ ho3)
    ·obtain rfl := Option.some.inj h
     exact loop_eQ [.lF c1] (by kernel_rfl) (by intro h; cases h)
def T_spec_PutNum (n : Nat) (a0 : (List UInt8)) (a1 : Int) : Option (List UInt8) :=
  if roomP 1 (0 + a0.length) then
  if a1 < 0 then
    some a0
  else
    if 2147483647 < a1 then
      some a0
    else
      (L_spec_PutNum_l0 n a1 false a0 n).bind fun ⟨o4_0, o4_1⟩ =>
      if roomP 1 (o4_1.length + [(b8 o4_0)].length) then
      some (o4_1 ++ [(b8 o4_0)])
      else none
  else none
set_option maxRecDepth 100000 in
theorem fd_32 : cfg.funcs 32 = some (bodyOf Tryz.f32, Tryz.f32.ntmps, Tryz.f32.results.toList) := fn_of Tryz.func32 (by kernel_rfl) (by kernel_rfl)
theorem g_spec_PutNum (n : Nat) (a0 : (List UInt8)) (a1 : Int) (r : (List UInt8)) (h : T_spec_PutNum n a0 a1 = some r) : (mach cfg).call 32 [] [.val false [.seq (eL e_u8 a0)], .val false [.int .i64 a1]] = some (.val false [.own 1 (eL e_u8 r)], []) := by
  unfold T_spec_PutNum at h
  obtain ⟨n1, h⟩ := need_some h
  let p39 : List (Q cfg) := [⟨.room 1 (eL e_u8 []) (eL e_u8 a0), .b true, (A.room n1)⟩, ⟨.uni 1 (eL e_u8 a0), .b true, (A.uni E_u8)⟩, ⟨.app (eL e_u8 []) (eL e_u8 a0), .l (eL e_u8 a0), A.app0⟩]
  rcases ite_some h with ⟨c2, h⟩ | ⟨c2, h⟩
  ·obtain rfl := Option.some.inj h
   exact call_wQ (p39 ++ [.lT c2]) rfl fd_32 (by kernel_rfl)
  ·rcases ite_some h with ⟨c3, h⟩ | ⟨c3, h⟩
   ·obtain rfl := Option.some.inj h
    exact call_wQ (p39 ++ [.lF c2, .lT c3]) rfl fd_32 (by kernel_rfl)
   ·obtain ⟨⟨o4_0, o4_1⟩, ho4, h⟩ := bs h
    try dsimp only at h
    obtain ⟨n5, h⟩ := need_some h
    obtain rfl := Option.some.inj h
    exact call_wQ (p39 ++ [.lF c2, .lF c3, .lp (gl_spec_PutNum_l0 n a1 false a0 _ _ ho4), ⟨.conv .u8 o4_0, .i (((b8 o4_0).toNat : Nat) : Int), A.conv8⟩, ⟨.pl (eL e_u8 [(b8 o4_0)]), .b true, (A.pl E_u8)⟩, ⟨.room 1 (eL e_u8 o4_1) (eL e_u8 [(b8 o4_0)]), .b true, (A.room n5)⟩, ⟨.uni 1 (eL e_u8 [(b8 o4_0)]), .b true, (A.uni E_u8)⟩, ⟨.app (eL e_u8 o4_1) (eL e_u8 [(b8 o4_0)]), .l (eL e_u8 (o4_1 ++ [(b8 o4_0)])), A.app⟩]) rfl fd_32 (by kernel_rfl)
def S_spec_PutNum (a0 : (List UInt8)) (a1 : Int) : Option (List UInt8) := T_spec_PutNum 10 a0 a1
theorem spec_spec_PutNum (a0 : (List UInt8)) (a1 : Int) (r : (List UInt8)) (h : S_spec_PutNum a0 a1 = some r) : ∃ n, T_spec_PutNum n a0 a1 = some r := ⟨_, h⟩
theorem ok_spec_PutNum (a0 : (List UInt8)) (a1 : Int) (r : (List UInt8)) (h : S_spec_PutNum a0 a1 = some r) : (mach cfg).call 32 [] [.val false [.seq (eL e_u8 a0)], .val false [.int .i64 a1]] = some (.val false [.own 1 (eL e_u8 r)], []) := by
  obtain ⟨n, hn⟩ := spec_spec_PutNum a0 a1 r h
  exact g_spec_PutNum n a0 a1 r hn
def S_spec_PutText (a0 : (List UInt8)) (a1 : (List UInt8)) : Option (List UInt8) :=
  if 20 < ((a1.length : Nat) : Int) then
    if roomP 1 (0 + a0.length) then
    some a0
    else none
  else
    (S_spec_PutNum a0 ((a1.length : Nat) : Int)).bind fun r2 =>
    if roomP 1 (r2.length + a1.length) then
    some (r2 ++ a1)
    else none
set_option maxRecDepth 100000 in
theorem fd_33 : cfg.funcs 33 = some (bodyOf Tryz.f33, Tryz.f33.ntmps, Tryz.f33.results.toList) := fn_of Tryz.func33 (by kernel_rfl) (by kernel_rfl)
theorem ok_spec_PutText (a0 : (List UInt8)) (a1 : (List UInt8)) (r : (List UInt8)) (h : S_spec_PutText a0 a1 = some r) : (mach cfg).call 33 [] [.val false [.seq (eL e_u8 a0)], .val false [.seq (eL e_u8 a1)]] = some (.val false [.own 1 (eL e_u8 r)], []) := by
  unfold S_spec_PutText at h
  rcases ite_some h with ⟨c1, h⟩ | ⟨c1, h⟩
  ·obtain ⟨n2, h⟩ := need_some h
   obtain rfl := Option.some.inj h
   exact call_wQ [.le e_u8 a1, .lT c1, ⟨.room 1 (eL e_u8 []) (eL e_u8 a0), .b true, (A.room n2)⟩, ⟨.uni 1 (eL e_u8 a0), .b true, (A.uni E_u8)⟩, ⟨.app (eL e_u8 []) (eL e_u8 a0), .l (eL e_u8 a0), A.app0⟩] rfl fd_33 (by kernel_rfl)
  ·obtain ⟨r2, hr2, h⟩ := bs h
   obtain ⟨n3, h⟩ := need_some h
   obtain rfl := Option.some.inj h
   exact call_wQ [.le e_u8 a1, .lF c1, .le e_u8 a1, .cl (ok_spec_PutNum a0 ((a1.length : Nat) : Int) _ hr2), ⟨.room 1 (eL e_u8 r2) (eL e_u8 a1), .b true, (A.room n3)⟩, ⟨.uni 1 (eL e_u8 a1), .b true, (A.uni E_u8)⟩, ⟨.app (eL e_u8 r2) (eL e_u8 a1), .l (eL e_u8 (r2 ++ a1)), A.app⟩] rfl fd_33 (by kernel_rfl)
def L_spec_l2put_l0 (G_spec_l2put : (List UInt8) → GValue → Option (List UInt8)) (a1 : GValue) : Nat → Int → (List UInt8) → Option (Int × (List UInt8))
  | 0, _, _ => none
  | m + 1, v0, v1 =>
    if v0 < ((a1.L.length : Nat) : Int) then
      if a1.Kind = 5 then
        (natO v0).bind fun i3 =>
        (a1.K[i3]?).bind fun x4 =>
        (S_spec_PutText v1 x4).bind fun r5 =>
        (a1.L[i3]?).bind fun x6 =>
        (G_spec_l2put r5 x6).bind fun r7 =>
        L_spec_l2put_l0 G_spec_l2put a1 m (w64 (v0 + 1)) r7
      else
        (natO v0).bind fun i3 =>
        (a1.L[i3]?).bind fun x4 =>
        (G_spec_l2put v1 x4).bind fun r5 =>
        L_spec_l2put_l0 G_spec_l2put a1 m (w64 (v0 + 1)) r5
    else
      some (v0, v1)
theorem gl_spec_l2put_l0 (G_spec_l2put : (List UInt8) → GValue → Option (List UInt8)) (H_spec_l2put : ∀ (a0 : (List UInt8)) (a1 : GValue) (r : (List UInt8)), G_spec_l2put a0 a1 = some r → (mach cfg).call 34 [] [.val false [.seq (eL e_u8 a0)], .val true [.int .i64 a1.Kind, .int .i64 a1.N, .seq (eL e_u8 a1.S), .seq (eL (e_sl e_u8) a1.K), .seq (eL e_GValue a1.L)]] = some (.val false [.own 1 (eL e_u8 r)], [])) (a1 : GValue) (m : Nat) : ∀ (v0 : Int) (v1 : (List UInt8)) (o : (Int × (List UInt8))), L_spec_l2put_l0 G_spec_l2put a1 m v0 v1 = some o → (mach cfg).loop 34 (loopB Tryz.f34 0) ⟨[(0, .val false [.ref 0]), (3, .val false [.ptr 1 0]), (7, .val false [.int .i64 v0])], [.obj 1 (eL e_u8 v1), .var [.int .i64 a1.Kind, .int .i64 a1.N, .seq (eL e_u8 a1.S), .seq (eL (e_sl e_u8) a1.K), .seq (eL e_GValue a1.L)]], 0⟩ = some (match o with | ⟨o_0, o_1⟩ => (.exit 1, (⟨[(0, .val false [.ref 0]), (3, .val false [.ptr 1 0]), (7, .val false [.int .i64 o_0]), (55, .val false [.bool false])], [.obj 1 (eL e_u8 o_1), .var [.int .i64 a1.Kind, .int .i64 a1.N, .seq (eL e_u8 a1.S), .seq (eL (e_sl e_u8) a1.K), .seq (eL e_GValue a1.L)]], 0⟩ : S))) := by
  induction m with
  | zero => intro v0 v1 o h; cases h
  | succ m ih =>
    intro v0 v1 o h
    rw [L_spec_l2put_l0] at h
    rcases ite_some h with ⟨c1, h⟩ | ⟨c1, h⟩
    ·rcases ite_some h with ⟨c2, h⟩ | ⟨c2, h⟩
     ·obtain ⟨i3, hi3, h⟩ := bs h
      obtain ⟨x4, hx4, h⟩ := bs h
      obtain ⟨r5, hr5, h⟩ := bs h
      obtain ⟨x6, hx6, h⟩ := bs h
      obtain ⟨r7, hr7, h⟩ := bs h
      exact loop_nQ [.le e_GValue a1.L, .lT c1, .eT c2, .na hi3, .ix0 (e_sl e_u8) hx4, ⟨.view (eL e_u8 v1), .l (eL e_u8 v1), (A.view E_u8)⟩, .cl (ok_spec_PutText v1 x4 _ hr5), ⟨.cln (eL e_u8 r5), .b true, (A.cln O_u8)⟩, .na hi3, .ix hx6 (eq_GValue x6), ⟨.view (eL e_u8 r5), .l (eL e_u8 r5), (A.view E_u8)⟩, .cl (H_spec_l2put r5 x6 _ hr7), ⟨.cln (eL e_u8 r7), .b true, (A.cln O_u8)⟩, .ad v0 1] (by kernel_rfl) (ih (w64 (v0 + 1)) r7 o h)
     ·obtain ⟨i3, hi3, h⟩ := bs h
      obtain ⟨x4, hx4, h⟩ := bs h
      obtain ⟨r5, hr5, h⟩ := bs h
      exact loop_nQ [.le e_GValue a1.L, .lT c1, .eF c2, .na hi3, .ix hx4 (eq_GValue x4), ⟨.view (eL e_u8 v1), .l (eL e_u8 v1), (A.view E_u8)⟩, .cl (H_spec_l2put v1 x4 _ hr5), ⟨.cln (eL e_u8 r5), .b true, (A.cln O_u8)⟩, .ad v0 1] (by kernel_rfl) (ih (w64 (v0 + 1)) r5 o h)
    ·obtain rfl := Option.some.inj h
     exact loop_eQ [.le e_GValue a1.L, .lF c1] (by kernel_rfl) (by intro h; cases h)
def T_spec_l2put (G_spec_l2put : (List UInt8) → GValue → Option (List UInt8)) (n : Nat) (a0 : (List UInt8)) (a1 : GValue) : Option (List UInt8) :=
  (S_spec_PutNum a0 a1.Kind).bind fun r1 =>
  if a1.Kind = 1 then
    (S_spec_PutNum r1 a1.N).bind fun r3 =>
    some r3
  else
    if a1.Kind = 2 then
      if a1.N < 0 then
        (S_spec_PutNum r1 1).bind fun r5 =>
        (S_spec_PutNum r5 (w64 ((w64 (0 - a1.N)).tdiv 1000000))).bind fun r6 =>
        (S_spec_PutNum r6 ((w64 (0 - a1.N)).tmod 1000000)).bind fun r7 =>
        some r7
      else
        (S_spec_PutNum r1 0).bind fun r5 =>
        (S_spec_PutNum r5 (w64 (a1.N.tdiv 1000000))).bind fun r6 =>
        (S_spec_PutNum r6 (a1.N.tmod 1000000)).bind fun r7 =>
        some r7
    else
      if a1.Kind = 3 then
        (S_spec_PutText r1 a1.S).bind fun r5 =>
        some r5
      else
        if a1.Kind = 4 then
          (S_spec_PutNum r1 ((a1.L.length : Nat) : Int)).bind fun r6 =>
          (L_spec_l2put_l0 G_spec_l2put a1 n 0 r6).bind fun ⟨o7_0, o7_1⟩ =>
          some o7_1
        else
          if a1.Kind = 5 then
            (S_spec_PutNum r1 ((a1.L.length : Nat) : Int)).bind fun r7 =>
            (L_spec_l2put_l0 G_spec_l2put a1 n 0 r7).bind fun ⟨o8_0, o8_1⟩ =>
            some o8_1
          else
            some r1
set_option maxRecDepth 100000 in
theorem fd_34 : cfg.funcs 34 = some (bodyOf Tryz.f34, Tryz.f34.ntmps, Tryz.f34.results.toList) := fn_of Tryz.func34 (by kernel_rfl) (by kernel_rfl)
theorem g_spec_l2put (G_spec_l2put : (List UInt8) → GValue → Option (List UInt8)) (H_spec_l2put : ∀ (a0 : (List UInt8)) (a1 : GValue) (r : (List UInt8)), G_spec_l2put a0 a1 = some r → (mach cfg).call 34 [] [.val false [.seq (eL e_u8 a0)], .val true [.int .i64 a1.Kind, .int .i64 a1.N, .seq (eL e_u8 a1.S), .seq (eL (e_sl e_u8) a1.K), .seq (eL e_GValue a1.L)]] = some (.val false [.own 1 (eL e_u8 r)], [])) (n : Nat) (a0 : (List UInt8)) (a1 : GValue) (r : (List UInt8)) (h : T_spec_l2put G_spec_l2put n a0 a1 = some r) : (mach cfg).call 34 [] [.val false [.seq (eL e_u8 a0)], .val true [.int .i64 a1.Kind, .int .i64 a1.N, .seq (eL e_u8 a1.S), .seq (eL (e_sl e_u8) a1.K), .seq (eL e_GValue a1.L)]] = some (.val false [.own 1 (eL e_u8 r)], []) := by
  unfold T_spec_l2put at h
  obtain ⟨r1, hr1, h⟩ := bs h
  rcases ite_some h with ⟨c2, h⟩ | ⟨c2, h⟩
  ·obtain ⟨r3, hr3, h⟩ := bs h
   obtain rfl := Option.some.inj h
   exact call_wQ [.cl (ok_spec_PutNum a0 a1.Kind _ hr1), .eT c2, ⟨.view (eL e_u8 r1), .l (eL e_u8 r1), (A.view E_u8)⟩, .cl (ok_spec_PutNum r1 a1.N _ hr3), ⟨.cln (eL e_u8 r3), .b true, (A.cln O_u8)⟩] rfl fd_34 (by kernel_rfl)
  ·rcases ite_some h with ⟨c3, h⟩ | ⟨c3, h⟩
   ·rcases ite_some h with ⟨c4, h⟩ | ⟨c4, h⟩
    ·obtain ⟨r5, hr5, h⟩ := bs h
     obtain ⟨r6, hr6, h⟩ := bs h
     obtain ⟨r7, hr7, h⟩ := bs h
     obtain rfl := Option.some.inj h
     exact call_wQ [.cl (ok_spec_PutNum a0 a1.Kind _ hr1), .eF c2, .eT c3, .lT c4, ⟨.neg .i64 a1.N, .i (w64 (0 - a1.N)), rfl⟩, ⟨.view (eL e_u8 r1), .l (eL e_u8 r1), (A.view E_u8)⟩, .cl (ok_spec_PutNum r1 1 _ hr5), ⟨.cln (eL e_u8 r5), .b true, (A.cln O_u8)⟩, ⟨.nz 1000000, .b true, rfl⟩, ⟨.quo .i64 (w64 (0 - a1.N)) 1000000, .i (w64 ((w64 (0 - a1.N)).tdiv 1000000)), rfl⟩, ⟨.view (eL e_u8 r5), .l (eL e_u8 r5), (A.view E_u8)⟩, .cl (ok_spec_PutNum r5 (w64 ((w64 (0 - a1.N)).tdiv 1000000)) _ hr6), ⟨.cln (eL e_u8 r6), .b true, (A.cln O_u8)⟩, ⟨.nz 1000000, .b true, rfl⟩, ⟨.rem (w64 (0 - a1.N)) 1000000, .i ((w64 (0 - a1.N)).tmod 1000000), rfl⟩, ⟨.view (eL e_u8 r6), .l (eL e_u8 r6), (A.view E_u8)⟩, .cl (ok_spec_PutNum r6 ((w64 (0 - a1.N)).tmod 1000000) _ hr7), ⟨.cln (eL e_u8 r7), .b true, (A.cln O_u8)⟩] rfl fd_34 (by kernel_rfl)
    ·obtain ⟨r5, hr5, h⟩ := bs h
     obtain ⟨r6, hr6, h⟩ := bs h
     obtain ⟨r7, hr7, h⟩ := bs h
     obtain rfl := Option.some.inj h
     exact call_wQ [.cl (ok_spec_PutNum a0 a1.Kind _ hr1), .eF c2, .eT c3, .lF c4, ⟨.view (eL e_u8 r1), .l (eL e_u8 r1), (A.view E_u8)⟩, .cl (ok_spec_PutNum r1 0 _ hr5), ⟨.cln (eL e_u8 r5), .b true, (A.cln O_u8)⟩, ⟨.nz 1000000, .b true, rfl⟩, ⟨.quo .i64 a1.N 1000000, .i (w64 (a1.N.tdiv 1000000)), rfl⟩, ⟨.view (eL e_u8 r5), .l (eL e_u8 r5), (A.view E_u8)⟩, .cl (ok_spec_PutNum r5 (w64 (a1.N.tdiv 1000000)) _ hr6), ⟨.cln (eL e_u8 r6), .b true, (A.cln O_u8)⟩, ⟨.nz 1000000, .b true, rfl⟩, ⟨.rem a1.N 1000000, .i (a1.N.tmod 1000000), rfl⟩, ⟨.view (eL e_u8 r6), .l (eL e_u8 r6), (A.view E_u8)⟩, .cl (ok_spec_PutNum r6 (a1.N.tmod 1000000) _ hr7), ⟨.cln (eL e_u8 r7), .b true, (A.cln O_u8)⟩] rfl fd_34 (by kernel_rfl)
   ·rcases ite_some h with ⟨c4, h⟩ | ⟨c4, h⟩
    ·obtain ⟨r5, hr5, h⟩ := bs h
     obtain rfl := Option.some.inj h
     exact call_wQ [.cl (ok_spec_PutNum a0 a1.Kind _ hr1), .eF c2, .eF c3, .eT c4, ⟨.view (eL e_u8 r1), .l (eL e_u8 r1), (A.view E_u8)⟩, .cl (ok_spec_PutText r1 a1.S _ hr5), ⟨.cln (eL e_u8 r5), .b true, (A.cln O_u8)⟩] rfl fd_34 (by kernel_rfl)
    ·rcases ite_some h with ⟨c5, h⟩ | ⟨c5, h⟩
     ·obtain ⟨r6, hr6, h⟩ := bs h
      obtain ⟨⟨o7_0, o7_1⟩, ho7, h⟩ := bs h
      try dsimp only at h
      obtain rfl := Option.some.inj h
      exact call_wQ [.cl (ok_spec_PutNum a0 a1.Kind _ hr1), .eF c2, .eF c3, .eF c4, .eT c5, .le e_GValue a1.L, ⟨.view (eL e_u8 r1), .l (eL e_u8 r1), (A.view E_u8)⟩, .cl (ok_spec_PutNum r1 ((a1.L.length : Nat) : Int) _ hr6), ⟨.cln (eL e_u8 r6), .b true, (A.cln O_u8)⟩, .lp (gl_spec_l2put_l0 G_spec_l2put H_spec_l2put a1 _ 0 r6 _ ho7)] rfl fd_34 (by kernel_rfl)
     ·rcases ite_some h with ⟨c6, h⟩ | ⟨c6, h⟩
      ·obtain ⟨r7, hr7, h⟩ := bs h
       obtain ⟨⟨o8_0, o8_1⟩, ho8, h⟩ := bs h
       try dsimp only at h
       obtain rfl := Option.some.inj h
       exact call_wQ [.cl (ok_spec_PutNum a0 a1.Kind _ hr1), .eF c2, .eF c3, .eF c4, .eF c5, .eT c6, .le e_GValue a1.L, ⟨.view (eL e_u8 r1), .l (eL e_u8 r1), (A.view E_u8)⟩, .cl (ok_spec_PutNum r1 ((a1.L.length : Nat) : Int) _ hr7), ⟨.cln (eL e_u8 r7), .b true, (A.cln O_u8)⟩, .lp (gl_spec_l2put_l0 G_spec_l2put H_spec_l2put a1 _ 0 r7 _ ho8)] rfl fd_34 (by kernel_rfl)
      ·obtain rfl := Option.some.inj h
       exact call_wQ [.cl (ok_spec_PutNum a0 a1.Kind _ hr1), .eF c2, .eF c3, .eF c4, .eF c5, .eF c6] rfl fd_34 (by kernel_rfl)
def U_spec_l2put : Nat → (List UInt8) → GValue → Option (List UInt8)
  | 0, _, _ => none
  | n + 1, a0, a1 => T_spec_l2put (U_spec_l2put n) n a0 a1
theorem rec_spec_l2put (n : Nat) : (∀ (a0 : (List UInt8)) (a1 : GValue) (r : (List UInt8)), U_spec_l2put n a0 a1 = some r → (mach cfg).call 34 [] [.val false [.seq (eL e_u8 a0)], .val true [.int .i64 a1.Kind, .int .i64 a1.N, .seq (eL e_u8 a1.S), .seq (eL (e_sl e_u8) a1.K), .seq (eL e_GValue a1.L)]] = some (.val false [.own 1 (eL e_u8 r)], [])) := by
  induction n with
  | zero => exact fun _ _ _ h => (by rw [U_spec_l2put] at h; cases h)
  | succ n ih =>
    have ih_spec_l2put := ih
    exact fun a0 a1 r h => g_spec_l2put (U_spec_l2put n) ih_spec_l2put n a0 a1 r (by rw [U_spec_l2put] at h; exact h)
def S_spec_l2put (a0 : (List UInt8)) (a1 : GValue) : Option (List UInt8) := U_spec_l2put 100 a0 a1
theorem spec_spec_l2put (a0 : (List UInt8)) (a1 : GValue) (r : (List UInt8)) (h : S_spec_l2put a0 a1 = some r) : ∃ n, U_spec_l2put n a0 a1 = some r := ⟨_, h⟩
theorem ok_spec_l2put (a0 : (List UInt8)) (a1 : GValue) (r : (List UInt8)) (h : S_spec_l2put a0 a1 = some r) : (mach cfg).call 34 [] [.val false [.seq (eL e_u8 a0)], .val true [.int .i64 a1.Kind, .int .i64 a1.N, .seq (eL e_u8 a1.S), .seq (eL (e_sl e_u8) a1.K), .seq (eL e_GValue a1.L)]] = some (.val false [.own 1 (eL e_u8 r)], []) := by
  obtain ⟨n, hn⟩ := spec_spec_l2put a0 a1 r h
  exact (rec_spec_l2put n) a0 a1 r hn
def L_spec_l4bytes_l0 (a0 : GEvent) : Nat → Int → (List UInt8) → Option (Int × (List UInt8))
  | 0, _, _ => none
  | m + 1, v0, v2 =>
    if v0 < ((a0.Deps.length : Nat) : Int) then
      (natO v0).bind fun i2 =>
      (a0.Deps[i2]?).bind fun x3 =>
      (S_spec_PutText v2 x3).bind fun r4 =>
      L_spec_l4bytes_l0 a0 m (w64 (v0 + 1)) r4
    else
      some (v0, v2)
theorem gl_spec_l4bytes_l0 (a0 : GEvent) (m : Nat) : ∀ (v0 : Int) (v2 : (List UInt8)) (o : (Int × (List UInt8))), L_spec_l4bytes_l0 a0 m v0 v2 = some o → (mach cfg).loop 16 (loopB Tryz.f16 0) ⟨[(1, .val false [.ptr 0 0]), (3, .val false [.ref 1]), (4, .val false [.int .i64 v0])], [.var [.int .i64 a0.Kind, .seq (eL e_u8 a0.Addr), .int .i64 a0.Act, .int .i64 a0.Val.Kind, .int .i64 a0.Val.N, .seq (eL e_u8 a0.Val.S), .seq (eL (e_sl e_u8) a0.Val.K), .seq (eL e_GValue a0.Val.L), .seq (eL (e_sl e_u8) a0.Deps)], .obj 1 (eL e_u8 v2)], 0⟩ = some (match o with | ⟨o_0, o_1⟩ => (.exit 2, (⟨[(1, .val false [.ptr 0 0]), (3, .val false [.ref 1]), (4, .val false [.int .i64 o_0]), (38, .val false [.bool false])], [.var [.int .i64 a0.Kind, .seq (eL e_u8 a0.Addr), .int .i64 a0.Act, .int .i64 a0.Val.Kind, .int .i64 a0.Val.N, .seq (eL e_u8 a0.Val.S), .seq (eL (e_sl e_u8) a0.Val.K), .seq (eL e_GValue a0.Val.L), .seq (eL (e_sl e_u8) a0.Deps)], .obj 1 (eL e_u8 o_1)], 0⟩ : S))) := by
  induction m with
  | zero => intro v0 v2 o h; cases h
  | succ m ih =>
    intro v0 v2 o h
    rw [L_spec_l4bytes_l0] at h
    rcases ite_some h with ⟨c1, h⟩ | ⟨c1, h⟩
    ·obtain ⟨i2, hi2, h⟩ := bs h
     obtain ⟨x3, hx3, h⟩ := bs h
     obtain ⟨r4, hr4, h⟩ := bs h
     exact loop_nQ [.le (e_sl e_u8) a0.Deps, .lT c1, .na hi2, .ix0 (e_sl e_u8) hx3, ⟨.view (eL e_u8 v2), .l (eL e_u8 v2), (A.view E_u8)⟩, .cl (ok_spec_PutText v2 x3 _ hr4), ⟨.cln (eL e_u8 r4), .b true, (A.cln O_u8)⟩, .ad v0 1] (by kernel_rfl) (ih (w64 (v0 + 1)) r4 o h)
    ·obtain rfl := Option.some.inj h
     exact loop_eQ [.le (e_sl e_u8) a0.Deps, .lF c1] (by kernel_rfl) (by intro h; cases h)
def T_spec_l4bytes (n : Nat) (a0 : GEvent) : Option (List UInt8) :=
  (S_spec_PutNum [] a0.Kind).bind fun r1 =>
  if a0.Kind = 0 then
    some r1
  else
    if a0.Kind = 5 then
      some r1
    else
      if a0.Kind = 6 then
        some r1
      else
        (S_spec_PutText r1 a0.Addr).bind fun r5 =>
        if a0.Kind = 1 then
          (S_spec_PutNum r5 a0.Act).bind fun r7 =>
          some r7
        else
          if a0.Kind = 2 then
            (S_spec_PutNum r5 ((a0.Deps.length : Nat) : Int)).bind fun r8 =>
            (L_spec_l4bytes_l0 a0 n 0 r8).bind fun ⟨o9_0, o9_1⟩ =>
            (S_spec_l2put o9_1 a0.Val).bind fun r10 =>
            some r10
          else
            some r5
set_option maxRecDepth 100000 in
theorem fd_16 : cfg.funcs 16 = some (bodyOf Tryz.f16, Tryz.f16.ntmps, Tryz.f16.results.toList) := fn_of Tryz.func16 (by kernel_rfl) (by kernel_rfl)
theorem g_spec_l4bytes (n : Nat) (a0 : GEvent) (r : (List UInt8)) (h : T_spec_l4bytes n a0 = some r) : (mach cfg).call 16 [] [.val true [.int .i64 a0.Kind, .seq (eL e_u8 a0.Addr), .int .i64 a0.Act, .int .i64 a0.Val.Kind, .int .i64 a0.Val.N, .seq (eL e_u8 a0.Val.S), .seq (eL (e_sl e_u8) a0.Val.K), .seq (eL e_GValue a0.Val.L), .seq (eL (e_sl e_u8) a0.Deps)]] = some (.val false [.own 1 (eL e_u8 r)], []) := by
  unfold T_spec_l4bytes at h
  obtain ⟨r1, hr1, h⟩ := bs h
  rcases ite_some h with ⟨c2, h⟩ | ⟨c2, h⟩
  ·obtain rfl := Option.some.inj h
   exact call_wQ [.cl (ok_spec_PutNum [] a0.Kind _ hr1), .eT c2] rfl fd_16 (by kernel_rfl)
  ·rcases ite_some h with ⟨c3, h⟩ | ⟨c3, h⟩
   ·obtain rfl := Option.some.inj h
    exact call_wQ [.cl (ok_spec_PutNum [] a0.Kind _ hr1), .eF c2, .eT c3] rfl fd_16 (by kernel_rfl)
   ·rcases ite_some h with ⟨c4, h⟩ | ⟨c4, h⟩
    ·obtain rfl := Option.some.inj h
     exact call_wQ [.cl (ok_spec_PutNum [] a0.Kind _ hr1), .eF c2, .eF c3, .eT c4] rfl fd_16 (by kernel_rfl)
    ·obtain ⟨r5, hr5, h⟩ := bs h
     rcases ite_some h with ⟨c6, h⟩ | ⟨c6, h⟩
     ·obtain ⟨r7, hr7, h⟩ := bs h
      obtain rfl := Option.some.inj h
      exact call_wQ [.cl (ok_spec_PutNum [] a0.Kind _ hr1), .eF c2, .eF c3, .eF c4, ⟨.view (eL e_u8 r1), .l (eL e_u8 r1), (A.view E_u8)⟩, .cl (ok_spec_PutText r1 a0.Addr _ hr5), ⟨.cln (eL e_u8 r5), .b true, (A.cln O_u8)⟩, .eT c6, ⟨.view (eL e_u8 r5), .l (eL e_u8 r5), (A.view E_u8)⟩, .cl (ok_spec_PutNum r5 a0.Act _ hr7), ⟨.cln (eL e_u8 r7), .b true, (A.cln O_u8)⟩] rfl fd_16 (by kernel_rfl)
     ·rcases ite_some h with ⟨c7, h⟩ | ⟨c7, h⟩
      ·obtain ⟨r8, hr8, h⟩ := bs h
       obtain ⟨⟨o9_0, o9_1⟩, ho9, h⟩ := bs h
       try dsimp only at h
       obtain ⟨r10, hr10, h⟩ := bs h
       obtain rfl := Option.some.inj h
       exact call_wQ [.cl (ok_spec_PutNum [] a0.Kind _ hr1), .eF c2, .eF c3, .eF c4, ⟨.view (eL e_u8 r1), .l (eL e_u8 r1), (A.view E_u8)⟩, .cl (ok_spec_PutText r1 a0.Addr _ hr5), ⟨.cln (eL e_u8 r5), .b true, (A.cln O_u8)⟩, .eF c6, .eT c7, .le (e_sl e_u8) a0.Deps, ⟨.view (eL e_u8 r5), .l (eL e_u8 r5), (A.view E_u8)⟩, .cl (ok_spec_PutNum r5 ((a0.Deps.length : Nat) : Int) _ hr8), ⟨.cln (eL e_u8 r8), .b true, (A.cln O_u8)⟩, .lp (gl_spec_l4bytes_l0 a0 _ 0 r8 _ ho9), ⟨.view (eL e_u8 o9_1), .l (eL e_u8 o9_1), (A.view E_u8)⟩, .cl (ok_spec_l2put o9_1 a0.Val _ hr10), ⟨.cln (eL e_u8 r10), .b true, (A.cln O_u8)⟩] rfl fd_16 (by kernel_rfl)
      ·obtain rfl := Option.some.inj h
       exact call_wQ [.cl (ok_spec_PutNum [] a0.Kind _ hr1), .eF c2, .eF c3, .eF c4, ⟨.view (eL e_u8 r1), .l (eL e_u8 r1), (A.view E_u8)⟩, .cl (ok_spec_PutText r1 a0.Addr _ hr5), ⟨.cln (eL e_u8 r5), .b true, (A.cln O_u8)⟩, .eF c6, .eF c7] rfl fd_16 (by kernel_rfl)
def S_spec_l4bytes (a0 : GEvent) : Option (List UInt8) := T_spec_l4bytes 100 a0
theorem spec_spec_l4bytes (a0 : GEvent) (r : (List UInt8)) (h : S_spec_l4bytes a0 = some r) : ∃ n, T_spec_l4bytes n a0 = some r := ⟨_, h⟩
theorem ok_spec_l4bytes (a0 : GEvent) (r : (List UInt8)) (h : S_spec_l4bytes a0 = some r) : (mach cfg).call 16 [] [.val true [.int .i64 a0.Kind, .seq (eL e_u8 a0.Addr), .int .i64 a0.Act, .int .i64 a0.Val.Kind, .int .i64 a0.Val.N, .seq (eL e_u8 a0.Val.S), .seq (eL (e_sl e_u8) a0.Val.K), .seq (eL e_GValue a0.Val.L), .seq (eL (e_sl e_u8) a0.Deps)]] = some (.val false [.own 1 (eL e_u8 r)], []) := by
  obtain ⟨n, hn⟩ := spec_spec_l4bytes a0 r h
  exact g_spec_l4bytes n a0 r hn
def L_spec_l2read_l0 (G_spec_l2read : Int → GL2cur → Option (GValue × GL2cur)) (a0 : Int) (v1 : Int) (v4 : Int) (v5 : Int) (v6 : Int) (v7 : Int) (v8 : (List UInt8)) (v9 : (List (List UInt8))) (v10 : (List GValue)) (v11 : (List UInt8)) : Nat → Int → GL2cur → (List (List UInt8)) → (List GValue) → Option (Int × GL2cur × (List (List UInt8)) × (List GValue))
  | 0, _, _, _, _ => none
  | m + 1, v2, v3, v12, v13 =>
    if v2 < v1 then
      if 0 <= v3.at_ then
        if v6 = 5 then
          (S_spec_l2getText v3).bind fun ⟨r4_0, r4_1⟩ =>
          if roomP 24 (v12.length + [r4_0].length) then
          (G_spec_l2read (w64 (a0 + 1)) r4_1).bind fun ⟨r6_0, r6_1⟩ =>
          if roomP 88 (v13.length + [r6_0].length) then
          L_spec_l2read_l0 G_spec_l2read a0 v1 v4 v5 v6 v7 v8 v9 v10 v11 m (w64 (v2 + 1)) r6_1 (v12 ++ [r4_0]) (v13 ++ [r6_0])
          else none
          else none
        else
          (G_spec_l2read (w64 (a0 + 1)) v3).bind fun ⟨r4_0, r4_1⟩ =>
          if roomP 88 (v13.length + [r4_0].length) then
          L_spec_l2read_l0 G_spec_l2read a0 v1 v4 v5 v6 v7 v8 v9 v10 v11 m (w64 (v2 + 1)) r4_1 v12 (v13 ++ [r4_0])
          else none
      else
        some (v2, v3, v12, v13)
    else
      some (v2, v3, v12, v13)
theorem gl_spec_l2read_l0 (G_spec_l2read : Int → GL2cur → Option (GValue × GL2cur)) (H_spec_l2read : ∀ (a0 : Int) (e0 : GL2cur) (r : (GValue × GL2cur)), G_spec_l2read a0 e0 = some r → (mach cfg).call 14 [.var [.seq (eL e_u8 e0.b), .int .i64 e0.at_, .int .i64 e0.left]] [.val false [.ptr 0 0], .val false [.int .i64 a0]] = some (.val true [.int .i64 r.1.Kind, .int .i64 r.1.N, .own 1 (eL e_u8 r.1.S), .own 1 (eL (o_sl 1 e_u8) r.1.K), .own 5 (eL o_GValue r.1.L)], [.var [.seq (eL e_u8 r.2.b), .int .i64 r.2.at_, .int .i64 r.2.left]])) (a0 : Int) (v1 : Int) (v4 : Int) (v5 : Int) (v6 : Int) (v7 : Int) (v8 : (List UInt8)) (v9 : (List (List UInt8))) (v10 : (List GValue)) (v11 : (List UInt8)) (m : Nat) : ∀ (v2 : Int) (v3 : GL2cur) (v12 : (List (List UInt8))) (v13 : (List GValue)) (o : (Int × GL2cur × (List (List UInt8)) × (List GValue))), L_spec_l2read_l0 G_spec_l2read a0 v1 v4 v5 v6 v7 v8 v9 v10 v11 m v2 v3 v12 v13 = some o → (mach cfg).loop 14 (loopB Tryz.f14 0) ⟨[(0, .val false [.ptr 0 0]), (1, .val false [.int .i64 a0]), (4, .val false [.ptr 1 0]), (5, .val false [.ptr 2 0]), (7, .val false [.int .i64 v1]), (8, .val false [.int .i64 v2])], [.var [.seq (eL e_u8 v3.b), .int .i64 v3.at_, .int .i64 v3.left], .var [.int .i64 v4, .int .i64 v5, .ref 3, .ref 4, .ref 5], .var [.int .i64 v6, .int .i64 v7, .ref 6, .ref 7, .ref 8], .obj 1 (eL e_u8 v8), .obj 1 (eL (o_sl 1 e_u8) v9), .obj 5 (eL o_GValue v10), .obj 1 (eL e_u8 v11), .obj 1 (eL (o_sl 1 e_u8) v12), .obj 5 (eL o_GValue v13)], 1⟩ = some (match o with | ⟨o_0, o_1, o_2, o_3⟩ => (.exit 1, (⟨[(0, .val false [.ptr 0 0]), (1, .val false [.int .i64 a0]), (4, .val false [.ptr 1 0]), (5, .val false [.ptr 2 0]), (7, .val false [.int .i64 v1]), (8, .val false [.int .i64 o_0]), (74, .val false [.bool false])], [.var [.seq (eL e_u8 o_1.b), .int .i64 o_1.at_, .int .i64 o_1.left], .var [.int .i64 v4, .int .i64 v5, .ref 3, .ref 4, .ref 5], .var [.int .i64 v6, .int .i64 v7, .ref 6, .ref 7, .ref 8], .obj 1 (eL e_u8 v8), .obj 1 (eL (o_sl 1 e_u8) v9), .obj 5 (eL o_GValue v10), .obj 1 (eL e_u8 v11), .obj 1 (eL (o_sl 1 e_u8) o_2), .obj 5 (eL o_GValue o_3)], 1⟩ : S))) := by
  induction m with
  | zero => intro v2 v3 v12 v13 o h; cases h
  | succ m ih =>
    intro v2 v3 v12 v13 o h
    rw [L_spec_l2read_l0] at h
    rcases ite_some h with ⟨c1, h⟩ | ⟨c1, h⟩
    ·rcases ite_some h with ⟨c2, h⟩ | ⟨c2, h⟩
     ·rcases ite_some h with ⟨c3, h⟩ | ⟨c3, h⟩
      ·obtain ⟨⟨r4_0, r4_1⟩, hr4, h⟩ := bs h
       try dsimp only at h
       obtain ⟨n5, h⟩ := need_some h
       obtain ⟨⟨r6_0, r6_1⟩, hr6, h⟩ := bs h
       try dsimp only at h
       obtain ⟨n7, h⟩ := need_some h
       exact loop_nQ [.lT c1, .gT c2, .eT c3, .cl (ok_spec_l2getText v3 _ hr4), ⟨.room 24 (eL (o_sl 1 e_u8) v12) (eL (o_sl 1 e_u8) [r4_0]), .b true, (A.room n5)⟩, ⟨.uni 1 (eL (o_sl 1 e_u8) [r4_0]), .b true, (A.uniO (O_sl 1 O_u8))⟩, ⟨.app (eL (o_sl 1 e_u8) v12) (eL (o_sl 1 e_u8) [r4_0]), .l (eL (o_sl 1 e_u8) (v12 ++ [r4_0])), A.app⟩, .ad a0 1, .cl (H_spec_l2read (w64 (a0 + 1)) r4_1 _ hr6), ⟨.room 88 (eL o_GValue v13) ([[.int .i64 r6_0.Kind, .int .i64 r6_0.N, .own 1 (eL e_u8 r6_0.S), .own 1 (eL (o_sl 1 e_u8) r6_0.K), .own 5 (eL o_GValue r6_0.L)]] : List (List C)), .b true, by rw [(show ([[.int .i64 r6_0.Kind, .int .i64 r6_0.N, .own 1 (eL e_u8 r6_0.S), .own 1 (eL (o_sl 1 e_u8) r6_0.K), .own 5 (eL o_GValue r6_0.L)]] : List (List C)) = eL o_GValue [r6_0] from (raw_cons (oeq_GValue r6_0) raw_nil))]; exact (A.room n7)⟩, ⟨.uni 5 ([[.int .i64 r6_0.Kind, .int .i64 r6_0.N, .own 1 (eL e_u8 r6_0.S), .own 1 (eL (o_sl 1 e_u8) r6_0.K), .own 5 (eL o_GValue r6_0.L)]] : List (List C)), .b true, by rw [(show ([[.int .i64 r6_0.Kind, .int .i64 r6_0.N, .own 1 (eL e_u8 r6_0.S), .own 1 (eL (o_sl 1 e_u8) r6_0.K), .own 5 (eL o_GValue r6_0.L)]] : List (List C)) = eL o_GValue [r6_0] from (raw_cons (oeq_GValue r6_0) raw_nil))]; exact (A.uniO O_GValue)⟩, ⟨.app (eL o_GValue v13) ([[.int .i64 r6_0.Kind, .int .i64 r6_0.N, .own 1 (eL e_u8 r6_0.S), .own 1 (eL (o_sl 1 e_u8) r6_0.K), .own 5 (eL o_GValue r6_0.L)]] : List (List C)), .l (eL o_GValue (v13 ++ [r6_0])), by rw [(show ([[.int .i64 r6_0.Kind, .int .i64 r6_0.N, .own 1 (eL e_u8 r6_0.S), .own 1 (eL (o_sl 1 e_u8) r6_0.K), .own 5 (eL o_GValue r6_0.L)]] : List (List C)) = eL o_GValue [r6_0] from (raw_cons (oeq_GValue r6_0) raw_nil))]; exact A.app⟩, .ad v2 1] (by kernel_rfl) (ih (w64 (v2 + 1)) r6_1 (v12 ++ [r4_0]) (v13 ++ [r6_0]) o h)
      ·obtain ⟨⟨r4_0, r4_1⟩, hr4, h⟩ := bs h
       try dsimp only at h
       obtain ⟨n5, h⟩ := need_some h
       exact loop_nQ [.lT c1, .gT c2, .eF c3, .ad a0 1, .cl (H_spec_l2read (w64 (a0 + 1)) v3 _ hr4), ⟨.room 88 (eL o_GValue v13) ([[.int .i64 r4_0.Kind, .int .i64 r4_0.N, .own 1 (eL e_u8 r4_0.S), .own 1 (eL (o_sl 1 e_u8) r4_0.K), .own 5 (eL o_GValue r4_0.L)]] : List (List C)), .b true, by rw [(show ([[.int .i64 r4_0.Kind, .int .i64 r4_0.N, .own 1 (eL e_u8 r4_0.S), .own 1 (eL (o_sl 1 e_u8) r4_0.K), .own 5 (eL o_GValue r4_0.L)]] : List (List C)) = eL o_GValue [r4_0] from (raw_cons (oeq_GValue r4_0) raw_nil))]; exact (A.room n5)⟩, ⟨.uni 5 ([[.int .i64 r4_0.Kind, .int .i64 r4_0.N, .own 1 (eL e_u8 r4_0.S), .own 1 (eL (o_sl 1 e_u8) r4_0.K), .own 5 (eL o_GValue r4_0.L)]] : List (List C)), .b true, by rw [(show ([[.int .i64 r4_0.Kind, .int .i64 r4_0.N, .own 1 (eL e_u8 r4_0.S), .own 1 (eL (o_sl 1 e_u8) r4_0.K), .own 5 (eL o_GValue r4_0.L)]] : List (List C)) = eL o_GValue [r4_0] from (raw_cons (oeq_GValue r4_0) raw_nil))]; exact (A.uniO O_GValue)⟩, ⟨.app (eL o_GValue v13) ([[.int .i64 r4_0.Kind, .int .i64 r4_0.N, .own 1 (eL e_u8 r4_0.S), .own 1 (eL (o_sl 1 e_u8) r4_0.K), .own 5 (eL o_GValue r4_0.L)]] : List (List C)), .l (eL o_GValue (v13 ++ [r4_0])), by rw [(show ([[.int .i64 r4_0.Kind, .int .i64 r4_0.N, .own 1 (eL e_u8 r4_0.S), .own 1 (eL (o_sl 1 e_u8) r4_0.K), .own 5 (eL o_GValue r4_0.L)]] : List (List C)) = eL o_GValue [r4_0] from (raw_cons (oeq_GValue r4_0) raw_nil))]; exact A.app⟩, .ad v2 1] (by kernel_rfl) (ih (w64 (v2 + 1)) r4_1 v12 (v13 ++ [r4_0]) o h)
     ·obtain rfl := Option.some.inj h
      exact loop_eQ [.lT c1, .gF c2] (by kernel_rfl) (by intro h; cases h)
    ·obtain rfl := Option.some.inj h
     exact loop_eQ [.lF c1] (by kernel_rfl) (by intro h; cases h)
def T_spec_l2read (G_spec_l2read : Int → GL2cur → Option (GValue × GL2cur)) (n : Nat) (a0 : Int) (e0 : GL2cur) : Option (GValue × GL2cur) :=
  if (w64 (e0.left - 1)) < 0 then
    (S_spec_l2get (GL2cur.mk e0.b (-1) (w64 (e0.left - 1)))).bind fun ⟨r2_0, r2_1⟩ =>
    if r2_0 = 1 then
      (S_spec_l2get r2_1).bind fun ⟨r4_0, r4_1⟩ =>
      some ((GValue.mk r2_0 r4_0 [] [] []), r4_1)
    else
      if r2_0 = 2 then
        (S_spec_l2get r2_1).bind fun ⟨r5_0, r5_1⟩ =>
        (S_spec_l2get r5_1).bind fun ⟨r6_0, r6_1⟩ =>
        (S_spec_l2get r6_1).bind fun ⟨r7_0, r7_1⟩ =>
        if r5_0 = 1 then
          some ((GValue.mk r2_0 (w64 (0 - (w64 ((w64 (r6_0 * 1000000)) + r7_0)))) [] [] []), r7_1)
        else
          some ((GValue.mk r2_0 (w64 ((w64 (r6_0 * 1000000)) + r7_0)) [] [] []), r7_1)
      else
        if r2_0 = 3 then
          (S_spec_l2getText r2_1).bind fun ⟨r6_0, r6_1⟩ =>
          some ((GValue.mk r2_0 0 r6_0 [] []), r6_1)
        else
          if r2_0 = 4 then
            (S_spec_l2get r2_1).bind fun ⟨r7_0, r7_1⟩ =>
            (L_spec_l2read_l0 G_spec_l2read a0 r7_0 0 0 r2_0 0 [] [] [] [] n 0 r7_1 [] []).bind fun ⟨o8_0, o8_1, o8_2, o8_3⟩ =>
            some ((GValue.mk r2_0 0 [] o8_2 o8_3), o8_1)
          else
            if r2_0 = 5 then
              (S_spec_l2get r2_1).bind fun ⟨r8_0, r8_1⟩ =>
              (L_spec_l2read_l0 G_spec_l2read a0 r8_0 0 0 r2_0 0 [] [] [] [] n 0 r8_1 [] []).bind fun ⟨o9_0, o9_1, o9_2, o9_3⟩ =>
              some ((GValue.mk r2_0 0 [] o9_2 o9_3), o9_1)
            else
              some ((GValue.mk r2_0 0 [] [] []), r2_1)
  else
    if 5 < a0 then
      (S_spec_l2get (GL2cur.mk e0.b (-1) (w64 (e0.left - 1)))).bind fun ⟨r3_0, r3_1⟩ =>
      if r3_0 = 1 then
        (S_spec_l2get r3_1).bind fun ⟨r5_0, r5_1⟩ =>
        some ((GValue.mk r3_0 r5_0 [] [] []), r5_1)
      else
        if r3_0 = 2 then
          (S_spec_l2get r3_1).bind fun ⟨r6_0, r6_1⟩ =>
          (S_spec_l2get r6_1).bind fun ⟨r7_0, r7_1⟩ =>
          (S_spec_l2get r7_1).bind fun ⟨r8_0, r8_1⟩ =>
          if r6_0 = 1 then
            some ((GValue.mk r3_0 (w64 (0 - (w64 ((w64 (r7_0 * 1000000)) + r8_0)))) [] [] []), r8_1)
          else
            some ((GValue.mk r3_0 (w64 ((w64 (r7_0 * 1000000)) + r8_0)) [] [] []), r8_1)
        else
          if r3_0 = 3 then
            (S_spec_l2getText r3_1).bind fun ⟨r7_0, r7_1⟩ =>
            some ((GValue.mk r3_0 0 r7_0 [] []), r7_1)
          else
            if r3_0 = 4 then
              (S_spec_l2get r3_1).bind fun ⟨r8_0, r8_1⟩ =>
              (L_spec_l2read_l0 G_spec_l2read a0 r8_0 0 0 r3_0 0 [] [] [] [] n 0 r8_1 [] []).bind fun ⟨o9_0, o9_1, o9_2, o9_3⟩ =>
              some ((GValue.mk r3_0 0 [] o9_2 o9_3), o9_1)
            else
              if r3_0 = 5 then
                (S_spec_l2get r3_1).bind fun ⟨r9_0, r9_1⟩ =>
                (L_spec_l2read_l0 G_spec_l2read a0 r9_0 0 0 r3_0 0 [] [] [] [] n 0 r9_1 [] []).bind fun ⟨o10_0, o10_1, o10_2, o10_3⟩ =>
                some ((GValue.mk r3_0 0 [] o10_2 o10_3), o10_1)
              else
                some ((GValue.mk r3_0 0 [] [] []), r3_1)
    else
      (S_spec_l2get (GL2cur.mk e0.b e0.at_ (w64 (e0.left - 1)))).bind fun ⟨r3_0, r3_1⟩ =>
      if r3_0 = 1 then
        (S_spec_l2get r3_1).bind fun ⟨r5_0, r5_1⟩ =>
        some ((GValue.mk r3_0 r5_0 [] [] []), r5_1)
      else
        if r3_0 = 2 then
          (S_spec_l2get r3_1).bind fun ⟨r6_0, r6_1⟩ =>
          (S_spec_l2get r6_1).bind fun ⟨r7_0, r7_1⟩ =>
          (S_spec_l2get r7_1).bind fun ⟨r8_0, r8_1⟩ =>
          if r6_0 = 1 then
            some ((GValue.mk r3_0 (w64 (0 - (w64 ((w64 (r7_0 * 1000000)) + r8_0)))) [] [] []), r8_1)
          else
            some ((GValue.mk r3_0 (w64 ((w64 (r7_0 * 1000000)) + r8_0)) [] [] []), r8_1)
        else
          if r3_0 = 3 then
            (S_spec_l2getText r3_1).bind fun ⟨r7_0, r7_1⟩ =>
            some ((GValue.mk r3_0 0 r7_0 [] []), r7_1)
          else
            if r3_0 = 4 then
              (S_spec_l2get r3_1).bind fun ⟨r8_0, r8_1⟩ =>
              (L_spec_l2read_l0 G_spec_l2read a0 r8_0 0 0 r3_0 0 [] [] [] [] n 0 r8_1 [] []).bind fun ⟨o9_0, o9_1, o9_2, o9_3⟩ =>
              some ((GValue.mk r3_0 0 [] o9_2 o9_3), o9_1)
            else
              if r3_0 = 5 then
                (S_spec_l2get r3_1).bind fun ⟨r9_0, r9_1⟩ =>
                (L_spec_l2read_l0 G_spec_l2read a0 r9_0 0 0 r3_0 0 [] [] [] [] n 0 r9_1 [] []).bind fun ⟨o10_0, o10_1, o10_2, o10_3⟩ =>
                some ((GValue.mk r3_0 0 [] o10_2 o10_3), o10_1)
              else
                some ((GValue.mk r3_0 0 [] [] []), r3_1)
set_option maxRecDepth 100000 in
theorem fd_14 : cfg.funcs 14 = some (bodyOf Tryz.f14, Tryz.f14.ntmps, Tryz.f14.results.toList) := fn_of Tryz.func14 (by kernel_rfl) (by kernel_rfl)
theorem g_spec_l2read (G_spec_l2read : Int → GL2cur → Option (GValue × GL2cur)) (H_spec_l2read : ∀ (a0 : Int) (e0 : GL2cur) (r : (GValue × GL2cur)), G_spec_l2read a0 e0 = some r → (mach cfg).call 14 [.var [.seq (eL e_u8 e0.b), .int .i64 e0.at_, .int .i64 e0.left]] [.val false [.ptr 0 0], .val false [.int .i64 a0]] = some (.val true [.int .i64 r.1.Kind, .int .i64 r.1.N, .own 1 (eL e_u8 r.1.S), .own 1 (eL (o_sl 1 e_u8) r.1.K), .own 5 (eL o_GValue r.1.L)], [.var [.seq (eL e_u8 r.2.b), .int .i64 r.2.at_, .int .i64 r.2.left]])) (n : Nat) (a0 : Int) (e0 : GL2cur) (r : (GValue × GL2cur)) (h : T_spec_l2read G_spec_l2read n a0 e0 = some r) : (mach cfg).call 14 [.var [.seq (eL e_u8 e0.b), .int .i64 e0.at_, .int .i64 e0.left]] [.val false [.ptr 0 0], .val false [.int .i64 a0]] = some (.val true [.int .i64 r.1.Kind, .int .i64 r.1.N, .own 1 (eL e_u8 r.1.S), .own 1 (eL (o_sl 1 e_u8) r.1.K), .own 5 (eL o_GValue r.1.L)], [.var [.seq (eL e_u8 r.2.b), .int .i64 r.2.at_, .int .i64 r.2.left]]) := by
  unfold T_spec_l2read at h
  rcases ite_some h with ⟨c1, h⟩ | ⟨c1, h⟩
  ·obtain ⟨⟨r2_0, r2_1⟩, hr2, h⟩ := bs h
   try dsimp only at h
   rcases ite_some h with ⟨c3, h⟩ | ⟨c3, h⟩
   ·obtain ⟨⟨r4_0, r4_1⟩, hr4, h⟩ := bs h
    try dsimp only at h
    obtain rfl := Option.some.inj h
    exact call_wQ [.su e0.left 1, .lT c1, .cl (ok_spec_l2get (GL2cur.mk e0.b (-1) (w64 (e0.left - 1))) _ hr2), .eT c3, .cl (ok_spec_l2get r2_1 _ hr4)] rfl fd_14 (by kernel_rfl)
   ·rcases ite_some h with ⟨c4, h⟩ | ⟨c4, h⟩
    ·obtain ⟨⟨r5_0, r5_1⟩, hr5, h⟩ := bs h
     try dsimp only at h
     obtain ⟨⟨r6_0, r6_1⟩, hr6, h⟩ := bs h
     try dsimp only at h
     obtain ⟨⟨r7_0, r7_1⟩, hr7, h⟩ := bs h
     try dsimp only at h
     rcases ite_some h with ⟨c8, h⟩ | ⟨c8, h⟩
     ·obtain rfl := Option.some.inj h
      exact call_wQ [.su e0.left 1, .lT c1, .cl (ok_spec_l2get (GL2cur.mk e0.b (-1) (w64 (e0.left - 1))) _ hr2), .eF c3, .eT c4, .cl (ok_spec_l2get r2_1 _ hr5), .cl (ok_spec_l2get r5_1 _ hr6), ⟨.mul .i64 r6_0 1000000, .i (w64 (r6_0 * 1000000)), rfl⟩, .cl (ok_spec_l2get r6_1 _ hr7), .ad (w64 (r6_0 * 1000000)) r7_0, .eT c8, ⟨.neg .i64 (w64 ((w64 (r6_0 * 1000000)) + r7_0)), .i (w64 (0 - (w64 ((w64 (r6_0 * 1000000)) + r7_0)))), rfl⟩] rfl fd_14 (by kernel_rfl)
     ·obtain rfl := Option.some.inj h
      exact call_wQ [.su e0.left 1, .lT c1, .cl (ok_spec_l2get (GL2cur.mk e0.b (-1) (w64 (e0.left - 1))) _ hr2), .eF c3, .eT c4, .cl (ok_spec_l2get r2_1 _ hr5), .cl (ok_spec_l2get r5_1 _ hr6), ⟨.mul .i64 r6_0 1000000, .i (w64 (r6_0 * 1000000)), rfl⟩, .cl (ok_spec_l2get r6_1 _ hr7), .ad (w64 (r6_0 * 1000000)) r7_0, .eF c8] rfl fd_14 (by kernel_rfl)
    ·let p40 : List (Q cfg) := [.su e0.left 1, .lT c1, .cl (ok_spec_l2get (GL2cur.mk e0.b (-1) (w64 (e0.left - 1))) _ hr2), .eF c3, .eF c4]
     rcases ite_some h with ⟨c5, h⟩ | ⟨c5, h⟩
     ·obtain ⟨⟨r6_0, r6_1⟩, hr6, h⟩ := bs h
      try dsimp only at h
      obtain rfl := Option.some.inj h
      exact call_wQ (p40 ++ [.eT c5, .cl (ok_spec_l2getText r2_1 _ hr6)]) rfl fd_14 (by kernel_rfl)
     ·rcases ite_some h with ⟨c6, h⟩ | ⟨c6, h⟩
      ·obtain ⟨⟨r7_0, r7_1⟩, hr7, h⟩ := bs h
       try dsimp only at h
       obtain ⟨⟨o8_0, o8_1, o8_2, o8_3⟩, ho8, h⟩ := bs h
       try dsimp only at h
       obtain rfl := Option.some.inj h
       exact call_wQ (p40 ++ [.eF c5, .eT c6, .cl (ok_spec_l2get r2_1 _ hr7), .lp (gl_spec_l2read_l0 G_spec_l2read H_spec_l2read a0 r7_0 0 0 r2_0 0 [] [] [] [] _ 0 r7_1 [] [] _ ho8)]) rfl fd_14 (by kernel_rfl)
      ·rcases ite_some h with ⟨c7, h⟩ | ⟨c7, h⟩
       ·obtain ⟨⟨r8_0, r8_1⟩, hr8, h⟩ := bs h
        try dsimp only at h
        obtain ⟨⟨o9_0, o9_1, o9_2, o9_3⟩, ho9, h⟩ := bs h
        try dsimp only at h
        obtain rfl := Option.some.inj h
        exact call_wQ (p40 ++ [.eF c5, .eF c6, .eT c7, .cl (ok_spec_l2get r2_1 _ hr8), .lp (gl_spec_l2read_l0 G_spec_l2read H_spec_l2read a0 r8_0 0 0 r2_0 0 [] [] [] [] _ 0 r8_1 [] [] _ ho9)]) rfl fd_14 (by kernel_rfl)
       ·obtain rfl := Option.some.inj h
        exact call_wQ (p40 ++ [.eF c5, .eF c6, .eF c7]) rfl fd_14 (by kernel_rfl)
  ·rcases ite_some h with ⟨c2, h⟩ | ⟨c2, h⟩
   ·obtain ⟨⟨r3_0, r3_1⟩, hr3, h⟩ := bs h
    try dsimp only at h
    rcases ite_some h with ⟨c4, h⟩ | ⟨c4, h⟩
    ·obtain ⟨⟨r5_0, r5_1⟩, hr5, h⟩ := bs h
     try dsimp only at h
     obtain rfl := Option.some.inj h
     exact call_wQ [.su e0.left 1, .lF c1, .lT c2, .cl (ok_spec_l2get (GL2cur.mk e0.b (-1) (w64 (e0.left - 1))) _ hr3), .eT c4, .cl (ok_spec_l2get r3_1 _ hr5)] rfl fd_14 (by kernel_rfl)
    ·rcases ite_some h with ⟨c5, h⟩ | ⟨c5, h⟩
     ·obtain ⟨⟨r6_0, r6_1⟩, hr6, h⟩ := bs h
      try dsimp only at h
      obtain ⟨⟨r7_0, r7_1⟩, hr7, h⟩ := bs h
      try dsimp only at h
      obtain ⟨⟨r8_0, r8_1⟩, hr8, h⟩ := bs h
      try dsimp only at h
      rcases ite_some h with ⟨c9, h⟩ | ⟨c9, h⟩
      ·obtain rfl := Option.some.inj h
       exact call_wQ [.su e0.left 1, .lF c1, .lT c2, .cl (ok_spec_l2get (GL2cur.mk e0.b (-1) (w64 (e0.left - 1))) _ hr3), .eF c4, .eT c5, .cl (ok_spec_l2get r3_1 _ hr6), .cl (ok_spec_l2get r6_1 _ hr7), ⟨.mul .i64 r7_0 1000000, .i (w64 (r7_0 * 1000000)), rfl⟩, .cl (ok_spec_l2get r7_1 _ hr8), .ad (w64 (r7_0 * 1000000)) r8_0, .eT c9, ⟨.neg .i64 (w64 ((w64 (r7_0 * 1000000)) + r8_0)), .i (w64 (0 - (w64 ((w64 (r7_0 * 1000000)) + r8_0)))), rfl⟩] rfl fd_14 (by kernel_rfl)
      ·obtain rfl := Option.some.inj h
       exact call_wQ [.su e0.left 1, .lF c1, .lT c2, .cl (ok_spec_l2get (GL2cur.mk e0.b (-1) (w64 (e0.left - 1))) _ hr3), .eF c4, .eT c5, .cl (ok_spec_l2get r3_1 _ hr6), .cl (ok_spec_l2get r6_1 _ hr7), ⟨.mul .i64 r7_0 1000000, .i (w64 (r7_0 * 1000000)), rfl⟩, .cl (ok_spec_l2get r7_1 _ hr8), .ad (w64 (r7_0 * 1000000)) r8_0, .eF c9] rfl fd_14 (by kernel_rfl)
     ·let p41 : List (Q cfg) := [.su e0.left 1, .lF c1, .lT c2, .cl (ok_spec_l2get (GL2cur.mk e0.b (-1) (w64 (e0.left - 1))) _ hr3), .eF c4, .eF c5]
      rcases ite_some h with ⟨c6, h⟩ | ⟨c6, h⟩
      ·obtain ⟨⟨r7_0, r7_1⟩, hr7, h⟩ := bs h
       try dsimp only at h
       obtain rfl := Option.some.inj h
       exact call_wQ (p41 ++ [.eT c6, .cl (ok_spec_l2getText r3_1 _ hr7)]) rfl fd_14 (by kernel_rfl)
      ·rcases ite_some h with ⟨c7, h⟩ | ⟨c7, h⟩
       ·obtain ⟨⟨r8_0, r8_1⟩, hr8, h⟩ := bs h
        try dsimp only at h
        obtain ⟨⟨o9_0, o9_1, o9_2, o9_3⟩, ho9, h⟩ := bs h
        try dsimp only at h
        obtain rfl := Option.some.inj h
        exact call_wQ (p41 ++ [.eF c6, .eT c7, .cl (ok_spec_l2get r3_1 _ hr8), .lp (gl_spec_l2read_l0 G_spec_l2read H_spec_l2read a0 r8_0 0 0 r3_0 0 [] [] [] [] _ 0 r8_1 [] [] _ ho9)]) rfl fd_14 (by kernel_rfl)
       ·rcases ite_some h with ⟨c8, h⟩ | ⟨c8, h⟩
        ·obtain ⟨⟨r9_0, r9_1⟩, hr9, h⟩ := bs h
         try dsimp only at h
         obtain ⟨⟨o10_0, o10_1, o10_2, o10_3⟩, ho10, h⟩ := bs h
         try dsimp only at h
         obtain rfl := Option.some.inj h
         exact call_wQ (p41 ++ [.eF c6, .eF c7, .eT c8, .cl (ok_spec_l2get r3_1 _ hr9), .lp (gl_spec_l2read_l0 G_spec_l2read H_spec_l2read a0 r9_0 0 0 r3_0 0 [] [] [] [] _ 0 r9_1 [] [] _ ho10)]) rfl fd_14 (by kernel_rfl)
        ·obtain rfl := Option.some.inj h
         exact call_wQ (p41 ++ [.eF c6, .eF c7, .eF c8]) rfl fd_14 (by kernel_rfl)
   ·obtain ⟨⟨r3_0, r3_1⟩, hr3, h⟩ := bs h
    try dsimp only at h
    rcases ite_some h with ⟨c4, h⟩ | ⟨c4, h⟩
    ·obtain ⟨⟨r5_0, r5_1⟩, hr5, h⟩ := bs h
     try dsimp only at h
     obtain rfl := Option.some.inj h
     exact call_wQ [.su e0.left 1, .lF c1, .lF c2, .cl (ok_spec_l2get (GL2cur.mk e0.b e0.at_ (w64 (e0.left - 1))) _ hr3), .eT c4, .cl (ok_spec_l2get r3_1 _ hr5)] rfl fd_14 (by kernel_rfl)
    ·rcases ite_some h with ⟨c5, h⟩ | ⟨c5, h⟩
     ·obtain ⟨⟨r6_0, r6_1⟩, hr6, h⟩ := bs h
      try dsimp only at h
      obtain ⟨⟨r7_0, r7_1⟩, hr7, h⟩ := bs h
      try dsimp only at h
      obtain ⟨⟨r8_0, r8_1⟩, hr8, h⟩ := bs h
      try dsimp only at h
      rcases ite_some h with ⟨c9, h⟩ | ⟨c9, h⟩
      ·obtain rfl := Option.some.inj h
       exact call_wQ [.su e0.left 1, .lF c1, .lF c2, .cl (ok_spec_l2get (GL2cur.mk e0.b e0.at_ (w64 (e0.left - 1))) _ hr3), .eF c4, .eT c5, .cl (ok_spec_l2get r3_1 _ hr6), .cl (ok_spec_l2get r6_1 _ hr7), ⟨.mul .i64 r7_0 1000000, .i (w64 (r7_0 * 1000000)), rfl⟩, .cl (ok_spec_l2get r7_1 _ hr8), .ad (w64 (r7_0 * 1000000)) r8_0, .eT c9, ⟨.neg .i64 (w64 ((w64 (r7_0 * 1000000)) + r8_0)), .i (w64 (0 - (w64 ((w64 (r7_0 * 1000000)) + r8_0)))), rfl⟩] rfl fd_14 (by kernel_rfl)
      ·obtain rfl := Option.some.inj h
       exact call_wQ [.su e0.left 1, .lF c1, .lF c2, .cl (ok_spec_l2get (GL2cur.mk e0.b e0.at_ (w64 (e0.left - 1))) _ hr3), .eF c4, .eT c5, .cl (ok_spec_l2get r3_1 _ hr6), .cl (ok_spec_l2get r6_1 _ hr7), ⟨.mul .i64 r7_0 1000000, .i (w64 (r7_0 * 1000000)), rfl⟩, .cl (ok_spec_l2get r7_1 _ hr8), .ad (w64 (r7_0 * 1000000)) r8_0, .eF c9] rfl fd_14 (by kernel_rfl)
     ·let p42 : List (Q cfg) := [.su e0.left 1, .lF c1, .lF c2, .cl (ok_spec_l2get (GL2cur.mk e0.b e0.at_ (w64 (e0.left - 1))) _ hr3), .eF c4, .eF c5]
      rcases ite_some h with ⟨c6, h⟩ | ⟨c6, h⟩
      ·obtain ⟨⟨r7_0, r7_1⟩, hr7, h⟩ := bs h
       try dsimp only at h
       obtain rfl := Option.some.inj h
       exact call_wQ (p42 ++ [.eT c6, .cl (ok_spec_l2getText r3_1 _ hr7)]) rfl fd_14 (by kernel_rfl)
      ·rcases ite_some h with ⟨c7, h⟩ | ⟨c7, h⟩
       ·obtain ⟨⟨r8_0, r8_1⟩, hr8, h⟩ := bs h
        try dsimp only at h
        obtain ⟨⟨o9_0, o9_1, o9_2, o9_3⟩, ho9, h⟩ := bs h
        try dsimp only at h
        obtain rfl := Option.some.inj h
        exact call_wQ (p42 ++ [.eF c6, .eT c7, .cl (ok_spec_l2get r3_1 _ hr8), .lp (gl_spec_l2read_l0 G_spec_l2read H_spec_l2read a0 r8_0 0 0 r3_0 0 [] [] [] [] _ 0 r8_1 [] [] _ ho9)]) rfl fd_14 (by kernel_rfl)
       ·rcases ite_some h with ⟨c8, h⟩ | ⟨c8, h⟩
        ·obtain ⟨⟨r9_0, r9_1⟩, hr9, h⟩ := bs h
         try dsimp only at h
         obtain ⟨⟨o10_0, o10_1, o10_2, o10_3⟩, ho10, h⟩ := bs h
         try dsimp only at h
         obtain rfl := Option.some.inj h
         exact call_wQ (p42 ++ [.eF c6, .eF c7, .eT c8, .cl (ok_spec_l2get r3_1 _ hr9), .lp (gl_spec_l2read_l0 G_spec_l2read H_spec_l2read a0 r9_0 0 0 r3_0 0 [] [] [] [] _ 0 r9_1 [] [] _ ho10)]) rfl fd_14 (by kernel_rfl)
        ·obtain rfl := Option.some.inj h
         exact call_wQ (p42 ++ [.eF c6, .eF c7, .eF c8]) rfl fd_14 (by kernel_rfl)
def U_spec_l2read : Nat → Int → GL2cur → Option (GValue × GL2cur)
  | 0, _, _ => none
  | n + 1, a0, e0 => T_spec_l2read (U_spec_l2read n) n a0 e0
theorem rec_spec_l2read (n : Nat) : (∀ (a0 : Int) (e0 : GL2cur) (r : (GValue × GL2cur)), U_spec_l2read n a0 e0 = some r → (mach cfg).call 14 [.var [.seq (eL e_u8 e0.b), .int .i64 e0.at_, .int .i64 e0.left]] [.val false [.ptr 0 0], .val false [.int .i64 a0]] = some (.val true [.int .i64 r.1.Kind, .int .i64 r.1.N, .own 1 (eL e_u8 r.1.S), .own 1 (eL (o_sl 1 e_u8) r.1.K), .own 5 (eL o_GValue r.1.L)], [.var [.seq (eL e_u8 r.2.b), .int .i64 r.2.at_, .int .i64 r.2.left]])) := by
  induction n with
  | zero => exact fun _ _ _ h => (by rw [U_spec_l2read] at h; cases h)
  | succ n ih =>
    have ih_spec_l2read := ih
    exact fun a0 e0 r h => g_spec_l2read (U_spec_l2read n) ih_spec_l2read n a0 e0 r (by rw [U_spec_l2read] at h; exact h)
def S_spec_l2read (a0 : Int) (e0 : GL2cur) : Option (GValue × GL2cur) := U_spec_l2read 1048700 a0 e0
theorem spec_spec_l2read (a0 : Int) (e0 : GL2cur) (r : (GValue × GL2cur)) (h : S_spec_l2read a0 e0 = some r) : ∃ n, U_spec_l2read n a0 e0 = some r := ⟨_, h⟩
theorem ok_spec_l2read (a0 : Int) (e0 : GL2cur) (r : (GValue × GL2cur)) (h : S_spec_l2read a0 e0 = some r) : (mach cfg).call 14 [.var [.seq (eL e_u8 e0.b), .int .i64 e0.at_, .int .i64 e0.left]] [.val false [.ptr 0 0], .val false [.int .i64 a0]] = some (.val true [.int .i64 r.1.Kind, .int .i64 r.1.N, .own 1 (eL e_u8 r.1.S), .own 1 (eL (o_sl 1 e_u8) r.1.K), .own 5 (eL o_GValue r.1.L)], [.var [.seq (eL e_u8 r.2.b), .int .i64 r.2.at_, .int .i64 r.2.left]]) := by
  obtain ⟨n, hn⟩ := spec_spec_l2read a0 e0 r h
  exact (rec_spec_l2read n) a0 e0 r hn
def L_spec_EventRead_l0 (a0 : (List UInt8)) (v1 : Int) (v3 : Int) (v4 : Int) (v5 : Int) (v6 : Int) (v8 : Int) (v9 : Int) (v10 : Int) (v11 : Int) (v12 : (List UInt8)) (v13 : (List UInt8)) (v14 : (List (List UInt8))) (v15 : (List GValue)) (v16 : (List (List UInt8))) (v17 : (List UInt8)) (v18 : (List UInt8)) (v19 : (List (List UInt8))) (v20 : (List GValue)) : Nat → Int → GL2cur → (List (List UInt8)) → Option (Int × GL2cur × (List (List UInt8)))
  | 0, _, _, _ => none
  | m + 1, v2, v7, v21 =>
    if v2 < v1 then
      if v2 <= 8 then
        if 0 <= v7.at_ then
          (S_spec_l2getText v7).bind fun ⟨r4_0, r4_1⟩ =>
          if roomP 24 (v21.length + [r4_0].length) then
          L_spec_EventRead_l0 a0 v1 v3 v4 v5 v6 v8 v9 v10 v11 v12 v13 v14 v15 v16 v17 v18 v19 v20 m (w64 (v2 + 1)) r4_1 (v21 ++ [r4_0])
          else none
        else
          some (v2, v7, v21)
      else
        some (v2, v7, v21)
    else
      some (v2, v7, v21)
theorem gl_spec_EventRead_l0 (a0 : (List UInt8)) (v1 : Int) (v3 : Int) (v4 : Int) (v5 : Int) (v6 : Int) (v8 : Int) (v9 : Int) (v10 : Int) (v11 : Int) (v12 : (List UInt8)) (v13 : (List UInt8)) (v14 : (List (List UInt8))) (v15 : (List GValue)) (v16 : (List (List UInt8))) (v17 : (List UInt8)) (v18 : (List UInt8)) (v19 : (List (List UInt8))) (v20 : (List GValue)) (m : Nat) : ∀ (v2 : Int) (v7 : GL2cur) (v21 : (List (List UInt8))) (o : (Int × GL2cur × (List (List UInt8)))), L_spec_EventRead_l0 a0 v1 v3 v4 v5 v6 v8 v9 v10 v11 v12 v13 v14 v15 v16 v17 v18 v19 v20 m v2 v7 v21 = some o → (mach cfg).loop 4 (loopB Tryz.f4 0) ⟨[(0, .val false [.seq (eL e_u8 a0)]), (2, .val false [.ptr 0 0]), (4, .val false [.ptr 1 0]), (5, .val false [.ptr 2 0]), (6, .val false [.int .i64 v1]), (7, .val false [.int .i64 v2])], [.var [.int .i64 v3, .ref 3, .int .i64 v4, .int .i64 v5, .int .i64 v6, .ref 4, .ref 5, .ref 6, .ref 7], .var [.seq (eL e_u8 v7.b), .int .i64 v7.at_, .int .i64 v7.left], .var [.int .i64 v8, .ref 8, .int .i64 v9, .int .i64 v10, .int .i64 v11, .ref 9, .ref 10, .ref 11, .ref 12], .obj 1 (eL e_u8 v12), .obj 1 (eL e_u8 v13), .obj 1 (eL (o_sl 1 e_u8) v14), .obj 5 (eL o_GValue v15), .obj 1 (eL (o_sl 1 e_u8) v16), .obj 1 (eL e_u8 v17), .obj 1 (eL e_u8 v18), .obj 1 (eL (o_sl 1 e_u8) v19), .obj 5 (eL o_GValue v20), .obj 1 (eL (o_sl 1 e_u8) v21)], 0⟩ = some (match o with | ⟨o_0, o_1, o_2⟩ => (.exit 2, (⟨[(0, .val false [.seq (eL e_u8 a0)]), (2, .val false [.ptr 0 0]), (4, .val false [.ptr 1 0]), (5, .val false [.ptr 2 0]), (6, .val false [.int .i64 v1]), (7, .val false [.int .i64 o_0]), (48, .val false [.bool false])], [.var [.int .i64 v3, .ref 3, .int .i64 v4, .int .i64 v5, .int .i64 v6, .ref 4, .ref 5, .ref 6, .ref 7], .var [.seq (eL e_u8 o_1.b), .int .i64 o_1.at_, .int .i64 o_1.left], .var [.int .i64 v8, .ref 8, .int .i64 v9, .int .i64 v10, .int .i64 v11, .ref 9, .ref 10, .ref 11, .ref 12], .obj 1 (eL e_u8 v12), .obj 1 (eL e_u8 v13), .obj 1 (eL (o_sl 1 e_u8) v14), .obj 5 (eL o_GValue v15), .obj 1 (eL (o_sl 1 e_u8) v16), .obj 1 (eL e_u8 v17), .obj 1 (eL e_u8 v18), .obj 1 (eL (o_sl 1 e_u8) v19), .obj 5 (eL o_GValue v20), .obj 1 (eL (o_sl 1 e_u8) o_2)], 0⟩ : S))) := by
  induction m with
  | zero => intro v2 v7 v21 o h; cases h
  | succ m ih =>
    intro v2 v7 v21 o h
    rw [L_spec_EventRead_l0] at h
    rcases ite_some h with ⟨c1, h⟩ | ⟨c1, h⟩
    ·rcases ite_some h with ⟨c2, h⟩ | ⟨c2, h⟩
     ·rcases ite_some h with ⟨c3, h⟩ | ⟨c3, h⟩
      ·obtain ⟨⟨r4_0, r4_1⟩, hr4, h⟩ := bs h
       try dsimp only at h
       obtain ⟨n5, h⟩ := need_some h
       exact loop_nQ [.lT c1, .gT c2, .gT c3, .cl (ok_spec_l2getText v7 _ hr4), ⟨.room 24 (eL (o_sl 1 e_u8) v21) (eL (o_sl 1 e_u8) [r4_0]), .b true, (A.room n5)⟩, ⟨.uni 1 (eL (o_sl 1 e_u8) [r4_0]), .b true, (A.uniO (O_sl 1 O_u8))⟩, ⟨.app (eL (o_sl 1 e_u8) v21) (eL (o_sl 1 e_u8) [r4_0]), .l (eL (o_sl 1 e_u8) (v21 ++ [r4_0])), A.app⟩, .ad v2 1] (by kernel_rfl) (ih (w64 (v2 + 1)) r4_1 (v21 ++ [r4_0]) o h)
      ·obtain rfl := Option.some.inj h
       exact loop_eQ [.lT c1, .gT c2, .gF c3] (by kernel_rfl) (by intro h; cases h)
     ·obtain rfl := Option.some.inj h
      exact loop_eQ [.lT c1, .gF c2] (by kernel_rfl) (by intro h; cases h)
    ·obtain rfl := Option.some.inj h
     exact loop_eQ [.lF c1] (by kernel_rfl) (by intro h; cases h)
def T_spec_EventRead (n : Nat) (a0 : (List UInt8)) : Option (GEvent × Bool) :=
  (S_spec_l2get (GL2cur.mk a0 0 40)).bind fun ⟨r1_0, r1_1⟩ =>
  if r1_0 = 1 then
    (S_spec_l2getText r1_1).bind fun ⟨r3_0, r3_1⟩ =>
    (S_spec_l2get r3_1).bind fun ⟨r4_0, r4_1⟩ =>
    if r4_1.at_ = ((a0.length : Nat) : Int) then
      (S_spec_EventOk (GEvent.mk r1_0 r3_0 r4_0 (GValue.mk 0 0 [] [] []) [])).bind fun r6 =>
      match r6 with
      | true =>
        (S_spec_l4bytes (GEvent.mk r1_0 r3_0 r4_0 (GValue.mk 0 0 [] [] []) [])).bind fun r8 =>
        if r8 = a0 then
          some ((GEvent.mk r1_0 r3_0 r4_0 (GValue.mk 0 0 [] [] []) []), true)
        else
          some ((GEvent.mk 0 [] 0 (GValue.mk 0 0 [] [] []) []), false)
      | false =>
        some ((GEvent.mk 0 [] 0 (GValue.mk 0 0 [] [] []) []), false)
    else
      some ((GEvent.mk 0 [] 0 (GValue.mk 0 0 [] [] []) []), false)
  else
    if r1_0 = 3 then
      (S_spec_l2getText r1_1).bind fun ⟨r4_0, r4_1⟩ =>
      if r4_1.at_ = ((a0.length : Nat) : Int) then
        (S_spec_EventOk (GEvent.mk r1_0 r4_0 0 (GValue.mk 0 0 [] [] []) [])).bind fun r6 =>
        match r6 with
        | true =>
          (S_spec_l4bytes (GEvent.mk r1_0 r4_0 0 (GValue.mk 0 0 [] [] []) [])).bind fun r8 =>
          if r8 = a0 then
            some ((GEvent.mk r1_0 r4_0 0 (GValue.mk 0 0 [] [] []) []), true)
          else
            some ((GEvent.mk 0 [] 0 (GValue.mk 0 0 [] [] []) []), false)
        | false =>
          some ((GEvent.mk 0 [] 0 (GValue.mk 0 0 [] [] []) []), false)
      else
        some ((GEvent.mk 0 [] 0 (GValue.mk 0 0 [] [] []) []), false)
    else
      if r1_0 = 4 then
        (S_spec_l2getText r1_1).bind fun ⟨r5_0, r5_1⟩ =>
        if r5_1.at_ = ((a0.length : Nat) : Int) then
          (S_spec_EventOk (GEvent.mk r1_0 r5_0 0 (GValue.mk 0 0 [] [] []) [])).bind fun r7 =>
          match r7 with
          | true =>
            (S_spec_l4bytes (GEvent.mk r1_0 r5_0 0 (GValue.mk 0 0 [] [] []) [])).bind fun r9 =>
            if r9 = a0 then
              some ((GEvent.mk r1_0 r5_0 0 (GValue.mk 0 0 [] [] []) []), true)
            else
              some ((GEvent.mk 0 [] 0 (GValue.mk 0 0 [] [] []) []), false)
          | false =>
            some ((GEvent.mk 0 [] 0 (GValue.mk 0 0 [] [] []) []), false)
        else
          some ((GEvent.mk 0 [] 0 (GValue.mk 0 0 [] [] []) []), false)
      else
        if r1_0 = 2 then
          (S_spec_l2getText r1_1).bind fun ⟨r6_0, r6_1⟩ =>
          (S_spec_l2get r6_1).bind fun ⟨r7_0, r7_1⟩ =>
          (L_spec_EventRead_l0 a0 r7_0 0 0 0 0 r1_0 0 0 0 [] [] [] [] [] r6_0 [] [] [] n 0 r7_1 []).bind fun ⟨o8_0, o8_1, o8_2⟩ =>
          (S_spec_l2read 1 o8_1).bind fun ⟨r9_0, r9_1⟩ =>
          if r9_1.at_ = ((a0.length : Nat) : Int) then
            (S_spec_EventOk (GEvent.mk r1_0 r6_0 0 r9_0 o8_2)).bind fun r11 =>
            match r11 with
            | true =>
              (S_spec_l4bytes (GEvent.mk r1_0 r6_0 0 r9_0 o8_2)).bind fun r13 =>
              if r13 = a0 then
                some ((GEvent.mk r1_0 r6_0 0 r9_0 o8_2), true)
              else
                some ((GEvent.mk 0 [] 0 (GValue.mk 0 0 [] [] []) []), false)
            | false =>
              some ((GEvent.mk 0 [] 0 (GValue.mk 0 0 [] [] []) []), false)
          else
            some ((GEvent.mk 0 [] 0 (GValue.mk 0 0 [] [] []) []), false)
        else
          if r1_1.at_ = ((a0.length : Nat) : Int) then
            (S_spec_EventOk (GEvent.mk r1_0 [] 0 (GValue.mk 0 0 [] [] []) [])).bind fun r7 =>
            match r7 with
            | true =>
              (S_spec_l4bytes (GEvent.mk r1_0 [] 0 (GValue.mk 0 0 [] [] []) [])).bind fun r9 =>
              if r9 = a0 then
                some ((GEvent.mk r1_0 [] 0 (GValue.mk 0 0 [] [] []) []), true)
              else
                some ((GEvent.mk 0 [] 0 (GValue.mk 0 0 [] [] []) []), false)
            | false =>
              some ((GEvent.mk 0 [] 0 (GValue.mk 0 0 [] [] []) []), false)
          else
            some ((GEvent.mk 0 [] 0 (GValue.mk 0 0 [] [] []) []), false)
set_option maxRecDepth 100000 in
theorem fd_4 : cfg.funcs 4 = some (bodyOf Tryz.f4, Tryz.f4.ntmps, Tryz.f4.results.toList) := fn_of Tryz.func4 (by kernel_rfl) (by kernel_rfl)
theorem g_spec_EventRead (n : Nat) (a0 : (List UInt8)) (r : (GEvent × Bool)) (h : T_spec_EventRead n a0 = some r) : (mach cfg).call 4 [] [.val false [.seq (eL e_u8 a0)]] = some (.tup [(true, [.int .i64 r.1.Kind, .own 1 (eL e_u8 r.1.Addr), .int .i64 r.1.Act, .int .i64 r.1.Val.Kind, .int .i64 r.1.Val.N, .own 1 (eL e_u8 r.1.Val.S), .own 1 (eL (o_sl 1 e_u8) r.1.Val.K), .own 5 (eL o_GValue r.1.Val.L), .own 1 (eL (o_sl 1 e_u8) r.1.Deps)]), (false, [.bool r.2])], []) := by
  unfold T_spec_EventRead at h
  obtain ⟨⟨r1_0, r1_1⟩, hr1, h⟩ := bs h
  try dsimp only at h
  rcases ite_some h with ⟨c2, h⟩ | ⟨c2, h⟩
  ·obtain ⟨⟨r3_0, r3_1⟩, hr3, h⟩ := bs h
   try dsimp only at h
   obtain ⟨⟨r4_0, r4_1⟩, hr4, h⟩ := bs h
   try dsimp only at h
   rcases ite_some h with ⟨c5, h⟩ | ⟨c5, h⟩
   ·obtain ⟨r6, hr6, h⟩ := bs h
    cases r6 with
    | true =>
     try dsimp only at h
     obtain ⟨r8, hr8, h⟩ := bs h
     rcases ite_some h with ⟨c9, h⟩ | ⟨c9, h⟩
     ·obtain rfl := Option.some.inj h
      exact call_wQ [.cl (ok_spec_l2get (GL2cur.mk a0 0 40) _ hr1), .eT c2, .cl (ok_spec_l2getText r1_1 _ hr3), .eT c2, .cl (ok_spec_l2get r3_1 _ hr4), .le e_u8 a0, .eT c5, .nt true, ⟨.view (eL e_u8 r3_0), .l (eL e_u8 r3_0), (A.view E_u8)⟩, ⟨.view (eL e_u8 []), .l (eL e_u8 []), (A.view E_u8)⟩, ⟨.view (eL (o_sl 1 e_u8) []), .l (eL (e_sl e_u8) []), (A.viewO (O_sl 1 O_u8))⟩, ⟨.view (eL o_GValue []), .l (eL e_GValue []), (A.viewO O_GValue)⟩, ⟨.view (eL (o_sl 1 e_u8) []), .l (eL (e_sl e_u8) []), (A.viewO (O_sl 1 O_u8))⟩, .cl (ok_spec_EventOk (GEvent.mk r1_0 r3_0 r4_0 (GValue.mk 0 0 [] [] []) []) _ hr6), .nt true, ⟨.view (eL e_u8 r3_0), .l (eL e_u8 r3_0), (A.view E_u8)⟩, ⟨.view (eL e_u8 []), .l (eL e_u8 []), (A.view E_u8)⟩, ⟨.view (eL (o_sl 1 e_u8) []), .l (eL (e_sl e_u8) []), (A.viewO (O_sl 1 O_u8))⟩, ⟨.view (eL o_GValue []), .l (eL e_GValue []), (A.viewO O_GValue)⟩, ⟨.view (eL (o_sl 1 e_u8) []), .l (eL (e_sl e_u8) []), (A.viewO (O_sl 1 O_u8))⟩, .cl (ok_spec_l4bytes (GEvent.mk r1_0 r3_0 r4_0 (GValue.mk 0 0 [] [] []) []) _ hr8), ⟨.cln (eL e_u8 r8), .b true, (A.cln O_u8)⟩, ⟨.bytes (eL e_u8 r8), .s r8, A.bytes⟩, ⟨.bytes (eL e_u8 a0), .s a0, A.bytes⟩, .sT c9, .nt true] rfl fd_4 (by kernel_rfl)
     ·obtain rfl := Option.some.inj h
      exact call_wQ [.cl (ok_spec_l2get (GL2cur.mk a0 0 40) _ hr1), .eT c2, .cl (ok_spec_l2getText r1_1 _ hr3), .eT c2, .cl (ok_spec_l2get r3_1 _ hr4), .le e_u8 a0, .eT c5, .nt true, ⟨.view (eL e_u8 r3_0), .l (eL e_u8 r3_0), (A.view E_u8)⟩, ⟨.view (eL e_u8 []), .l (eL e_u8 []), (A.view E_u8)⟩, ⟨.view (eL (o_sl 1 e_u8) []), .l (eL (e_sl e_u8) []), (A.viewO (O_sl 1 O_u8))⟩, ⟨.view (eL o_GValue []), .l (eL e_GValue []), (A.viewO O_GValue)⟩, ⟨.view (eL (o_sl 1 e_u8) []), .l (eL (e_sl e_u8) []), (A.viewO (O_sl 1 O_u8))⟩, .cl (ok_spec_EventOk (GEvent.mk r1_0 r3_0 r4_0 (GValue.mk 0 0 [] [] []) []) _ hr6), .nt true, ⟨.view (eL e_u8 r3_0), .l (eL e_u8 r3_0), (A.view E_u8)⟩, ⟨.view (eL e_u8 []), .l (eL e_u8 []), (A.view E_u8)⟩, ⟨.view (eL (o_sl 1 e_u8) []), .l (eL (e_sl e_u8) []), (A.viewO (O_sl 1 O_u8))⟩, ⟨.view (eL o_GValue []), .l (eL e_GValue []), (A.viewO O_GValue)⟩, ⟨.view (eL (o_sl 1 e_u8) []), .l (eL (e_sl e_u8) []), (A.viewO (O_sl 1 O_u8))⟩, .cl (ok_spec_l4bytes (GEvent.mk r1_0 r3_0 r4_0 (GValue.mk 0 0 [] [] []) []) _ hr8), ⟨.cln (eL e_u8 r8), .b true, (A.cln O_u8)⟩, ⟨.bytes (eL e_u8 r8), .s r8, A.bytes⟩, ⟨.bytes (eL e_u8 a0), .s a0, A.bytes⟩, .sF c9, .nt false] rfl fd_4 (by kernel_rfl)
    | false =>
     try dsimp only at h
     obtain rfl := Option.some.inj h
     exact call_wQ [.cl (ok_spec_l2get (GL2cur.mk a0 0 40) _ hr1), .eT c2, .cl (ok_spec_l2getText r1_1 _ hr3), .eT c2, .cl (ok_spec_l2get r3_1 _ hr4), .le e_u8 a0, .eT c5, .nt true, ⟨.view (eL e_u8 r3_0), .l (eL e_u8 r3_0), (A.view E_u8)⟩, ⟨.view (eL e_u8 []), .l (eL e_u8 []), (A.view E_u8)⟩, ⟨.view (eL (o_sl 1 e_u8) []), .l (eL (e_sl e_u8) []), (A.viewO (O_sl 1 O_u8))⟩, ⟨.view (eL o_GValue []), .l (eL e_GValue []), (A.viewO O_GValue)⟩, ⟨.view (eL (o_sl 1 e_u8) []), .l (eL (e_sl e_u8) []), (A.viewO (O_sl 1 O_u8))⟩, .cl (ok_spec_EventOk (GEvent.mk r1_0 r3_0 r4_0 (GValue.mk 0 0 [] [] []) []) _ hr6), .nt false] rfl fd_4 (by kernel_rfl)
   ·obtain rfl := Option.some.inj h
    exact call_wQ [.cl (ok_spec_l2get (GL2cur.mk a0 0 40) _ hr1), .eT c2, .cl (ok_spec_l2getText r1_1 _ hr3), .eT c2, .cl (ok_spec_l2get r3_1 _ hr4), .le e_u8 a0, .eF c5, .nt false] rfl fd_4 (by kernel_rfl)
  ·rcases ite_some h with ⟨c3, h⟩ | ⟨c3, h⟩
   ·obtain ⟨⟨r4_0, r4_1⟩, hr4, h⟩ := bs h
    try dsimp only at h
    rcases ite_some h with ⟨c5, h⟩ | ⟨c5, h⟩
    ·obtain ⟨r6, hr6, h⟩ := bs h
     cases r6 with
     | true =>
      try dsimp only at h
      obtain ⟨r8, hr8, h⟩ := bs h
      rcases ite_some h with ⟨c9, h⟩ | ⟨c9, h⟩
      ·obtain rfl := Option.some.inj h
       exact call_wQ [.cl (ok_spec_l2get (GL2cur.mk a0 0 40) _ hr1), .eF c2, .eT c3, .cl (ok_spec_l2getText r1_1 _ hr4), .eF c2, .eFo r1_0 2 (by omega), .le e_u8 a0, .eT c5, .nt true, ⟨.view (eL e_u8 r4_0), .l (eL e_u8 r4_0), (A.view E_u8)⟩, ⟨.view (eL e_u8 []), .l (eL e_u8 []), (A.view E_u8)⟩, ⟨.view (eL (o_sl 1 e_u8) []), .l (eL (e_sl e_u8) []), (A.viewO (O_sl 1 O_u8))⟩, ⟨.view (eL o_GValue []), .l (eL e_GValue []), (A.viewO O_GValue)⟩, ⟨.view (eL (o_sl 1 e_u8) []), .l (eL (e_sl e_u8) []), (A.viewO (O_sl 1 O_u8))⟩, .cl (ok_spec_EventOk (GEvent.mk r1_0 r4_0 0 (GValue.mk 0 0 [] [] []) []) _ hr6), .nt true, ⟨.view (eL e_u8 r4_0), .l (eL e_u8 r4_0), (A.view E_u8)⟩, ⟨.view (eL e_u8 []), .l (eL e_u8 []), (A.view E_u8)⟩, ⟨.view (eL (o_sl 1 e_u8) []), .l (eL (e_sl e_u8) []), (A.viewO (O_sl 1 O_u8))⟩, ⟨.view (eL o_GValue []), .l (eL e_GValue []), (A.viewO O_GValue)⟩, ⟨.view (eL (o_sl 1 e_u8) []), .l (eL (e_sl e_u8) []), (A.viewO (O_sl 1 O_u8))⟩, .cl (ok_spec_l4bytes (GEvent.mk r1_0 r4_0 0 (GValue.mk 0 0 [] [] []) []) _ hr8), ⟨.cln (eL e_u8 r8), .b true, (A.cln O_u8)⟩, ⟨.bytes (eL e_u8 r8), .s r8, A.bytes⟩, ⟨.bytes (eL e_u8 a0), .s a0, A.bytes⟩, .sT c9, .nt true] rfl fd_4 (by kernel_rfl)
      ·obtain rfl := Option.some.inj h
       exact call_wQ [.cl (ok_spec_l2get (GL2cur.mk a0 0 40) _ hr1), .eF c2, .eT c3, .cl (ok_spec_l2getText r1_1 _ hr4), .eF c2, .eFo r1_0 2 (by omega), .le e_u8 a0, .eT c5, .nt true, ⟨.view (eL e_u8 r4_0), .l (eL e_u8 r4_0), (A.view E_u8)⟩, ⟨.view (eL e_u8 []), .l (eL e_u8 []), (A.view E_u8)⟩, ⟨.view (eL (o_sl 1 e_u8) []), .l (eL (e_sl e_u8) []), (A.viewO (O_sl 1 O_u8))⟩, ⟨.view (eL o_GValue []), .l (eL e_GValue []), (A.viewO O_GValue)⟩, ⟨.view (eL (o_sl 1 e_u8) []), .l (eL (e_sl e_u8) []), (A.viewO (O_sl 1 O_u8))⟩, .cl (ok_spec_EventOk (GEvent.mk r1_0 r4_0 0 (GValue.mk 0 0 [] [] []) []) _ hr6), .nt true, ⟨.view (eL e_u8 r4_0), .l (eL e_u8 r4_0), (A.view E_u8)⟩, ⟨.view (eL e_u8 []), .l (eL e_u8 []), (A.view E_u8)⟩, ⟨.view (eL (o_sl 1 e_u8) []), .l (eL (e_sl e_u8) []), (A.viewO (O_sl 1 O_u8))⟩, ⟨.view (eL o_GValue []), .l (eL e_GValue []), (A.viewO O_GValue)⟩, ⟨.view (eL (o_sl 1 e_u8) []), .l (eL (e_sl e_u8) []), (A.viewO (O_sl 1 O_u8))⟩, .cl (ok_spec_l4bytes (GEvent.mk r1_0 r4_0 0 (GValue.mk 0 0 [] [] []) []) _ hr8), ⟨.cln (eL e_u8 r8), .b true, (A.cln O_u8)⟩, ⟨.bytes (eL e_u8 r8), .s r8, A.bytes⟩, ⟨.bytes (eL e_u8 a0), .s a0, A.bytes⟩, .sF c9, .nt false] rfl fd_4 (by kernel_rfl)
     | false =>
      try dsimp only at h
      obtain rfl := Option.some.inj h
      exact call_wQ [.cl (ok_spec_l2get (GL2cur.mk a0 0 40) _ hr1), .eF c2, .eT c3, .cl (ok_spec_l2getText r1_1 _ hr4), .eF c2, .eFo r1_0 2 (by omega), .le e_u8 a0, .eT c5, .nt true, ⟨.view (eL e_u8 r4_0), .l (eL e_u8 r4_0), (A.view E_u8)⟩, ⟨.view (eL e_u8 []), .l (eL e_u8 []), (A.view E_u8)⟩, ⟨.view (eL (o_sl 1 e_u8) []), .l (eL (e_sl e_u8) []), (A.viewO (O_sl 1 O_u8))⟩, ⟨.view (eL o_GValue []), .l (eL e_GValue []), (A.viewO O_GValue)⟩, ⟨.view (eL (o_sl 1 e_u8) []), .l (eL (e_sl e_u8) []), (A.viewO (O_sl 1 O_u8))⟩, .cl (ok_spec_EventOk (GEvent.mk r1_0 r4_0 0 (GValue.mk 0 0 [] [] []) []) _ hr6), .nt false] rfl fd_4 (by kernel_rfl)
    ·obtain rfl := Option.some.inj h
     exact call_wQ [.cl (ok_spec_l2get (GL2cur.mk a0 0 40) _ hr1), .eF c2, .eT c3, .cl (ok_spec_l2getText r1_1 _ hr4), .eF c2, .eFo r1_0 2 (by omega), .le e_u8 a0, .eF c5, .nt false] rfl fd_4 (by kernel_rfl)
   ·rcases ite_some h with ⟨c4, h⟩ | ⟨c4, h⟩
    ·obtain ⟨⟨r5_0, r5_1⟩, hr5, h⟩ := bs h
     try dsimp only at h
     rcases ite_some h with ⟨c6, h⟩ | ⟨c6, h⟩
     ·obtain ⟨r7, hr7, h⟩ := bs h
      cases r7 with
      | true =>
       try dsimp only at h
       obtain ⟨r9, hr9, h⟩ := bs h
       rcases ite_some h with ⟨c10, h⟩ | ⟨c10, h⟩
       ·obtain rfl := Option.some.inj h
        exact call_wQ [.cl (ok_spec_l2get (GL2cur.mk a0 0 40) _ hr1), .eF c2, .eF c3, .eT c4, .cl (ok_spec_l2getText r1_1 _ hr5), .eF c2, .eFo r1_0 2 (by omega), .le e_u8 a0, .eT c6, .nt true, ⟨.view (eL e_u8 r5_0), .l (eL e_u8 r5_0), (A.view E_u8)⟩, ⟨.view (eL e_u8 []), .l (eL e_u8 []), (A.view E_u8)⟩, ⟨.view (eL (o_sl 1 e_u8) []), .l (eL (e_sl e_u8) []), (A.viewO (O_sl 1 O_u8))⟩, ⟨.view (eL o_GValue []), .l (eL e_GValue []), (A.viewO O_GValue)⟩, ⟨.view (eL (o_sl 1 e_u8) []), .l (eL (e_sl e_u8) []), (A.viewO (O_sl 1 O_u8))⟩, .cl (ok_spec_EventOk (GEvent.mk r1_0 r5_0 0 (GValue.mk 0 0 [] [] []) []) _ hr7), .nt true, ⟨.view (eL e_u8 r5_0), .l (eL e_u8 r5_0), (A.view E_u8)⟩, ⟨.view (eL e_u8 []), .l (eL e_u8 []), (A.view E_u8)⟩, ⟨.view (eL (o_sl 1 e_u8) []), .l (eL (e_sl e_u8) []), (A.viewO (O_sl 1 O_u8))⟩, ⟨.view (eL o_GValue []), .l (eL e_GValue []), (A.viewO O_GValue)⟩, ⟨.view (eL (o_sl 1 e_u8) []), .l (eL (e_sl e_u8) []), (A.viewO (O_sl 1 O_u8))⟩, .cl (ok_spec_l4bytes (GEvent.mk r1_0 r5_0 0 (GValue.mk 0 0 [] [] []) []) _ hr9), ⟨.cln (eL e_u8 r9), .b true, (A.cln O_u8)⟩, ⟨.bytes (eL e_u8 r9), .s r9, A.bytes⟩, ⟨.bytes (eL e_u8 a0), .s a0, A.bytes⟩, .sT c10, .nt true] rfl fd_4 (by kernel_rfl)
       ·obtain rfl := Option.some.inj h
        exact call_wQ [.cl (ok_spec_l2get (GL2cur.mk a0 0 40) _ hr1), .eF c2, .eF c3, .eT c4, .cl (ok_spec_l2getText r1_1 _ hr5), .eF c2, .eFo r1_0 2 (by omega), .le e_u8 a0, .eT c6, .nt true, ⟨.view (eL e_u8 r5_0), .l (eL e_u8 r5_0), (A.view E_u8)⟩, ⟨.view (eL e_u8 []), .l (eL e_u8 []), (A.view E_u8)⟩, ⟨.view (eL (o_sl 1 e_u8) []), .l (eL (e_sl e_u8) []), (A.viewO (O_sl 1 O_u8))⟩, ⟨.view (eL o_GValue []), .l (eL e_GValue []), (A.viewO O_GValue)⟩, ⟨.view (eL (o_sl 1 e_u8) []), .l (eL (e_sl e_u8) []), (A.viewO (O_sl 1 O_u8))⟩, .cl (ok_spec_EventOk (GEvent.mk r1_0 r5_0 0 (GValue.mk 0 0 [] [] []) []) _ hr7), .nt true, ⟨.view (eL e_u8 r5_0), .l (eL e_u8 r5_0), (A.view E_u8)⟩, ⟨.view (eL e_u8 []), .l (eL e_u8 []), (A.view E_u8)⟩, ⟨.view (eL (o_sl 1 e_u8) []), .l (eL (e_sl e_u8) []), (A.viewO (O_sl 1 O_u8))⟩, ⟨.view (eL o_GValue []), .l (eL e_GValue []), (A.viewO O_GValue)⟩, ⟨.view (eL (o_sl 1 e_u8) []), .l (eL (e_sl e_u8) []), (A.viewO (O_sl 1 O_u8))⟩, .cl (ok_spec_l4bytes (GEvent.mk r1_0 r5_0 0 (GValue.mk 0 0 [] [] []) []) _ hr9), ⟨.cln (eL e_u8 r9), .b true, (A.cln O_u8)⟩, ⟨.bytes (eL e_u8 r9), .s r9, A.bytes⟩, ⟨.bytes (eL e_u8 a0), .s a0, A.bytes⟩, .sF c10, .nt false] rfl fd_4 (by kernel_rfl)
      | false =>
       try dsimp only at h
       obtain rfl := Option.some.inj h
       exact call_wQ [.cl (ok_spec_l2get (GL2cur.mk a0 0 40) _ hr1), .eF c2, .eF c3, .eT c4, .cl (ok_spec_l2getText r1_1 _ hr5), .eF c2, .eFo r1_0 2 (by omega), .le e_u8 a0, .eT c6, .nt true, ⟨.view (eL e_u8 r5_0), .l (eL e_u8 r5_0), (A.view E_u8)⟩, ⟨.view (eL e_u8 []), .l (eL e_u8 []), (A.view E_u8)⟩, ⟨.view (eL (o_sl 1 e_u8) []), .l (eL (e_sl e_u8) []), (A.viewO (O_sl 1 O_u8))⟩, ⟨.view (eL o_GValue []), .l (eL e_GValue []), (A.viewO O_GValue)⟩, ⟨.view (eL (o_sl 1 e_u8) []), .l (eL (e_sl e_u8) []), (A.viewO (O_sl 1 O_u8))⟩, .cl (ok_spec_EventOk (GEvent.mk r1_0 r5_0 0 (GValue.mk 0 0 [] [] []) []) _ hr7), .nt false] rfl fd_4 (by kernel_rfl)
     ·obtain rfl := Option.some.inj h
      exact call_wQ [.cl (ok_spec_l2get (GL2cur.mk a0 0 40) _ hr1), .eF c2, .eF c3, .eT c4, .cl (ok_spec_l2getText r1_1 _ hr5), .eF c2, .eFo r1_0 2 (by omega), .le e_u8 a0, .eF c6, .nt false] rfl fd_4 (by kernel_rfl)
    ·rcases ite_some h with ⟨c5, h⟩ | ⟨c5, h⟩
     ·obtain ⟨⟨r6_0, r6_1⟩, hr6, h⟩ := bs h
      try dsimp only at h
      obtain ⟨⟨r7_0, r7_1⟩, hr7, h⟩ := bs h
      try dsimp only at h
      obtain ⟨⟨o8_0, o8_1, o8_2⟩, ho8, h⟩ := bs h
      try dsimp only at h
      obtain ⟨⟨r9_0, r9_1⟩, hr9, h⟩ := bs h
      try dsimp only at h
      rcases ite_some h with ⟨c10, h⟩ | ⟨c10, h⟩
      ·obtain ⟨r11, hr11, h⟩ := bs h
       cases r11 with
       | true =>
        try dsimp only at h
        obtain ⟨r13, hr13, h⟩ := bs h
        rcases ite_some h with ⟨c14, h⟩ | ⟨c14, h⟩
        ·obtain rfl := Option.some.inj h
         exact call_wQ [.cl (ok_spec_l2get (GL2cur.mk a0 0 40) _ hr1), .eF c2, .eF c3, .eF c4, .eT c5, .cl (ok_spec_l2getText r1_1 _ hr6), .eF c2, .eT c5, .cl (ok_spec_l2get r6_1 _ hr7), .lp (gl_spec_EventRead_l0 a0 r7_0 0 0 0 0 r1_0 0 0 0 [] [] [] [] [] r6_0 [] [] [] _ 0 r7_1 [] _ ho8), .cl (ok_spec_l2read 1 o8_1 _ hr9), .le e_u8 a0, .eT c10, .nt true, ⟨.view (eL e_u8 r6_0), .l (eL e_u8 r6_0), (A.view E_u8)⟩, ⟨.view (eL e_u8 r9_0.S), .l (eL e_u8 r9_0.S), (A.view E_u8)⟩, ⟨.view (eL (o_sl 1 e_u8) r9_0.K), .l (eL (e_sl e_u8) r9_0.K), (A.viewO (O_sl 1 O_u8))⟩, ⟨.view (eL o_GValue r9_0.L), .l (eL e_GValue r9_0.L), (A.viewO O_GValue)⟩, ⟨.view (eL (o_sl 1 e_u8) o8_2), .l (eL (e_sl e_u8) o8_2), (A.viewO (O_sl 1 O_u8))⟩, .cl (ok_spec_EventOk (GEvent.mk r1_0 r6_0 0 r9_0 o8_2) _ hr11), .nt true, ⟨.view (eL e_u8 r6_0), .l (eL e_u8 r6_0), (A.view E_u8)⟩, ⟨.view (eL e_u8 r9_0.S), .l (eL e_u8 r9_0.S), (A.view E_u8)⟩, ⟨.view (eL (o_sl 1 e_u8) r9_0.K), .l (eL (e_sl e_u8) r9_0.K), (A.viewO (O_sl 1 O_u8))⟩, ⟨.view (eL o_GValue r9_0.L), .l (eL e_GValue r9_0.L), (A.viewO O_GValue)⟩, ⟨.view (eL (o_sl 1 e_u8) o8_2), .l (eL (e_sl e_u8) o8_2), (A.viewO (O_sl 1 O_u8))⟩, .cl (ok_spec_l4bytes (GEvent.mk r1_0 r6_0 0 r9_0 o8_2) _ hr13), ⟨.cln (eL e_u8 r13), .b true, (A.cln O_u8)⟩, ⟨.bytes (eL e_u8 r13), .s r13, A.bytes⟩, ⟨.bytes (eL e_u8 a0), .s a0, A.bytes⟩, .sT c14, .nt true] rfl fd_4 (by kernel_rfl)
        ·obtain rfl := Option.some.inj h
         exact call_wQ [.cl (ok_spec_l2get (GL2cur.mk a0 0 40) _ hr1), .eF c2, .eF c3, .eF c4, .eT c5, .cl (ok_spec_l2getText r1_1 _ hr6), .eF c2, .eT c5, .cl (ok_spec_l2get r6_1 _ hr7), .lp (gl_spec_EventRead_l0 a0 r7_0 0 0 0 0 r1_0 0 0 0 [] [] [] [] [] r6_0 [] [] [] _ 0 r7_1 [] _ ho8), .cl (ok_spec_l2read 1 o8_1 _ hr9), .le e_u8 a0, .eT c10, .nt true, ⟨.view (eL e_u8 r6_0), .l (eL e_u8 r6_0), (A.view E_u8)⟩, ⟨.view (eL e_u8 r9_0.S), .l (eL e_u8 r9_0.S), (A.view E_u8)⟩, ⟨.view (eL (o_sl 1 e_u8) r9_0.K), .l (eL (e_sl e_u8) r9_0.K), (A.viewO (O_sl 1 O_u8))⟩, ⟨.view (eL o_GValue r9_0.L), .l (eL e_GValue r9_0.L), (A.viewO O_GValue)⟩, ⟨.view (eL (o_sl 1 e_u8) o8_2), .l (eL (e_sl e_u8) o8_2), (A.viewO (O_sl 1 O_u8))⟩, .cl (ok_spec_EventOk (GEvent.mk r1_0 r6_0 0 r9_0 o8_2) _ hr11), .nt true, ⟨.view (eL e_u8 r6_0), .l (eL e_u8 r6_0), (A.view E_u8)⟩, ⟨.view (eL e_u8 r9_0.S), .l (eL e_u8 r9_0.S), (A.view E_u8)⟩, ⟨.view (eL (o_sl 1 e_u8) r9_0.K), .l (eL (e_sl e_u8) r9_0.K), (A.viewO (O_sl 1 O_u8))⟩, ⟨.view (eL o_GValue r9_0.L), .l (eL e_GValue r9_0.L), (A.viewO O_GValue)⟩, ⟨.view (eL (o_sl 1 e_u8) o8_2), .l (eL (e_sl e_u8) o8_2), (A.viewO (O_sl 1 O_u8))⟩, .cl (ok_spec_l4bytes (GEvent.mk r1_0 r6_0 0 r9_0 o8_2) _ hr13), ⟨.cln (eL e_u8 r13), .b true, (A.cln O_u8)⟩, ⟨.bytes (eL e_u8 r13), .s r13, A.bytes⟩, ⟨.bytes (eL e_u8 a0), .s a0, A.bytes⟩, .sF c14, .nt false] rfl fd_4 (by kernel_rfl)
       | false =>
        try dsimp only at h
        obtain rfl := Option.some.inj h
        exact call_wQ [.cl (ok_spec_l2get (GL2cur.mk a0 0 40) _ hr1), .eF c2, .eF c3, .eF c4, .eT c5, .cl (ok_spec_l2getText r1_1 _ hr6), .eF c2, .eT c5, .cl (ok_spec_l2get r6_1 _ hr7), .lp (gl_spec_EventRead_l0 a0 r7_0 0 0 0 0 r1_0 0 0 0 [] [] [] [] [] r6_0 [] [] [] _ 0 r7_1 [] _ ho8), .cl (ok_spec_l2read 1 o8_1 _ hr9), .le e_u8 a0, .eT c10, .nt true, ⟨.view (eL e_u8 r6_0), .l (eL e_u8 r6_0), (A.view E_u8)⟩, ⟨.view (eL e_u8 r9_0.S), .l (eL e_u8 r9_0.S), (A.view E_u8)⟩, ⟨.view (eL (o_sl 1 e_u8) r9_0.K), .l (eL (e_sl e_u8) r9_0.K), (A.viewO (O_sl 1 O_u8))⟩, ⟨.view (eL o_GValue r9_0.L), .l (eL e_GValue r9_0.L), (A.viewO O_GValue)⟩, ⟨.view (eL (o_sl 1 e_u8) o8_2), .l (eL (e_sl e_u8) o8_2), (A.viewO (O_sl 1 O_u8))⟩, .cl (ok_spec_EventOk (GEvent.mk r1_0 r6_0 0 r9_0 o8_2) _ hr11), .nt false] rfl fd_4 (by kernel_rfl)
      ·obtain rfl := Option.some.inj h
       exact call_wQ [.cl (ok_spec_l2get (GL2cur.mk a0 0 40) _ hr1), .eF c2, .eF c3, .eF c4, .eT c5, .cl (ok_spec_l2getText r1_1 _ hr6), .eF c2, .eT c5, .cl (ok_spec_l2get r6_1 _ hr7), .lp (gl_spec_EventRead_l0 a0 r7_0 0 0 0 0 r1_0 0 0 0 [] [] [] [] [] r6_0 [] [] [] _ 0 r7_1 [] _ ho8), .cl (ok_spec_l2read 1 o8_1 _ hr9), .le e_u8 a0, .eF c10, .nt false] rfl fd_4 (by kernel_rfl)
     ·rcases ite_some h with ⟨c6, h⟩ | ⟨c6, h⟩
      ·obtain ⟨r7, hr7, h⟩ := bs h
       cases r7 with
       | true =>
        try dsimp only at h
        obtain ⟨r9, hr9, h⟩ := bs h
        rcases ite_some h with ⟨c10, h⟩ | ⟨c10, h⟩
        ·obtain rfl := Option.some.inj h
         exact call_wQ [.cl (ok_spec_l2get (GL2cur.mk a0 0 40) _ hr1), .eF c2, .eF c3, .eF c4, .eF c5, .eF c2, .eF c5, .le e_u8 a0, .eT c6, .nt true, ⟨.view (eL e_u8 []), .l (eL e_u8 []), (A.view E_u8)⟩, ⟨.view (eL e_u8 []), .l (eL e_u8 []), (A.view E_u8)⟩, ⟨.view (eL (o_sl 1 e_u8) []), .l (eL (e_sl e_u8) []), (A.viewO (O_sl 1 O_u8))⟩, ⟨.view (eL o_GValue []), .l (eL e_GValue []), (A.viewO O_GValue)⟩, ⟨.view (eL (o_sl 1 e_u8) []), .l (eL (e_sl e_u8) []), (A.viewO (O_sl 1 O_u8))⟩, .cl (ok_spec_EventOk (GEvent.mk r1_0 [] 0 (GValue.mk 0 0 [] [] []) []) _ hr7), .nt true, ⟨.view (eL e_u8 []), .l (eL e_u8 []), (A.view E_u8)⟩, ⟨.view (eL e_u8 []), .l (eL e_u8 []), (A.view E_u8)⟩, ⟨.view (eL (o_sl 1 e_u8) []), .l (eL (e_sl e_u8) []), (A.viewO (O_sl 1 O_u8))⟩, ⟨.view (eL o_GValue []), .l (eL e_GValue []), (A.viewO O_GValue)⟩, ⟨.view (eL (o_sl 1 e_u8) []), .l (eL (e_sl e_u8) []), (A.viewO (O_sl 1 O_u8))⟩, .cl (ok_spec_l4bytes (GEvent.mk r1_0 [] 0 (GValue.mk 0 0 [] [] []) []) _ hr9), ⟨.cln (eL e_u8 r9), .b true, (A.cln O_u8)⟩, ⟨.bytes (eL e_u8 r9), .s r9, A.bytes⟩, ⟨.bytes (eL e_u8 a0), .s a0, A.bytes⟩, .sT c10, .nt true] rfl fd_4 (by kernel_rfl)
        ·obtain rfl := Option.some.inj h
         exact call_wQ [.cl (ok_spec_l2get (GL2cur.mk a0 0 40) _ hr1), .eF c2, .eF c3, .eF c4, .eF c5, .eF c2, .eF c5, .le e_u8 a0, .eT c6, .nt true, ⟨.view (eL e_u8 []), .l (eL e_u8 []), (A.view E_u8)⟩, ⟨.view (eL e_u8 []), .l (eL e_u8 []), (A.view E_u8)⟩, ⟨.view (eL (o_sl 1 e_u8) []), .l (eL (e_sl e_u8) []), (A.viewO (O_sl 1 O_u8))⟩, ⟨.view (eL o_GValue []), .l (eL e_GValue []), (A.viewO O_GValue)⟩, ⟨.view (eL (o_sl 1 e_u8) []), .l (eL (e_sl e_u8) []), (A.viewO (O_sl 1 O_u8))⟩, .cl (ok_spec_EventOk (GEvent.mk r1_0 [] 0 (GValue.mk 0 0 [] [] []) []) _ hr7), .nt true, ⟨.view (eL e_u8 []), .l (eL e_u8 []), (A.view E_u8)⟩, ⟨.view (eL e_u8 []), .l (eL e_u8 []), (A.view E_u8)⟩, ⟨.view (eL (o_sl 1 e_u8) []), .l (eL (e_sl e_u8) []), (A.viewO (O_sl 1 O_u8))⟩, ⟨.view (eL o_GValue []), .l (eL e_GValue []), (A.viewO O_GValue)⟩, ⟨.view (eL (o_sl 1 e_u8) []), .l (eL (e_sl e_u8) []), (A.viewO (O_sl 1 O_u8))⟩, .cl (ok_spec_l4bytes (GEvent.mk r1_0 [] 0 (GValue.mk 0 0 [] [] []) []) _ hr9), ⟨.cln (eL e_u8 r9), .b true, (A.cln O_u8)⟩, ⟨.bytes (eL e_u8 r9), .s r9, A.bytes⟩, ⟨.bytes (eL e_u8 a0), .s a0, A.bytes⟩, .sF c10, .nt false] rfl fd_4 (by kernel_rfl)
       | false =>
        try dsimp only at h
        obtain rfl := Option.some.inj h
        exact call_wQ [.cl (ok_spec_l2get (GL2cur.mk a0 0 40) _ hr1), .eF c2, .eF c3, .eF c4, .eF c5, .eF c2, .eF c5, .le e_u8 a0, .eT c6, .nt true, ⟨.view (eL e_u8 []), .l (eL e_u8 []), (A.view E_u8)⟩, ⟨.view (eL e_u8 []), .l (eL e_u8 []), (A.view E_u8)⟩, ⟨.view (eL (o_sl 1 e_u8) []), .l (eL (e_sl e_u8) []), (A.viewO (O_sl 1 O_u8))⟩, ⟨.view (eL o_GValue []), .l (eL e_GValue []), (A.viewO O_GValue)⟩, ⟨.view (eL (o_sl 1 e_u8) []), .l (eL (e_sl e_u8) []), (A.viewO (O_sl 1 O_u8))⟩, .cl (ok_spec_EventOk (GEvent.mk r1_0 [] 0 (GValue.mk 0 0 [] [] []) []) _ hr7), .nt false] rfl fd_4 (by kernel_rfl)
      ·obtain rfl := Option.some.inj h
       exact call_wQ [.cl (ok_spec_l2get (GL2cur.mk a0 0 40) _ hr1), .eF c2, .eF c3, .eF c4, .eF c5, .eF c2, .eF c5, .le e_u8 a0, .eF c6, .nt false] rfl fd_4 (by kernel_rfl)
def S_spec_EventRead (a0 : (List UInt8)) : Option (GEvent × Bool) := T_spec_EventRead 100 a0
theorem spec_spec_EventRead (a0 : (List UInt8)) (r : (GEvent × Bool)) (h : S_spec_EventRead a0 = some r) : ∃ n, T_spec_EventRead n a0 = some r := ⟨_, h⟩
theorem ok_spec_EventRead (a0 : (List UInt8)) (r : (GEvent × Bool)) (h : S_spec_EventRead a0 = some r) : (mach cfg).call 4 [] [.val false [.seq (eL e_u8 a0)]] = some (.tup [(true, [.int .i64 r.1.Kind, .own 1 (eL e_u8 r.1.Addr), .int .i64 r.1.Act, .int .i64 r.1.Val.Kind, .int .i64 r.1.Val.N, .own 1 (eL e_u8 r.1.Val.S), .own 1 (eL (o_sl 1 e_u8) r.1.Val.K), .own 5 (eL o_GValue r.1.Val.L), .own 1 (eL (o_sl 1 e_u8) r.1.Deps)]), (false, [.bool r.2])], []) := by
  obtain ⟨n, hn⟩ := spec_spec_EventRead a0 r h
  exact g_spec_EventRead n a0 r hn
def S_impl_in (a0 : Int) (a1 : Int) (a2 : Int) : Option Bool :=
  if a1 <= a0 then
    some (decide (a0 <= a2))
  else
    some false
set_option maxRecDepth 100000 in
theorem fd_48 : cfg.funcs 48 = some (bodyOf Tryz.f48, Tryz.f48.ntmps, Tryz.f48.results.toList) := fn_of Tryz.func48 (by kernel_rfl) (by kernel_rfl)
theorem ok_impl_in (a0 : Int) (a1 : Int) (a2 : Int) (r : Bool) (h : S_impl_in a0 a1 a2 = some r) : (mach cfg).call 48 [] [.val false [.int .i64 a0], .val false [.int .i64 a1], .val false [.int .i64 a2]] = some (.val false [.bool r], []) := by
  unfold S_impl_in at h
  rcases ite_some h with ⟨c1, h⟩ | ⟨c1, h⟩
  ·obtain rfl := Option.some.inj h
   exact call_wQ [.gT c1, .gD a0 a2] rfl fd_48 (by kernel_rfl)
  ·obtain rfl := Option.some.inj h
   exact call_wQ [.gF c1] rfl fd_48 (by kernel_rfl)
def L_impl_getNum_l0 (a1 : Int) (v2 : (List UInt8)) (v3 : Int) : Nat → Int → Int → Option ((Int × Int) ⊕ ((Int × Int) ⊕ (Int × Int)))
  | 0, _, _ => none
  | m + 1, v1, v4 =>
    if v4 < v3 then
      (natO v4).bind fun i2 =>
      (v2[i2]?).bind fun x3 =>
      if 0 <= (w64 (7 * v4)) then
      if 128 <= ((x3.toNat : Nat) : Int) then
        L_impl_getNum_l0 a1 v2 v3 m (bitI .or .i64 v1 (bitI .shl .i64 (w64 (((x3.toNat : Nat) : Int).tmod 128)) (w64 (7 * v4)))) (w64 (v4 + 1))
      else
        if ((x3.toNat : Nat) : Int) = 0 then
          if 0 < v4 then
            some (.inl ((bitI .or .i64 v1 (bitI .shl .i64 (w64 (((x3.toNat : Nat) : Int).tmod 128)) (w64 (7 * v4)))), v4))
          else
            if 2147483647 < (bitI .or .i64 v1 (bitI .shl .i64 (w64 (((x3.toNat : Nat) : Int).tmod 128)) (w64 (7 * v4)))) then
              some (.inl ((bitI .or .i64 v1 (bitI .shl .i64 (w64 (((x3.toNat : Nat) : Int).tmod 128)) (w64 (7 * v4)))), v4))
            else
              some (.inr (.inl ((bitI .or .i64 v1 (bitI .shl .i64 (w64 (((x3.toNat : Nat) : Int).tmod 128)) (w64 (7 * v4)))), (w64 ((w64 (a1 + v4)) + 1)))))
        else
          if 2147483647 < (bitI .or .i64 v1 (bitI .shl .i64 (w64 (((x3.toNat : Nat) : Int).tmod 128)) (w64 (7 * v4)))) then
            some (.inl ((bitI .or .i64 v1 (bitI .shl .i64 (w64 (((x3.toNat : Nat) : Int).tmod 128)) (w64 (7 * v4)))), v4))
          else
            some (.inr (.inl ((bitI .or .i64 v1 (bitI .shl .i64 (w64 (((x3.toNat : Nat) : Int).tmod 128)) (w64 (7 * v4)))), (w64 ((w64 (a1 + v4)) + 1)))))
      else none
    else
      some (.inr (.inr (v1, v4)))
theorem gl_impl_getNum_l0 (a1 : Int) (v2 : (List UInt8)) (v3 : Int) (m : Nat) : ∀ (v1 : Int) (v4 : Int) (o : ((Int × Int) ⊕ ((Int × Int) ⊕ (Int × Int)))), L_impl_getNum_l0 a1 v2 v3 m v1 v4 = some o → (mach cfg).loop 35 (loopB Tryz.f35 0) ⟨[(1, .val false [.int .i64 a1]), (6, .val false [.int .i64 v1]), (22, .val false [.seq (eL e_u8 v2)]), (23, .val false [.int .i64 v3]), (24, .val false [.int .i64 v4])], [], 0⟩ = some (match o with | .inl ⟨o_0_0, o_0_1⟩ => (.exit 0, (⟨[(1, .val false [.int .i64 a1]), (6, .val false [.int .i64 o_0_0]), (7, .val false [.int .i64 o_0_1]), (48, .val false [.bool true])], [], 0⟩ : S)) | .inr (.inl ⟨o_1_0, o_1_1⟩) => (.ret, (⟨[(4, .val false [.int .i64 o_1_0]), (5, .val false [.int .i64 o_1_1])], [], 0⟩ : S)) | .inr (.inr (⟨o_2_0, o_2_1⟩)) => (.exit 0, (⟨[(1, .val false [.int .i64 a1]), (6, .val false [.int .i64 o_2_0]), (22, .val false [.seq (eL e_u8 v2)]), (23, .val false [.int .i64 v3]), (24, .val false [.int .i64 o_2_1]), (25, .val false [.bool false])], [], 0⟩ : S))) := by
  induction m with
  | zero => intro v1 v4 o h; cases h
  | succ m ih =>
    intro v1 v4 o h
    rw [L_impl_getNum_l0] at h
    rcases ite_some h with ⟨c1, h⟩ | ⟨c1, h⟩
    ·obtain ⟨i2, hi2, h⟩ := bs h
     obtain ⟨x3, hx3, h⟩ := bs h
     obtain ⟨n4, h⟩ := need_some h
     let p43 : List (Q cfg) := [.lT c1, .na hi2, .ix0 e_u8 hx3]
     rcases ite_some h with ⟨c5, h⟩ | ⟨c5, h⟩
     ·exact loop_nQ (p43 ++ [⟨.nz 128, .b true, rfl⟩, ⟨.rem ((x3.toNat : Nat) : Int) 128, .i (((x3.toNat : Nat) : Int).tmod 128), rfl⟩, ⟨.conv .i64 (((x3.toNat : Nat) : Int).tmod 128), .i (w64 (((x3.toNat : Nat) : Int).tmod 128)), rfl⟩, ⟨.mul .i64 7 v4, .i (w64 (7 * v4)), rfl⟩, .gT n4, ⟨.bit .shl .i64 (w64 (((x3.toNat : Nat) : Int).tmod 128)) (w64 (7 * v4)), .i (bitI .shl .i64 (w64 (((x3.toNat : Nat) : Int).tmod 128)) (w64 (7 * v4))), rfl⟩, ⟨.bit .or .i64 v1 (bitI .shl .i64 (w64 (((x3.toNat : Nat) : Int).tmod 128)) (w64 (7 * v4))), .i (bitI .or .i64 v1 (bitI .shl .i64 (w64 (((x3.toNat : Nat) : Int).tmod 128)) (w64 (7 * v4)))), rfl⟩, .gT c5, .ad v4 1]) (by kernel_rfl) (ih (bitI .or .i64 v1 (bitI .shl .i64 (w64 (((x3.toNat : Nat) : Int).tmod 128)) (w64 (7 * v4)))) (w64 (v4 + 1)) o h)
     ·rcases ite_some h with ⟨c6, h⟩ | ⟨c6, h⟩
      ·rcases ite_some h with ⟨c7, h⟩ | ⟨c7, h⟩
       ·obtain rfl := Option.some.inj h
        exact loop_eQ (p43 ++ [⟨.nz 128, .b true, rfl⟩, ⟨.rem ((x3.toNat : Nat) : Int) 128, .i (((x3.toNat : Nat) : Int).tmod 128), rfl⟩, ⟨.conv .i64 (((x3.toNat : Nat) : Int).tmod 128), .i (w64 (((x3.toNat : Nat) : Int).tmod 128)), rfl⟩, ⟨.mul .i64 7 v4, .i (w64 (7 * v4)), rfl⟩, .gT n4, ⟨.bit .shl .i64 (w64 (((x3.toNat : Nat) : Int).tmod 128)) (w64 (7 * v4)), .i (bitI .shl .i64 (w64 (((x3.toNat : Nat) : Int).tmod 128)) (w64 (7 * v4))), rfl⟩, ⟨.bit .or .i64 v1 (bitI .shl .i64 (w64 (((x3.toNat : Nat) : Int).tmod 128)) (w64 (7 * v4))), .i (bitI .or .i64 v1 (bitI .shl .i64 (w64 (((x3.toNat : Nat) : Int).tmod 128)) (w64 (7 * v4)))), rfl⟩, .gF c5, .eT c6, .lT c7]) (by kernel_rfl) (by intro h; cases h)
       ·rcases ite_some h with ⟨c8, h⟩ | ⟨c8, h⟩
        ·obtain rfl := Option.some.inj h
         exact loop_eQ (p43 ++ [⟨.nz 128, .b true, rfl⟩, ⟨.rem ((x3.toNat : Nat) : Int) 128, .i (((x3.toNat : Nat) : Int).tmod 128), rfl⟩, ⟨.conv .i64 (((x3.toNat : Nat) : Int).tmod 128), .i (w64 (((x3.toNat : Nat) : Int).tmod 128)), rfl⟩, ⟨.mul .i64 7 v4, .i (w64 (7 * v4)), rfl⟩, .gT n4, ⟨.bit .shl .i64 (w64 (((x3.toNat : Nat) : Int).tmod 128)) (w64 (7 * v4)), .i (bitI .shl .i64 (w64 (((x3.toNat : Nat) : Int).tmod 128)) (w64 (7 * v4))), rfl⟩, ⟨.bit .or .i64 v1 (bitI .shl .i64 (w64 (((x3.toNat : Nat) : Int).tmod 128)) (w64 (7 * v4))), .i (bitI .or .i64 v1 (bitI .shl .i64 (w64 (((x3.toNat : Nat) : Int).tmod 128)) (w64 (7 * v4)))), rfl⟩, .gF c5, .eT c6, .lF c7, .lT c8]) (by kernel_rfl) (by intro h; cases h)
        ·obtain rfl := Option.some.inj h
         exact loop_eQ (p43 ++ [⟨.nz 128, .b true, rfl⟩, ⟨.rem ((x3.toNat : Nat) : Int) 128, .i (((x3.toNat : Nat) : Int).tmod 128), rfl⟩, ⟨.conv .i64 (((x3.toNat : Nat) : Int).tmod 128), .i (w64 (((x3.toNat : Nat) : Int).tmod 128)), rfl⟩, ⟨.mul .i64 7 v4, .i (w64 (7 * v4)), rfl⟩, .gT n4, ⟨.bit .shl .i64 (w64 (((x3.toNat : Nat) : Int).tmod 128)) (w64 (7 * v4)), .i (bitI .shl .i64 (w64 (((x3.toNat : Nat) : Int).tmod 128)) (w64 (7 * v4))), rfl⟩, ⟨.bit .or .i64 v1 (bitI .shl .i64 (w64 (((x3.toNat : Nat) : Int).tmod 128)) (w64 (7 * v4))), .i (bitI .or .i64 v1 (bitI .shl .i64 (w64 (((x3.toNat : Nat) : Int).tmod 128)) (w64 (7 * v4)))), rfl⟩, .gF c5, .eT c6, .lF c7, .lF c8, .ad a1 v4, .ad (w64 (a1 + v4)) 1]) (by kernel_rfl) (by intro h; cases h)
      ·rcases ite_some h with ⟨c7, h⟩ | ⟨c7, h⟩
       ·obtain rfl := Option.some.inj h
        exact loop_eQ (p43 ++ [⟨.nz 128, .b true, rfl⟩, ⟨.rem ((x3.toNat : Nat) : Int) 128, .i (((x3.toNat : Nat) : Int).tmod 128), rfl⟩, ⟨.conv .i64 (((x3.toNat : Nat) : Int).tmod 128), .i (w64 (((x3.toNat : Nat) : Int).tmod 128)), rfl⟩, ⟨.mul .i64 7 v4, .i (w64 (7 * v4)), rfl⟩, .gT n4, ⟨.bit .shl .i64 (w64 (((x3.toNat : Nat) : Int).tmod 128)) (w64 (7 * v4)), .i (bitI .shl .i64 (w64 (((x3.toNat : Nat) : Int).tmod 128)) (w64 (7 * v4))), rfl⟩, ⟨.bit .or .i64 v1 (bitI .shl .i64 (w64 (((x3.toNat : Nat) : Int).tmod 128)) (w64 (7 * v4))), .i (bitI .or .i64 v1 (bitI .shl .i64 (w64 (((x3.toNat : Nat) : Int).tmod 128)) (w64 (7 * v4)))), rfl⟩, .gF c5, .eF c6, .lT c7]) (by kernel_rfl) (by intro h; cases h)
       ·obtain rfl := Option.some.inj h
        exact loop_eQ (p43 ++ [⟨.nz 128, .b true, rfl⟩, ⟨.rem ((x3.toNat : Nat) : Int) 128, .i (((x3.toNat : Nat) : Int).tmod 128), rfl⟩, ⟨.conv .i64 (((x3.toNat : Nat) : Int).tmod 128), .i (w64 (((x3.toNat : Nat) : Int).tmod 128)), rfl⟩, ⟨.mul .i64 7 v4, .i (w64 (7 * v4)), rfl⟩, .gT n4, ⟨.bit .shl .i64 (w64 (((x3.toNat : Nat) : Int).tmod 128)) (w64 (7 * v4)), .i (bitI .shl .i64 (w64 (((x3.toNat : Nat) : Int).tmod 128)) (w64 (7 * v4))), rfl⟩, ⟨.bit .or .i64 v1 (bitI .shl .i64 (w64 (((x3.toNat : Nat) : Int).tmod 128)) (w64 (7 * v4))), .i (bitI .or .i64 v1 (bitI .shl .i64 (w64 (((x3.toNat : Nat) : Int).tmod 128)) (w64 (7 * v4)))), rfl⟩, .gF c5, .eF c6, .lF c7, .ad a1 v4, .ad (w64 (a1 + v4)) 1]) (by kernel_rfl) (by intro h; cases h)
    ·obtain rfl := Option.some.inj h
     exact loop_eQ [.lF c1] (by kernel_rfl) (by intro h; cases h)
def T_impl_getNum (n : Nat) (a0 : (List UInt8)) (a1 : Int) : Option (Int × Int) :=
  (S_impl_in a1 0 (w64 (((a0.length : Nat) : Int) - 1))).bind fun r1 =>
  match r1 with
  | true =>
    (natO a1).bind fun i3 =>
    (natO (if (w64 (a1 + 5)) < ((a0.length : Nat) : Int) then (w64 (a1 + 5)) else ((a0.length : Nat) : Int))).bind fun i4 =>
    (cutO a0 (some i3) (some i4)).bind fun s5 =>
    (L_impl_getNum_l0 a1 s5 ((s5.length : Nat) : Int) n 0 0).bind fun o6 =>
    match o6 with
    | .inl ⟨o6_0_0, o6_0_1⟩ =>
      some (0, (-1))
    | .inr (.inl ⟨o6_1_0, o6_1_1⟩) =>
      some (o6_1_0, o6_1_1)
    | .inr (.inr (⟨o6_2_0, o6_2_1⟩)) =>
      some (0, (-1))
  | false =>
    some (0, (-1))
set_option maxRecDepth 100000 in
theorem fd_35 : cfg.funcs 35 = some (bodyOf Tryz.f35, Tryz.f35.ntmps, Tryz.f35.results.toList) := fn_of Tryz.func35 (by kernel_rfl) (by kernel_rfl)
theorem g_impl_getNum (n : Nat) (a0 : (List UInt8)) (a1 : Int) (r : (Int × Int)) (h : T_impl_getNum n a0 a1 = some r) : (mach cfg).call 35 [] [.val false [.seq (eL e_u8 a0)], .val false [.int .i64 a1]] = some (.tup [(false, [.int .i64 r.1]), (false, [.int .i64 r.2])], []) := by
  unfold T_impl_getNum at h
  obtain ⟨r1, hr1, h⟩ := bs h
  let p44 : List (Q cfg) := [.le e_u8 a0, .su ((a0.length : Nat) : Int) 1, .cl (ok_impl_in a1 0 (w64 (((a0.length : Nat) : Int) - 1)) _ hr1)]
  cases r1 with
  | true =>
   try dsimp only at h
   obtain ⟨i3, hi3, h⟩ := bs h
   obtain ⟨i4, hi4, h⟩ := bs h
   obtain ⟨s5, hs5, h⟩ := bs h
   obtain ⟨o6, ho6, h⟩ := bs h
   let p45 : List (Q cfg) := p44 ++ [.nt true, .le e_u8 a0, .ad a1 5, ⟨.minI ((a0.length : Nat) : Int) (w64 (a1 + 5)), .i (if (w64 (a1 + 5)) < ((a0.length : Nat) : Int) then (w64 (a1 + 5)) else ((a0.length : Nat) : Int)), rfl⟩, .na hi3, .na hi4, ⟨.cut (eL e_u8 a0) (some i3) (some i4), .l (eL e_u8 s5), (A.cut hs5)⟩, ⟨.uni 1 (eL e_u8 a0), .b true, (A.uni E_u8)⟩, .le e_u8 s5, .lp (gl_impl_getNum_l0 a1 s5 ((s5.length : Nat) : Int) _ 0 0 _ ho6)]
   rcases o6 with ⟨o6_0_0, o6_0_1⟩ | ⟨o6_1_0, o6_1_1⟩ | ⟨o6_2_0, o6_2_1⟩
   · try dsimp only at h
     obtain rfl := Option.some.inj h
     exact call_wQ p45 rfl fd_35 (by kernel_rfl)
   · try dsimp only at h
     obtain rfl := Option.some.inj h
     exact call_wQ p45 rfl fd_35 (by kernel_rfl)
   · try dsimp only at h
     obtain rfl := Option.some.inj h
     exact call_wQ p45 rfl fd_35 (by kernel_rfl)
  | false =>
   try dsimp only at h
   obtain rfl := Option.some.inj h
   exact call_wQ (p44 ++ [.nt false]) rfl fd_35 (by kernel_rfl)
def S_impl_getNum (a0 : (List UInt8)) (a1 : Int) : Option (Int × Int) := T_impl_getNum 10 a0 a1
theorem spec_impl_getNum (a0 : (List UInt8)) (a1 : Int) (r : (Int × Int)) (h : S_impl_getNum a0 a1 = some r) : ∃ n, T_impl_getNum n a0 a1 = some r := ⟨_, h⟩
theorem ok_impl_getNum (a0 : (List UInt8)) (a1 : Int) (r : (Int × Int)) (h : S_impl_getNum a0 a1 = some r) : (mach cfg).call 35 [] [.val false [.seq (eL e_u8 a0)], .val false [.int .i64 a1]] = some (.tup [(false, [.int .i64 r.1]), (false, [.int .i64 r.2])], []) := by
  obtain ⟨n, hn⟩ := spec_impl_getNum a0 a1 r h
  exact g_impl_getNum n a0 a1 r hn
def S_impl_copyBytes (a0 : (List UInt8)) : Option (List UInt8) :=
  if roomP 1 (0 + a0.length) then
  some a0
  else none
set_option maxRecDepth 100000 in
theorem fd_49 : cfg.funcs 49 = some (bodyOf Tryz.f49, Tryz.f49.ntmps, Tryz.f49.results.toList) := fn_of Tryz.func49 (by kernel_rfl) (by kernel_rfl)
theorem ok_impl_copyBytes (a0 : (List UInt8)) (r : (List UInt8)) (h : S_impl_copyBytes a0 = some r) : (mach cfg).call 49 [] [.val false [.seq (eL e_u8 a0)]] = some (.val false [.own 1 (eL e_u8 r)], []) := by
  unfold S_impl_copyBytes at h
  obtain ⟨n1, h⟩ := need_some h
  obtain rfl := Option.some.inj h
  exact call_wQ [⟨.room 1 (eL e_u8 []) (eL e_u8 a0), .b true, (A.room n1)⟩, ⟨.uni 1 (eL e_u8 a0), .b true, (A.uni E_u8)⟩, ⟨.app (eL e_u8 []) (eL e_u8 a0), .l (eL e_u8 a0), A.app0⟩] rfl fd_49 (by kernel_rfl)
def S_impl_getText (a0 : (List UInt8)) (a1 : Int) : Option ((List UInt8) × Int) :=
  (S_impl_getNum a0 a1).bind fun ⟨r1_0, r1_1⟩ =>
  if r1_1 < 0 then
    some ([], (-1))
  else
    if 20 < r1_0 then
      some ([], (-1))
    else
      if (w64 (((a0.length : Nat) : Int) - r1_1)) < r1_0 then
        some ([], (-1))
      else
        (natO r1_1).bind fun i5 =>
        (natO (w64 (r1_1 + r1_0))).bind fun i6 =>
        (cutO a0 (some i5) (some i6)).bind fun s7 =>
        (S_impl_copyBytes s7).bind fun r8 =>
        some (r8, (w64 (r1_1 + r1_0)))
set_option maxRecDepth 100000 in
theorem fd_36 : cfg.funcs 36 = some (bodyOf Tryz.f36, Tryz.f36.ntmps, Tryz.f36.results.toList) := fn_of Tryz.func36 (by kernel_rfl) (by kernel_rfl)
theorem ok_impl_getText (a0 : (List UInt8)) (a1 : Int) (r : ((List UInt8) × Int)) (h : S_impl_getText a0 a1 = some r) : (mach cfg).call 36 [] [.val false [.seq (eL e_u8 a0)], .val false [.int .i64 a1]] = some (.tup [(false, [.own 1 (eL e_u8 r.1)]), (false, [.int .i64 r.2])], []) := by
  unfold S_impl_getText at h
  obtain ⟨⟨r1_0, r1_1⟩, hr1, h⟩ := bs h
  try dsimp only at h
  rcases ite_some h with ⟨c2, h⟩ | ⟨c2, h⟩
  ·obtain rfl := Option.some.inj h
   exact call_wQ [.cl (ok_impl_getNum a0 a1 _ hr1), .lT c2] rfl fd_36 (by kernel_rfl)
  ·rcases ite_some h with ⟨c3, h⟩ | ⟨c3, h⟩
   ·obtain rfl := Option.some.inj h
    exact call_wQ [.cl (ok_impl_getNum a0 a1 _ hr1), .lF c2, .lT c3] rfl fd_36 (by kernel_rfl)
   ·rcases ite_some h with ⟨c4, h⟩ | ⟨c4, h⟩
    ·obtain rfl := Option.some.inj h
     exact call_wQ [.cl (ok_impl_getNum a0 a1 _ hr1), .lF c2, .lF c3, .le e_u8 a0, .su ((a0.length : Nat) : Int) r1_1, .lT c4] rfl fd_36 (by kernel_rfl)
    ·obtain ⟨i5, hi5, h⟩ := bs h
     obtain ⟨i6, hi6, h⟩ := bs h
     obtain ⟨s7, hs7, h⟩ := bs h
     obtain ⟨r8, hr8, h⟩ := bs h
     obtain rfl := Option.some.inj h
     exact call_wQ [.cl (ok_impl_getNum a0 a1 _ hr1), .lF c2, .lF c3, .le e_u8 a0, .su ((a0.length : Nat) : Int) r1_1, .lF c4, .ad r1_1 r1_0, .na hi5, .na hi6, ⟨.cut (eL e_u8 a0) (some i5) (some i6), .l (eL e_u8 s7), (A.cut hs7)⟩, ⟨.uni 1 (eL e_u8 a0), .b true, (A.uni E_u8)⟩, .cl (ok_impl_copyBytes s7 _ hr8), .ad r1_1 r1_0] rfl fd_36 (by kernel_rfl)
def S_bytes_IndexByte (a0 : (List UInt8)) (a1 : UInt8) : Option Int :=
  (S_internal_bytealg_IndexByte a0 a1).bind fun r1 =>
  some r1
set_option maxRecDepth 100000 in
theorem fd_81 : cfg.funcs 81 = some (bodyOf Tryz.f81, Tryz.f81.ntmps, Tryz.f81.results.toList) := fn_of Tryz.func81 (by kernel_rfl) (by kernel_rfl)
theorem ok_bytes_IndexByte (a0 : (List UInt8)) (a1 : UInt8) (r : Int) (h : S_bytes_IndexByte a0 a1 = some r) : (mach cfg).call 81 [] [.val false [.seq (eL e_u8 a0)], .val false [.int .u8 ((a1.toNat : Nat) : Int)]] = some (.val false [.int .i64 r], []) := by
  unfold S_bytes_IndexByte at h
  obtain ⟨r1, hr1, h⟩ := bs h
  obtain rfl := Option.some.inj h
  exact call_wQ [.cl (ok_internal_bytealg_IndexByte a0 a1 _ hr1)] rfl fd_81 (by kernel_rfl)
def S_bytes_Equal (a0 : (List UInt8)) (a1 : (List UInt8)) : Option Bool :=
  some (decide (a0 = a1))
set_option maxRecDepth 100000 in
theorem fd_39 : cfg.funcs 39 = some (bodyOf Tryz.f39, Tryz.f39.ntmps, Tryz.f39.results.toList) := fn_of Tryz.func39 (by kernel_rfl) (by kernel_rfl)
theorem ok_bytes_Equal (a0 : (List UInt8)) (a1 : (List UInt8)) (r : Bool) (h : S_bytes_Equal a0 a1 = some r) : (mach cfg).call 39 [] [.val false [.seq (eL e_u8 a0)], .val false [.seq (eL e_u8 a1)]] = some (.val false [.bool r], []) := by
  unfold S_bytes_Equal at h
  obtain rfl := Option.some.inj h
  exact call_wQ [⟨.bytes (eL e_u8 a0), .s a0, A.bytes⟩, ⟨.bytes (eL e_u8 a1), .s a1, A.bytes⟩, ⟨.eqS a0 a1, .b (decide (a0 = a1)), A.eqS_d⟩] rfl fd_39 (by kernel_rfl)
def S_bytes_Index (a0 : (List UInt8)) (a1 : (List UInt8)) : Option Int :=
  if ((a1.length : Nat) : Int) = 0 then
    some 0
  else
    if ((a1.length : Nat) : Int) = 1 then
      (a1[0]?).bind fun x3 =>
      (S_bytes_IndexByte a0 x3).bind fun r4 =>
      some r4
    else
      if ((a1.length : Nat) : Int) = ((a0.length : Nat) : Int) then
        (S_bytes_Equal a1 a0).bind fun r4 =>
        match r4 with
        | true =>
          some 0
        | false =>
          some (-1)
      else
        if ((a0.length : Nat) : Int) < ((a1.length : Nat) : Int) then
          some (-1)
        else
          none
set_option maxRecDepth 100000 in
theorem fd_71 : cfg.funcs 71 = some (bodyOf Tryz.f71, Tryz.f71.ntmps, Tryz.f71.results.toList) := fn_of Tryz.func71 (by kernel_rfl) (by kernel_rfl)
theorem ok_bytes_Index (a0 : (List UInt8)) (a1 : (List UInt8)) (r : Int) (h : S_bytes_Index a0 a1 = some r) : (mach cfg).call 71 [] [.val false [.seq (eL e_u8 a0)], .val false [.seq (eL e_u8 a1)]] = some (.val false [.int .i64 r], []) := by
  unfold S_bytes_Index at h
  rcases ite_some h with ⟨c1, h⟩ | ⟨c1, h⟩
  ·obtain rfl := Option.some.inj h
   exact call_wQ [.le e_u8 a1, .eT c1] rfl fd_71 (by kernel_rfl)
  ·rcases ite_some h with ⟨c2, h⟩ | ⟨c2, h⟩
   ·obtain ⟨x3, hx3, h⟩ := bs h
    obtain ⟨r4, hr4, h⟩ := bs h
    obtain rfl := Option.some.inj h
    exact call_wQ [.le e_u8 a1, .eF c1, .eT c2, ⟨.nat 0, .n 0, rfl⟩, .ix0 e_u8 hx3, .cl (ok_bytes_IndexByte a0 x3 _ hr4)] rfl fd_71 (by kernel_rfl)
   ·rcases ite_some h with ⟨c3, h⟩ | ⟨c3, h⟩
    ·obtain ⟨r4, hr4, h⟩ := bs h
     let p46 : List (Q cfg) := [.le e_u8 a1, .eF c1, .eF c2, .le e_u8 a0, .eT c3, .cl (ok_bytes_Equal a1 a0 _ hr4)]
     cases r4 with
     | true =>
      try dsimp only at h
      obtain rfl := Option.some.inj h
      exact call_wQ p46 rfl fd_71 (by kernel_rfl)
     | false =>
      try dsimp only at h
      obtain rfl := Option.some.inj h
      exact call_wQ p46 rfl fd_71 (by kernel_rfl)
    ·rcases ite_some h with ⟨c4, h⟩ | ⟨c4, h⟩
     ·obtain rfl := Option.some.inj h
      exact call_wQ [.le e_u8 a1, .eF c1, .eF c2, .le e_u8 a0, .eF c3, .le e_u8 a0, .lT c4] rfl fd_71 (by kernel_rfl)
     ·cases h
end
end Go.Am.Try
