/- The functions of the program in plain Lean, and that the machine answers as they do; conditions at each theorem. -/
import Derived.Test.YtabecknjhcjpfaaGreatDoorTG3
set_option linter.unusedVariables false
set_option linter.unusedSimpArgs false
namespace Go.Am.Try
open Go.Am Go.Proofs
set_option linter.unusedVariables false
set_option maxRecDepth 20000
set_option maxHeartbeats 2000000
noncomputable section
def L_slices_BinarySearchFunc_byte_State_entryAt_1_l0 (a0 : (List GEntry)) (a1 : (List UInt8)) (v2 : Int) : Nat → Int → Int → Option (Int × Int)
  | 0, _, _ => none
  | m + 1, v3, v4 =>
    if v3 < v4 then
      (natO (w64 (bitI .shr .u64 (IntKind.u64.wrap (w64 (v3 + v4))) 1))).bind fun i2 =>
      (a0[i2]?).bind fun x3 =>
      (S_impl_State_entryAt_1 x3 a1).bind fun r4 =>
      if r4 < 0 then
        L_slices_BinarySearchFunc_byte_State_entryAt_1_l0 a0 a1 v2 m (w64 ((w64 (bitI .shr .u64 (IntKind.u64.wrap (w64 (v3 + v4))) 1)) + 1)) v4
      else
        L_slices_BinarySearchFunc_byte_State_entryAt_1_l0 a0 a1 v2 m v3 (w64 (bitI .shr .u64 (IntKind.u64.wrap (w64 (v3 + v4))) 1))
    else
      some (v3, v4)
theorem gl_slices_BinarySearchFunc_byte_State_entryAt_1_l0 (a0 : (List GEntry)) (a1 : (List UInt8)) (v2 : Int) (m : Nat) : ∀ (v3 : Int) (v4 : Int) (o : (Int × Int)), L_slices_BinarySearchFunc_byte_State_entryAt_1_l0 a0 a1 v2 m v3 v4 = some o → (mach cfg).loop 117 (loopB Tryz.f117 0) ⟨[(0, .val false [.seq (eL e_GEntry a0)]), (1, .val false [.seq (eL e_u8 a1)]), (2, .val false [.fn 118 []]), (8, .val false [.int .i64 v2]), (9, .val false [.int .i64 v3]), (10, .val false [.int .i64 v4])], [], 0⟩ = some (match o with | ⟨o_0, o_1⟩ => (.exit 0, (⟨[(0, .val false [.seq (eL e_GEntry a0)]), (1, .val false [.seq (eL e_u8 a1)]), (2, .val false [.fn 118 []]), (8, .val false [.int .i64 v2]), (9, .val false [.int .i64 o_0]), (10, .val false [.int .i64 o_1]), (17, .val false [.bool false])], [], 0⟩ : S))) := by
  induction m with
  | zero => intro v3 v4 o h; cases h
  | succ m ih =>
    intro v3 v4 o h
    rw [L_slices_BinarySearchFunc_byte_State_entryAt_1_l0] at h
    rcases ite_some h with ⟨c1, h⟩ | ⟨c1, h⟩
    ·obtain ⟨i2, hi2, h⟩ := bs h
     obtain ⟨x3, hx3, h⟩ := bs h
     obtain ⟨r4, hr4, h⟩ := bs h
     rcases ite_some h with ⟨c5, h⟩ | ⟨c5, h⟩
     ·exact loop_nQ [.lT c1, .ad v3 v4, ⟨.conv .u64 (w64 (v3 + v4)), .i (IntKind.u64.wrap (w64 (v3 + v4))), rfl⟩, .gTo 0 1 (by decide), ⟨.bit .shr .u64 (IntKind.u64.wrap (w64 (v3 + v4))) 1, .i (bitI .shr .u64 (IntKind.u64.wrap (w64 (v3 + v4))) 1), rfl⟩, ⟨.conv .i64 (bitI .shr .u64 (IntKind.u64.wrap (w64 (v3 + v4))) 1), .i (w64 (bitI .shr .u64 (IntKind.u64.wrap (w64 (v3 + v4))) 1)), rfl⟩, .na hi2, .ix hx3 (eq_GEntry x3), .cl (ok_impl_State_entryAt_1 x3 a1 _ hr4), .lT c5, .ad (w64 (bitI .shr .u64 (IntKind.u64.wrap (w64 (v3 + v4))) 1)) 1] (by kernel_rfl) (ih (w64 ((w64 (bitI .shr .u64 (IntKind.u64.wrap (w64 (v3 + v4))) 1)) + 1)) v4 o h)
     ·exact loop_nQ [.lT c1, .ad v3 v4, ⟨.conv .u64 (w64 (v3 + v4)), .i (IntKind.u64.wrap (w64 (v3 + v4))), rfl⟩, .gTo 0 1 (by decide), ⟨.bit .shr .u64 (IntKind.u64.wrap (w64 (v3 + v4))) 1, .i (bitI .shr .u64 (IntKind.u64.wrap (w64 (v3 + v4))) 1), rfl⟩, ⟨.conv .i64 (bitI .shr .u64 (IntKind.u64.wrap (w64 (v3 + v4))) 1), .i (w64 (bitI .shr .u64 (IntKind.u64.wrap (w64 (v3 + v4))) 1)), rfl⟩, .na hi2, .ix hx3 (eq_GEntry x3), .cl (ok_impl_State_entryAt_1 x3 a1 _ hr4), .lF c5] (by kernel_rfl) (ih v3 (w64 (bitI .shr .u64 (IntKind.u64.wrap (w64 (v3 + v4))) 1)) o h)
    ·obtain rfl := Option.some.inj h
     exact loop_eQ [.lF c1] (by kernel_rfl) (by intro h; cases h)
def T_slices_BinarySearchFunc_byte_State_entryAt_1 (n : Nat) (a0 : (List GEntry)) (a1 : (List UInt8)) : Option (Int × Bool) :=
  (L_slices_BinarySearchFunc_byte_State_entryAt_1_l0 a0 a1 ((a0.length : Nat) : Int) n 0 ((a0.length : Nat) : Int)).bind fun ⟨o1_0, o1_1⟩ =>
  if o1_0 < ((a0.length : Nat) : Int) then
    (natO o1_0).bind fun i3 =>
    (a0[i3]?).bind fun x4 =>
    (S_impl_State_entryAt_1 x4 a1).bind fun r5 =>
    some (o1_0, (decide (r5 = 0)))
  else
    some (o1_0, false)
set_option maxRecDepth 100000 in
theorem fd_117 : cfg.funcs 117 = some (bodyOf Tryz.f117, Tryz.f117.ntmps, Tryz.f117.results.toList) := fn_of Tryz.func117 (by kernel_rfl) (by kernel_rfl)
theorem g_slices_BinarySearchFunc_byte_State_entryAt_1 (n : Nat) (a0 : (List GEntry)) (a1 : (List UInt8)) (r : (Int × Bool)) (h : T_slices_BinarySearchFunc_byte_State_entryAt_1 n a0 a1 = some r) : (mach cfg).call 117 [] [.val false [.seq (eL e_GEntry a0)], .val false [.seq (eL e_u8 a1)], .val false [.fn 118 []]] = some (.tup [(false, [.int .i64 r.1]), (false, [.bool r.2])], []) := by
  unfold T_slices_BinarySearchFunc_byte_State_entryAt_1 at h
  obtain ⟨⟨o1_0, o1_1⟩, ho1, h⟩ := bs h
  try dsimp only at h
  rcases ite_some h with ⟨c2, h⟩ | ⟨c2, h⟩
  ·obtain ⟨i3, hi3, h⟩ := bs h
   obtain ⟨x4, hx4, h⟩ := bs h
   obtain ⟨r5, hr5, h⟩ := bs h
   obtain rfl := Option.some.inj h
   exact call_wQ [.le e_GEntry a0, .lp (gl_slices_BinarySearchFunc_byte_State_entryAt_1_l0 a0 a1 ((a0.length : Nat) : Int) _ 0 ((a0.length : Nat) : Int) _ ho1), .lT c2, .na hi3, .ix hx4 (eq_GEntry x4), .cl (ok_impl_State_entryAt_1 x4 a1 _ hr5), .eD r5 0] rfl fd_117 (by kernel_rfl)
  ·obtain rfl := Option.some.inj h
   exact call_wQ [.le e_GEntry a0, .lp (gl_slices_BinarySearchFunc_byte_State_entryAt_1_l0 a0 a1 ((a0.length : Nat) : Int) _ 0 ((a0.length : Nat) : Int) _ ho1), .lF c2] rfl fd_117 (by kernel_rfl)
theorem eat_cmp (e : GEntry) (x : List UInt8) : S_impl_State_entryAt_1 e x = some (Lib.compareBytes e.Addr x) := rfl
theorem eat_any {a : List GEntry} {x : List UInt8} {v2 : Int} (ha : a.length <= 2 ^ 40) : ∀ (d i j m : Nat), j - i <= d → i <= j → j <= a.length → d < m → ∃ c c' : Nat, c <= a.length ∧ L_slices_BinarySearchFunc_byte_State_entryAt_1_l0 a x v2 m (i : Int) (j : Int) = some ((c : Int), (c' : Int)) := by
  intro d
  induction d with
  | zero =>
    intro i j m hd h1 h3 hm
    obtain ⟨m, rfl, _⟩ := fuel hm
    exact ⟨i, j, by omega, by rw [L_slices_BinarySearchFunc_byte_State_entryAt_1_l0, if_neg (by omega)]⟩
  | succ d ih =>
    intro i j m hd h1 h3 hm
    obtain ⟨m, rfl, hm'⟩ := fuel hm
    by_cases hij : i < j
    · have hk : (i + j) / 2 < a.length := by omega
      rw [L_slices_BinarySearchFunc_byte_State_entryAt_1_l0, if_pos (by omega), mid_eq (by omega), natO_nat, Option.bind_some, get_some hk, Option.bind_some, eat_cmp, Option.bind_some]
      split
      · rw [w64_succ (by omega)]
        exact ih _ _ m (by omega) (by omega) h3 (by omega)
      · exact ih _ _ m (by omega) (by omega) (by omega) (by omega)
    · exact ⟨i, j, by omega, by rw [L_slices_BinarySearchFunc_byte_State_entryAt_1_l0, if_neg (by omega)]⟩
theorem eat_loop {a : List GEntry} {x : List UInt8} {c : Nat} {v2 : Int} (hp : Part (a.map GEntry.Addr) x c) (ha : a.length <= 2 ^ 40) : ∀ (d i j m : Nat), j - i <= d → i <= c → c <= j → j <= a.length → d < m → L_slices_BinarySearchFunc_byte_State_entryAt_1_l0 a x v2 m (i : Int) (j : Int) = some ((c : Int), (c : Int)) := by
  intro d
  induction d with
  | zero =>
    intro i j m hd h1 h2 h3 hm
    obtain ⟨m, rfl, _⟩ := fuel hm
    rw [L_slices_BinarySearchFunc_byte_State_entryAt_1_l0, if_neg (by omega), show i = c by omega, show j = c by omega]
  | succ d ih =>
    intro i j m hd h1 h2 h3 hm
    obtain ⟨m, rfl, hm'⟩ := fuel hm
    by_cases hij : i < j
    · have hk : (i + j) / 2 < a.length := by omega
      rw [L_slices_BinarySearchFunc_byte_State_entryAt_1_l0, if_pos (by omega), mid_eq (by omega), natO_nat, Option.bind_some, get_some hk, Option.bind_some, eat_cmp, Option.bind_some]
      have hq := hp.2 ((i + j) / 2) (by rw [List.length_map]; exact hk)
      rw [List.getElem_map] at hq
      by_cases hl : Op.bytesLess a[(i + j) / 2].Addr x = true
      · rw [if_pos (by rw [cmp_neg]; exact hl), w64_succ (by omega)]
        have := hq.2 hl
        exact ih _ _ m (by omega) (by omega) h2 h3 (by omega)
      · rw [if_neg (by rw [cmp_neg]; exact hl)]
        have : ¬ (i + j) / 2 < c := fun h => hl (hq.1 h)
        exact ih _ _ m (by omega) h1 (by omega) (by omega) (by omega)
    · rw [L_slices_BinarySearchFunc_byte_State_entryAt_1_l0, if_neg (by omega), show i = c by omega, show j = c by omega]
def S_slices_BinarySearchFunc_byte_State_entryAt_1 (a0 : (List GEntry)) (a1 : (List UInt8)) : Option (Int × Bool) := T_slices_BinarySearchFunc_byte_State_entryAt_1 (a0.length + 5) a0 a1
theorem spec_slices_BinarySearchFunc_byte_State_entryAt_1 (a0 : (List GEntry)) (a1 : (List UInt8)) (r : (Int × Bool)) (h : S_slices_BinarySearchFunc_byte_State_entryAt_1 a0 a1 = some r) : ∃ n, T_slices_BinarySearchFunc_byte_State_entryAt_1 n a0 a1 = some r := ⟨_, h⟩
theorem eat_some {a : List GEntry} {x : List UInt8} (ha : a.length <= 2 ^ 40) : ∃ (c : Nat) (b : Bool), S_slices_BinarySearchFunc_byte_State_entryAt_1 a x = some ((c : Int), b) := by
  unfold S_slices_BinarySearchFunc_byte_State_entryAt_1 T_slices_BinarySearchFunc_byte_State_entryAt_1
  obtain ⟨c, c', hc, hl⟩ := eat_any (x := x) (v2 := ((a.length : Nat) : Int)) ha a.length 0 a.length (a.length + 5) (by omega) (by omega) (Nat.le_refl _) (by omega)
  rw [show ((0 : Nat) : Int) = 0 from rfl] at hl
  rw [hl, Option.bind_some]
  dsimp only
  by_cases h : c < a.length
  · rw [if_pos (by omega), natO_nat, Option.bind_some, get_some h, Option.bind_some, eat_cmp, Option.bind_some]
    exact ⟨c, _, rfl⟩
  · rw [if_neg (by omega)]
    exact ⟨c, _, rfl⟩
theorem hasB_iff {l : List GEntry} {a : List UInt8} : hasB l a = true ↔ a ∈ l.map GEntry.Addr := by
  unfold hasB
  rw [List.any_eq_true, List.mem_map]
  constructor
  · rintro ⟨e, he, h⟩; exact ⟨e, he, of_decide_eq_true h⟩
  · rintro ⟨e, he, rfl⟩; exact ⟨e, he, decide_eq_true rfl⟩
theorem eat_eq {a : List GEntry} {x : List UInt8} (ha : a.length <= 2 ^ 40) (h : Asc (a.map GEntry.Addr)) : ∃ c : Nat, Part (a.map GEntry.Addr) x c ∧ S_slices_BinarySearchFunc_byte_State_entryAt_1 a x = some ((c : Int), hasB a x) := by
  obtain ⟨c, hp⟩ := Part.of h x
  refine ⟨c, hp, ?_⟩
  have hm := Part.mem h hp
  have hcl : c <= a.length := by have := hp.1; rwa [List.length_map] at this
  unfold S_slices_BinarySearchFunc_byte_State_entryAt_1 T_slices_BinarySearchFunc_byte_State_entryAt_1
  have hl := eat_loop (v2 := ((a.length : Nat) : Int)) hp ha a.length 0 a.length (a.length + 5) (by omega) (by omega) hcl (Nat.le_refl _) (by omega)
  rw [show ((0 : Nat) : Int) = 0 from rfl] at hl
  rw [hl, Option.bind_some]
  dsimp only
  have hb : hasB a x = decide ((a.map GEntry.Addr)[c]? = some x) := by
    cases hx : hasB a x with
    | true => exact (decide_eq_true (hm.2 (hasB_iff.1 hx))).symm
    | false => exact (decide_eq_false fun h' => by rw [hasB_iff.2 (hm.1 h')] at hx; cases hx).symm
  rw [hb, List.getElem?_map]
  by_cases hc : c < a.length
  · rw [if_pos (by omega), natO_nat, Option.bind_some, get_some hc, Option.bind_some, eat_cmp, Option.bind_some]
    congr 2
    exact decide_eq_decide.2 ((cmp_zero _ _).trans (by simp))
  · rw [if_neg (by omega), List.getElem?_eq_none (by omega)]
    simp
theorem ok_slices_BinarySearchFunc_byte_State_entryAt_1 (a0 : (List GEntry)) (a1 : (List UInt8)) (r : (Int × Bool)) (h : S_slices_BinarySearchFunc_byte_State_entryAt_1 a0 a1 = some r) : (mach cfg).call 117 [] [.val false [.seq (eL e_GEntry a0)], .val false [.seq (eL e_u8 a1)], .val false [.fn 118 []]] = some (.tup [(false, [.int .i64 r.1]), (false, [.bool r.2])], []) := by
  obtain ⟨n, hn⟩ := spec_slices_BinarySearchFunc_byte_State_entryAt_1 a0 a1 r h
  exact g_slices_BinarySearchFunc_byte_State_entryAt_1 n a0 a1 r hn
def S_impl_State_entryAt (a0 : GState) (a1 : (List UInt8)) : Option (Int × Bool) :=
  (S_slices_BinarySearchFunc_byte_State_entryAt_1 a0.Entries a1).bind fun ⟨r1_0, r1_1⟩ =>
  some (r1_0, r1_1)
set_option maxRecDepth 100000 in
theorem fd_74 : cfg.funcs 74 = some (bodyOf Tryz.f74, Tryz.f74.ntmps, Tryz.f74.results.toList) := fn_of Tryz.func74 (by kernel_rfl) (by kernel_rfl)
theorem ok_impl_State_entryAt (a0 : GState) (a1 : (List UInt8)) (r : (Int × Bool)) (h : S_impl_State_entryAt a0 a1 = some r) : (mach cfg).call 74 [] [.val true [.int .i64 a0.Serial, .bool a0.Open, .seq (eL e_u8 a0.Pending), .int .i64 a0.Act, .seq (eL e_GEntry a0.Entries)], .val false [.seq (eL e_u8 a1)]] = some (.tup [(false, [.int .i64 r.1]), (false, [.bool r.2])], []) := by
  unfold S_impl_State_entryAt at h
  obtain ⟨⟨r1_0, r1_1⟩, hr1, h⟩ := bs h
  try dsimp only at h
  obtain rfl := Option.some.inj h
  exact call_wQ [.cl (ok_slices_BinarySearchFunc_byte_State_entryAt_1 a0.Entries a1 _ hr1)] rfl fd_74 (by kernel_rfl)
def L_impl_isState_l0 (v0 : (List GEntry)) (v1 : Int) (a0 : GState) : Nat → Int → Option (Bool ⊕ Int)
  | 0, _ => none
  | m + 1, v2 =>
    if v2 < v1 then
      (natO v2).bind fun i2 =>
      (v0[i2]?).bind fun x3 =>
      (S_impl_isAddr x3.Addr).bind fun r4 =>
      match r4 with
      | true =>
        if 0 < v2 then
          (natO (w64 (v2 - 1))).bind fun i7 =>
          (a0.Entries[i7]?).bind fun x8 =>
          (S_bytes_Compare x8.Addr x3.Addr).bind fun r9 =>
          if 0 <= r9 then
            some (.inl false)
          else
            (S_impl_isKnownMap x3.Val).bind fun r11 =>
            match r11 with
            | true =>
              (S_impl_areAddrs x3.Deps).bind fun r13 =>
              match r13 with
              | true =>
                (S_impl_in x3.Turned 1 a0.Serial).bind fun r15 =>
                match r15 with
                | true =>
                  L_impl_isState_l0 v0 v1 a0 m (w64 (v2 + 1))
                | false =>
                  some (.inl false)
              | false =>
                some (.inl false)
            | false =>
              some (.inl false)
        else
          (S_impl_isKnownMap x3.Val).bind fun r7 =>
          match r7 with
          | true =>
            (S_impl_areAddrs x3.Deps).bind fun r9 =>
            match r9 with
            | true =>
              (S_impl_in x3.Turned 1 a0.Serial).bind fun r11 =>
              match r11 with
              | true =>
                L_impl_isState_l0 v0 v1 a0 m (w64 (v2 + 1))
              | false =>
                some (.inl false)
            | false =>
              some (.inl false)
          | false =>
            some (.inl false)
      | false =>
        some (.inl false)
    else
      some (.inr v2)
theorem gl_impl_isState_l0 (v0 : (List GEntry)) (v1 : Int) (a0 : GState) (m : Nat) : ∀ (v2 : Int) (o : (Bool ⊕ Int)), L_impl_isState_l0 v0 v1 a0 m v2 = some o → (mach cfg).loop 66 (loopB Tryz.f66 0) ⟨[(1, .val false [.ptr 0 0]), (18, .val false [.seq (eL e_GEntry v0)]), (19, .val false [.int .i64 v1]), (20, .val false [.int .i64 v2])], [.var [.int .i64 a0.Serial, .bool a0.Open, .seq (eL e_u8 a0.Pending), .int .i64 a0.Act, .seq (eL e_GEntry a0.Entries)]], 0⟩ = some (match o with | .inl o_0 => (.ret, (⟨[(2, .val false [.bool o_0])], [], 0⟩ : S)) | .inr (o_1) => (.exit 0, (⟨[(1, .val false [.ptr 0 0]), (18, .val false [.seq (eL e_GEntry v0)]), (19, .val false [.int .i64 v1]), (20, .val false [.int .i64 o_1]), (21, .val false [.bool false])], [.var [.int .i64 a0.Serial, .bool a0.Open, .seq (eL e_u8 a0.Pending), .int .i64 a0.Act, .seq (eL e_GEntry a0.Entries)]], 0⟩ : S))) := by
  induction m with
  | zero => intro v2 o h; cases h
  | succ m ih =>
    intro v2 o h
    rw [L_impl_isState_l0] at h
    rcases ite_some h with ⟨c1, h⟩ | ⟨c1, h⟩
    ·obtain ⟨i2, hi2, h⟩ := bs h
     obtain ⟨x3, hx3, h⟩ := bs h
     obtain ⟨r4, hr4, h⟩ := bs h
     cases r4 with
     | true =>
      try dsimp only at h
      rcases ite_some h with ⟨c6, h⟩ | ⟨c6, h⟩
      ·obtain ⟨i7, hi7, h⟩ := bs h
       obtain ⟨x8, hx8, h⟩ := bs h
       obtain ⟨r9, hr9, h⟩ := bs h
       rcases ite_some h with ⟨c10, h⟩ | ⟨c10, h⟩
       ·obtain rfl := Option.some.inj h
        exact loop_eQ [.lT c1, .na hi2, .ix hx3 (eq_GEntry x3), .cl (ok_impl_isAddr x3.Addr _ hr4), .nt true, .lT c6, .su v2 1, .na hi7, .ix hx8 (eq_GEntry x8), .cl (ok_bytes_Compare x8.Addr x3.Addr _ hr9), .gT c10] (by kernel_rfl) (by intro h; cases h)
       ·obtain ⟨r11, hr11, h⟩ := bs h
        cases r11 with
        | true =>
         try dsimp only at h
         obtain ⟨r13, hr13, h⟩ := bs h
         cases r13 with
         | true =>
          try dsimp only at h
          obtain ⟨r15, hr15, h⟩ := bs h
          cases r15 with
          | true =>
           try dsimp only at h
           exact loop_nQ [.lT c1, .na hi2, .ix hx3 (eq_GEntry x3), .cl (ok_impl_isAddr x3.Addr _ hr4), .nt true, .lT c6, .su v2 1, .na hi7, .ix hx8 (eq_GEntry x8), .cl (ok_bytes_Compare x8.Addr x3.Addr _ hr9), .gF c10, .cl (ok_impl_isKnownMap x3.Val _ hr11), .nt true, .cl (ok_impl_areAddrs x3.Deps _ hr13), .nt true, .cl (ok_impl_in x3.Turned 1 a0.Serial _ hr15), .nt true, .ad v2 1] (by kernel_rfl) (ih (w64 (v2 + 1)) o h)
          | false =>
           try dsimp only at h
           obtain rfl := Option.some.inj h
           exact loop_eQ [.lT c1, .na hi2, .ix hx3 (eq_GEntry x3), .cl (ok_impl_isAddr x3.Addr _ hr4), .nt true, .lT c6, .su v2 1, .na hi7, .ix hx8 (eq_GEntry x8), .cl (ok_bytes_Compare x8.Addr x3.Addr _ hr9), .gF c10, .cl (ok_impl_isKnownMap x3.Val _ hr11), .nt true, .cl (ok_impl_areAddrs x3.Deps _ hr13), .nt true, .cl (ok_impl_in x3.Turned 1 a0.Serial _ hr15), .nt false] (by kernel_rfl) (by intro h; cases h)
         | false =>
          try dsimp only at h
          obtain rfl := Option.some.inj h
          exact loop_eQ [.lT c1, .na hi2, .ix hx3 (eq_GEntry x3), .cl (ok_impl_isAddr x3.Addr _ hr4), .nt true, .lT c6, .su v2 1, .na hi7, .ix hx8 (eq_GEntry x8), .cl (ok_bytes_Compare x8.Addr x3.Addr _ hr9), .gF c10, .cl (ok_impl_isKnownMap x3.Val _ hr11), .nt true, .cl (ok_impl_areAddrs x3.Deps _ hr13), .nt false] (by kernel_rfl) (by intro h; cases h)
        | false =>
         try dsimp only at h
         obtain rfl := Option.some.inj h
         exact loop_eQ [.lT c1, .na hi2, .ix hx3 (eq_GEntry x3), .cl (ok_impl_isAddr x3.Addr _ hr4), .nt true, .lT c6, .su v2 1, .na hi7, .ix hx8 (eq_GEntry x8), .cl (ok_bytes_Compare x8.Addr x3.Addr _ hr9), .gF c10, .cl (ok_impl_isKnownMap x3.Val _ hr11), .nt false] (by kernel_rfl) (by intro h; cases h)
      ·obtain ⟨r7, hr7, h⟩ := bs h
       cases r7 with
       | true =>
        try dsimp only at h
        obtain ⟨r9, hr9, h⟩ := bs h
        cases r9 with
        | true =>
         try dsimp only at h
         obtain ⟨r11, hr11, h⟩ := bs h
         cases r11 with
         | true =>
          try dsimp only at h
          exact loop_nQ [.lT c1, .na hi2, .ix hx3 (eq_GEntry x3), .cl (ok_impl_isAddr x3.Addr _ hr4), .nt true, .lF c6, .cl (ok_impl_isKnownMap x3.Val _ hr7), .nt true, .cl (ok_impl_areAddrs x3.Deps _ hr9), .nt true, .cl (ok_impl_in x3.Turned 1 a0.Serial _ hr11), .nt true, .ad v2 1] (by kernel_rfl) (ih (w64 (v2 + 1)) o h)
         | false =>
          try dsimp only at h
          obtain rfl := Option.some.inj h
          exact loop_eQ [.lT c1, .na hi2, .ix hx3 (eq_GEntry x3), .cl (ok_impl_isAddr x3.Addr _ hr4), .nt true, .lF c6, .cl (ok_impl_isKnownMap x3.Val _ hr7), .nt true, .cl (ok_impl_areAddrs x3.Deps _ hr9), .nt true, .cl (ok_impl_in x3.Turned 1 a0.Serial _ hr11), .nt false] (by kernel_rfl) (by intro h; cases h)
        | false =>
         try dsimp only at h
         obtain rfl := Option.some.inj h
         exact loop_eQ [.lT c1, .na hi2, .ix hx3 (eq_GEntry x3), .cl (ok_impl_isAddr x3.Addr _ hr4), .nt true, .lF c6, .cl (ok_impl_isKnownMap x3.Val _ hr7), .nt true, .cl (ok_impl_areAddrs x3.Deps _ hr9), .nt false] (by kernel_rfl) (by intro h; cases h)
       | false =>
        try dsimp only at h
        obtain rfl := Option.some.inj h
        exact loop_eQ [.lT c1, .na hi2, .ix hx3 (eq_GEntry x3), .cl (ok_impl_isAddr x3.Addr _ hr4), .nt true, .lF c6, .cl (ok_impl_isKnownMap x3.Val _ hr7), .nt false] (by kernel_rfl) (by intro h; cases h)
     | false =>
      try dsimp only at h
      obtain rfl := Option.some.inj h
      exact loop_eQ [.lT c1, .na hi2, .ix hx3 (eq_GEntry x3), .cl (ok_impl_isAddr x3.Addr _ hr4), .nt false] (by kernel_rfl) (by intro h; cases h)
    ·obtain rfl := Option.some.inj h
     exact loop_eQ [.lF c1] (by kernel_rfl) (by intro h; cases h)
def T_impl_isState (n : Nat) (a0 : GState) : Option Bool :=
  (S_impl_in a0.Serial 0 1000000).bind fun r1 =>
  match r1 with
  | true =>
    if 16 < ((a0.Entries.length : Nat) : Int) then
      some false
    else
      (L_impl_isState_l0 a0.Entries ((a0.Entries.length : Nat) : Int) a0 n 0).bind fun o4 =>
      match o4 with
      | .inl o4_0 =>
        some o4_0
      | .inr (o4_1) =>
        if ((a0.Pending.length : Nat) : Int) = 0 then
          some (decide (a0.Act = 0))
        else
          (S_impl_State_entryAt a0 a0.Pending).bind fun ⟨r6_0, r6_1⟩ =>
          match a0.Open with
          | true =>
            (S_impl_isAddr a0.Pending).bind fun r8 =>
            match r8 with
            | true =>
              (S_impl_in a0.Act 1 4).bind fun r10 =>
              match r10 with
              | true =>
                match r6_1 with
                | true =>
                  if a0.Act = 1 then
                    some false
                  else
                    some true
                | false =>
                  if a0.Act = 1 then
                    some true
                  else
                    some false
              | false =>
                some false
            | false =>
              some false
          | false =>
            some false
  | false =>
    some false
set_option maxRecDepth 100000 in
theorem fd_66 : cfg.funcs 66 = some (bodyOf Tryz.f66, Tryz.f66.ntmps, Tryz.f66.results.toList) := fn_of Tryz.func66 (by kernel_rfl) (by kernel_rfl)
theorem g_impl_isState (n : Nat) (a0 : GState) (r : Bool) (h : T_impl_isState n a0 = some r) : (mach cfg).call 66 [] [.val true [.int .i64 a0.Serial, .bool a0.Open, .seq (eL e_u8 a0.Pending), .int .i64 a0.Act, .seq (eL e_GEntry a0.Entries)]] = some (.val false [.bool r], []) := by
  unfold T_impl_isState at h
  obtain ⟨r1, hr1, h⟩ := bs h
  cases r1 with
  | true =>
   try dsimp only at h
   rcases ite_some h with ⟨c3, h⟩ | ⟨c3, h⟩
   ·obtain rfl := Option.some.inj h
    exact call_wQ [.cl (ok_impl_in a0.Serial 0 1000000 _ hr1), .nt true, .le e_GEntry a0.Entries, .lT c3] rfl fd_66 (by kernel_rfl)
   ·obtain ⟨o4, ho4, h⟩ := bs h
    rcases o4 with o4_0 | o4_1
    · try dsimp only at h
      obtain rfl := Option.some.inj h
      exact call_wQ [.cl (ok_impl_in a0.Serial 0 1000000 _ hr1), .nt true, .le e_GEntry a0.Entries, .lF c3, .le e_GEntry a0.Entries, .lp (gl_impl_isState_l0 a0.Entries ((a0.Entries.length : Nat) : Int) a0 _ 0 _ ho4)] rfl fd_66 (by kernel_rfl)
    · try dsimp only at h
      rcases ite_some h with ⟨c5, h⟩ | ⟨c5, h⟩
      ·obtain rfl := Option.some.inj h
       exact call_wQ [.cl (ok_impl_in a0.Serial 0 1000000 _ hr1), .nt true, .le e_GEntry a0.Entries, .lF c3, .le e_GEntry a0.Entries, .lp (gl_impl_isState_l0 a0.Entries ((a0.Entries.length : Nat) : Int) a0 _ 0 _ ho4), .le e_u8 a0.Pending, .eT c5, .eD a0.Act 0] rfl fd_66 (by kernel_rfl)
      ·obtain ⟨⟨r6_0, r6_1⟩, hr6, h⟩ := bs h
       try dsimp only at h
       cases c7 : a0.Open with
       | true =>
        rw [c7] at h
        try dsimp only at h
        obtain ⟨r8, hr8, h⟩ := bs h
        cases r8 with
        | true =>
         try dsimp only at h
         obtain ⟨r10, hr10, h⟩ := bs h
         cases r10 with
         | true =>
          try dsimp only at h
          cases r6_1 with
          | true =>
           try dsimp only at h
           rcases ite_some h with ⟨c13, h⟩ | ⟨c13, h⟩
           ·obtain rfl := Option.some.inj h
            exact call_wQ [.cl (ok_impl_in a0.Serial 0 1000000 _ hr1), .nt true, .le e_GEntry a0.Entries, .lF c3, .le e_GEntry a0.Entries, ⟨.loop 66 (loopB Tryz.f66 0) ⟨[(1, .val false [.ptr 0 0]), (18, .val false [.seq (eL e_GEntry a0.Entries)]), (19, .val false [.int .i64 ((a0.Entries.length : Nat) : Int)]), (20, .val false [.int .i64 0])], [.var [.int .i64 a0.Serial, .bool true, .seq (eL e_u8 a0.Pending), .int .i64 a0.Act, .seq (eL e_GEntry a0.Entries)]], 0⟩, .x (.exit 0) ⟨[(1, .val false [.ptr 0 0]), (18, .val false [.seq (eL e_GEntry a0.Entries)]), (19, .val false [.int .i64 ((a0.Entries.length : Nat) : Int)]), (20, .val false [.int .i64 o4_1]), (21, .val false [.bool false])], [.var [.int .i64 a0.Serial, .bool true, .seq (eL e_u8 a0.Pending), .int .i64 a0.Act, .seq (eL e_GEntry a0.Entries)]], 0⟩, (A.loop (by have q := gl_impl_isState_l0 a0.Entries ((a0.Entries.length : Nat) : Int) a0 _ 0 _ ho4; rw [c7] at q; exact q))⟩, .le e_u8 a0.Pending, .eF c5, ⟨.call 74 [] [.val true [.int .i64 a0.Serial, .bool true, .seq (eL e_u8 a0.Pending), .int .i64 a0.Act, .seq (eL e_GEntry a0.Entries)], .val false [.seq (eL e_u8 a0.Pending)]], .r (.tup [(false, [.int .i64 r6_0]), (false, [.bool true])]) [], (A.call (by have q := ok_impl_State_entryAt a0 a0.Pending _ hr6; rw [c7] at q; exact q))⟩, .cl (ok_impl_isAddr a0.Pending _ hr8), .cl (ok_impl_in a0.Act 1 4 _ hr10), .eT c13, .nt true, ⟨.eqB true false, .b false, rfl⟩] rfl fd_66 (by kernel_rfl)
           ·obtain rfl := Option.some.inj h
            exact call_wQ [.cl (ok_impl_in a0.Serial 0 1000000 _ hr1), .nt true, .le e_GEntry a0.Entries, .lF c3, .le e_GEntry a0.Entries, ⟨.loop 66 (loopB Tryz.f66 0) ⟨[(1, .val false [.ptr 0 0]), (18, .val false [.seq (eL e_GEntry a0.Entries)]), (19, .val false [.int .i64 ((a0.Entries.length : Nat) : Int)]), (20, .val false [.int .i64 0])], [.var [.int .i64 a0.Serial, .bool true, .seq (eL e_u8 a0.Pending), .int .i64 a0.Act, .seq (eL e_GEntry a0.Entries)]], 0⟩, .x (.exit 0) ⟨[(1, .val false [.ptr 0 0]), (18, .val false [.seq (eL e_GEntry a0.Entries)]), (19, .val false [.int .i64 ((a0.Entries.length : Nat) : Int)]), (20, .val false [.int .i64 o4_1]), (21, .val false [.bool false])], [.var [.int .i64 a0.Serial, .bool true, .seq (eL e_u8 a0.Pending), .int .i64 a0.Act, .seq (eL e_GEntry a0.Entries)]], 0⟩, (A.loop (by have q := gl_impl_isState_l0 a0.Entries ((a0.Entries.length : Nat) : Int) a0 _ 0 _ ho4; rw [c7] at q; exact q))⟩, .le e_u8 a0.Pending, .eF c5, ⟨.call 74 [] [.val true [.int .i64 a0.Serial, .bool true, .seq (eL e_u8 a0.Pending), .int .i64 a0.Act, .seq (eL e_GEntry a0.Entries)], .val false [.seq (eL e_u8 a0.Pending)]], .r (.tup [(false, [.int .i64 r6_0]), (false, [.bool true])]) [], (A.call (by have q := ok_impl_State_entryAt a0 a0.Pending _ hr6; rw [c7] at q; exact q))⟩, .cl (ok_impl_isAddr a0.Pending _ hr8), .cl (ok_impl_in a0.Act 1 4 _ hr10), .eF c13, .nt false, ⟨.eqB true true, .b true, rfl⟩] rfl fd_66 (by kernel_rfl)
          | false =>
           try dsimp only at h
           rcases ite_some h with ⟨c13, h⟩ | ⟨c13, h⟩
           ·obtain rfl := Option.some.inj h
            exact call_wQ [.cl (ok_impl_in a0.Serial 0 1000000 _ hr1), .nt true, .le e_GEntry a0.Entries, .lF c3, .le e_GEntry a0.Entries, ⟨.loop 66 (loopB Tryz.f66 0) ⟨[(1, .val false [.ptr 0 0]), (18, .val false [.seq (eL e_GEntry a0.Entries)]), (19, .val false [.int .i64 ((a0.Entries.length : Nat) : Int)]), (20, .val false [.int .i64 0])], [.var [.int .i64 a0.Serial, .bool true, .seq (eL e_u8 a0.Pending), .int .i64 a0.Act, .seq (eL e_GEntry a0.Entries)]], 0⟩, .x (.exit 0) ⟨[(1, .val false [.ptr 0 0]), (18, .val false [.seq (eL e_GEntry a0.Entries)]), (19, .val false [.int .i64 ((a0.Entries.length : Nat) : Int)]), (20, .val false [.int .i64 o4_1]), (21, .val false [.bool false])], [.var [.int .i64 a0.Serial, .bool true, .seq (eL e_u8 a0.Pending), .int .i64 a0.Act, .seq (eL e_GEntry a0.Entries)]], 0⟩, (A.loop (by have q := gl_impl_isState_l0 a0.Entries ((a0.Entries.length : Nat) : Int) a0 _ 0 _ ho4; rw [c7] at q; exact q))⟩, .le e_u8 a0.Pending, .eF c5, ⟨.call 74 [] [.val true [.int .i64 a0.Serial, .bool true, .seq (eL e_u8 a0.Pending), .int .i64 a0.Act, .seq (eL e_GEntry a0.Entries)], .val false [.seq (eL e_u8 a0.Pending)]], .r (.tup [(false, [.int .i64 r6_0]), (false, [.bool false])]) [], (A.call (by have q := ok_impl_State_entryAt a0 a0.Pending _ hr6; rw [c7] at q; exact q))⟩, .cl (ok_impl_isAddr a0.Pending _ hr8), .cl (ok_impl_in a0.Act 1 4 _ hr10), .eT c13, .nt true, ⟨.eqB false false, .b true, rfl⟩] rfl fd_66 (by kernel_rfl)
           ·obtain rfl := Option.some.inj h
            exact call_wQ [.cl (ok_impl_in a0.Serial 0 1000000 _ hr1), .nt true, .le e_GEntry a0.Entries, .lF c3, .le e_GEntry a0.Entries, ⟨.loop 66 (loopB Tryz.f66 0) ⟨[(1, .val false [.ptr 0 0]), (18, .val false [.seq (eL e_GEntry a0.Entries)]), (19, .val false [.int .i64 ((a0.Entries.length : Nat) : Int)]), (20, .val false [.int .i64 0])], [.var [.int .i64 a0.Serial, .bool true, .seq (eL e_u8 a0.Pending), .int .i64 a0.Act, .seq (eL e_GEntry a0.Entries)]], 0⟩, .x (.exit 0) ⟨[(1, .val false [.ptr 0 0]), (18, .val false [.seq (eL e_GEntry a0.Entries)]), (19, .val false [.int .i64 ((a0.Entries.length : Nat) : Int)]), (20, .val false [.int .i64 o4_1]), (21, .val false [.bool false])], [.var [.int .i64 a0.Serial, .bool true, .seq (eL e_u8 a0.Pending), .int .i64 a0.Act, .seq (eL e_GEntry a0.Entries)]], 0⟩, (A.loop (by have q := gl_impl_isState_l0 a0.Entries ((a0.Entries.length : Nat) : Int) a0 _ 0 _ ho4; rw [c7] at q; exact q))⟩, .le e_u8 a0.Pending, .eF c5, ⟨.call 74 [] [.val true [.int .i64 a0.Serial, .bool true, .seq (eL e_u8 a0.Pending), .int .i64 a0.Act, .seq (eL e_GEntry a0.Entries)], .val false [.seq (eL e_u8 a0.Pending)]], .r (.tup [(false, [.int .i64 r6_0]), (false, [.bool false])]) [], (A.call (by have q := ok_impl_State_entryAt a0 a0.Pending _ hr6; rw [c7] at q; exact q))⟩, .cl (ok_impl_isAddr a0.Pending _ hr8), .cl (ok_impl_in a0.Act 1 4 _ hr10), .eF c13, .nt false, ⟨.eqB false true, .b false, rfl⟩] rfl fd_66 (by kernel_rfl)
         | false =>
          try dsimp only at h
          obtain rfl := Option.some.inj h
          exact call_wQ [.cl (ok_impl_in a0.Serial 0 1000000 _ hr1), .nt true, .le e_GEntry a0.Entries, .lF c3, .le e_GEntry a0.Entries, ⟨.loop 66 (loopB Tryz.f66 0) ⟨[(1, .val false [.ptr 0 0]), (18, .val false [.seq (eL e_GEntry a0.Entries)]), (19, .val false [.int .i64 ((a0.Entries.length : Nat) : Int)]), (20, .val false [.int .i64 0])], [.var [.int .i64 a0.Serial, .bool true, .seq (eL e_u8 a0.Pending), .int .i64 a0.Act, .seq (eL e_GEntry a0.Entries)]], 0⟩, .x (.exit 0) ⟨[(1, .val false [.ptr 0 0]), (18, .val false [.seq (eL e_GEntry a0.Entries)]), (19, .val false [.int .i64 ((a0.Entries.length : Nat) : Int)]), (20, .val false [.int .i64 o4_1]), (21, .val false [.bool false])], [.var [.int .i64 a0.Serial, .bool true, .seq (eL e_u8 a0.Pending), .int .i64 a0.Act, .seq (eL e_GEntry a0.Entries)]], 0⟩, (A.loop (by have q := gl_impl_isState_l0 a0.Entries ((a0.Entries.length : Nat) : Int) a0 _ 0 _ ho4; rw [c7] at q; exact q))⟩, .le e_u8 a0.Pending, .eF c5, ⟨.call 74 [] [.val true [.int .i64 a0.Serial, .bool true, .seq (eL e_u8 a0.Pending), .int .i64 a0.Act, .seq (eL e_GEntry a0.Entries)], .val false [.seq (eL e_u8 a0.Pending)]], .r (.tup [(false, [.int .i64 r6_0]), (false, [.bool r6_1])]) [], (A.call (by have q := ok_impl_State_entryAt a0 a0.Pending _ hr6; rw [c7] at q; exact q))⟩, .cl (ok_impl_isAddr a0.Pending _ hr8), .cl (ok_impl_in a0.Act 1 4 _ hr10)] rfl fd_66 (by kernel_rfl)
        | false =>
         try dsimp only at h
         obtain rfl := Option.some.inj h
         exact call_wQ [.cl (ok_impl_in a0.Serial 0 1000000 _ hr1), .nt true, .le e_GEntry a0.Entries, .lF c3, .le e_GEntry a0.Entries, ⟨.loop 66 (loopB Tryz.f66 0) ⟨[(1, .val false [.ptr 0 0]), (18, .val false [.seq (eL e_GEntry a0.Entries)]), (19, .val false [.int .i64 ((a0.Entries.length : Nat) : Int)]), (20, .val false [.int .i64 0])], [.var [.int .i64 a0.Serial, .bool true, .seq (eL e_u8 a0.Pending), .int .i64 a0.Act, .seq (eL e_GEntry a0.Entries)]], 0⟩, .x (.exit 0) ⟨[(1, .val false [.ptr 0 0]), (18, .val false [.seq (eL e_GEntry a0.Entries)]), (19, .val false [.int .i64 ((a0.Entries.length : Nat) : Int)]), (20, .val false [.int .i64 o4_1]), (21, .val false [.bool false])], [.var [.int .i64 a0.Serial, .bool true, .seq (eL e_u8 a0.Pending), .int .i64 a0.Act, .seq (eL e_GEntry a0.Entries)]], 0⟩, (A.loop (by have q := gl_impl_isState_l0 a0.Entries ((a0.Entries.length : Nat) : Int) a0 _ 0 _ ho4; rw [c7] at q; exact q))⟩, .le e_u8 a0.Pending, .eF c5, ⟨.call 74 [] [.val true [.int .i64 a0.Serial, .bool true, .seq (eL e_u8 a0.Pending), .int .i64 a0.Act, .seq (eL e_GEntry a0.Entries)], .val false [.seq (eL e_u8 a0.Pending)]], .r (.tup [(false, [.int .i64 r6_0]), (false, [.bool r6_1])]) [], (A.call (by have q := ok_impl_State_entryAt a0 a0.Pending _ hr6; rw [c7] at q; exact q))⟩, .cl (ok_impl_isAddr a0.Pending _ hr8)] rfl fd_66 (by kernel_rfl)
       | false =>
        rw [c7] at h
        try dsimp only at h
        obtain rfl := Option.some.inj h
        exact call_wQ [.cl (ok_impl_in a0.Serial 0 1000000 _ hr1), .nt true, .le e_GEntry a0.Entries, .lF c3, .le e_GEntry a0.Entries, ⟨.loop 66 (loopB Tryz.f66 0) ⟨[(1, .val false [.ptr 0 0]), (18, .val false [.seq (eL e_GEntry a0.Entries)]), (19, .val false [.int .i64 ((a0.Entries.length : Nat) : Int)]), (20, .val false [.int .i64 0])], [.var [.int .i64 a0.Serial, .bool false, .seq (eL e_u8 a0.Pending), .int .i64 a0.Act, .seq (eL e_GEntry a0.Entries)]], 0⟩, .x (.exit 0) ⟨[(1, .val false [.ptr 0 0]), (18, .val false [.seq (eL e_GEntry a0.Entries)]), (19, .val false [.int .i64 ((a0.Entries.length : Nat) : Int)]), (20, .val false [.int .i64 o4_1]), (21, .val false [.bool false])], [.var [.int .i64 a0.Serial, .bool false, .seq (eL e_u8 a0.Pending), .int .i64 a0.Act, .seq (eL e_GEntry a0.Entries)]], 0⟩, (A.loop (by have q := gl_impl_isState_l0 a0.Entries ((a0.Entries.length : Nat) : Int) a0 _ 0 _ ho4; rw [c7] at q; exact q))⟩, .le e_u8 a0.Pending, .eF c5, ⟨.call 74 [] [.val true [.int .i64 a0.Serial, .bool false, .seq (eL e_u8 a0.Pending), .int .i64 a0.Act, .seq (eL e_GEntry a0.Entries)], .val false [.seq (eL e_u8 a0.Pending)]], .r (.tup [(false, [.int .i64 r6_0]), (false, [.bool r6_1])]) [], (A.call (by have q := ok_impl_State_entryAt a0 a0.Pending _ hr6; rw [c7] at q; exact q))⟩] rfl fd_66 (by kernel_rfl)
  | false =>
   try dsimp only at h
   obtain rfl := Option.some.inj h
   exact call_wQ [.cl (ok_impl_in a0.Serial 0 1000000 _ hr1), .nt false] rfl fd_66 (by kernel_rfl)
theorem kV_eq {v : GValue} (h : vsz v <= 2 ^ 20) : S_impl_isValue v = some (valB v) := by
  unfold S_impl_isValue S_impl_isShaped S_impl_Value_parts valB
  rw [if_pos ⟨h, by decide, by decide⟩, Option.bind_some]
  rw [show (5 : Int).toNat = 5 from rfl]
  cases hs : shV 5 v
  · simp
  · dsimp only
    rw [if_pos h, Option.bind_some]
    simp
theorem implKm_eq {v : GValue} (h : vsz v <= 2 ^ 20) : S_impl_isKnownMap v = some (kmapB v) := by
  unfold S_impl_isKnownMap S_impl_isMap kmapB
  by_cases h5 : v.Kind = 5
  · rw [if_pos h5, kV_eq h, Option.bind_some, decide_eq_true h5, Bool.true_and]
    cases hv : valB v with
    | false => rfl
    | true =>
      simp only [Bool.true_and]
      unfold S_impl_Value_known
      rw [if_pos (by omega)]; rfl
  · rw [if_neg h5, decide_eq_false h5]; rfl
theorem implAds_eq {l : List (List UInt8)} (h : bsz l <= 2 ^ 20) : S_impl_areAddrs l = some (addrsB l) := if_pos h
theorem isState_loop {s : GState} (hs : eszs s.Entries <= 2 ^ 20) : ∀ (d i m : Nat), i + d = s.Entries.length → d < m → ∃ z, L_impl_isState_l0 s.Entries ((s.Entries.length : Nat) : Int) s m (i : Int) = some (if gAll (entB s.Serial) GEntry.Addr s.Entries i d = true then .inr z else .inl false) := by
  have hlen := eszs_len s.Entries
  intro d
  induction d with
  | zero =>
    intro i m hi hm
    obtain ⟨m, rfl, _⟩ := fuel hm
    exact ⟨_, by rw [L_impl_isState_l0, if_neg (by omega)]; rfl⟩
  | succ d ih =>
    intro i m hi hm
    obtain ⟨m, rfl, hm'⟩ := fuel hm
    have hil : i < s.Entries.length := by omega
    have hz0 := eszs_mem (List.getElem_mem hil)
    obtain ⟨z, hz⟩ := ih (i + 1) m (by omega) (by omega)
    rw [L_impl_isState_l0, if_pos (by omega), natO_nat, Option.bind_some, get_some hil, Option.bind_some, gAll_succ]
    unfold esz at hz0
    rw [implAd_eq (by omega), Option.bind_some, implKm_eq (by omega), Option.bind_some, implAds_eq (by omega), Option.bind_some, in_eq, Option.bind_some, w64_succ (by omega), hz]
    generalize gAll _ GEntry.Addr s.Entries (i + 1) d = g
    by_cases h0 : 0 < i
    · rw [gOk_eq hil h0]
      unfold entB
      cases addrB s.Entries[i].Addr with
      | false => exact ⟨0, rfl⟩
      | true =>
        dsimp only
        rw [if_pos (by omega), w64_pred (by omega) h0, natO_nat, Option.bind_some, get_some (show i - 1 < s.Entries.length by omega), Option.bind_some]
        unfold S_bytes_Compare S_internal_bytealg_Compare
        simp only [Option.bind_some]
        have hc := less_cmp s.Entries[i - 1].Addr s.Entries[i].Addr
        generalize Lib.compareBytes s.Entries[i - 1].Addr s.Entries[i].Addr = q at hc ⊢
        generalize Op.bytesLess s.Entries[i - 1].Addr s.Entries[i].Addr = b at hc ⊢
        refine ⟨z, ?_⟩
        cases b with
        | true =>
          rw [if_neg (by rw [hc]; exact fun h => h rfl)]
          cases kmapB s.Entries[i].Val <;> cases addrsB s.Entries[i].Deps <;> cases decide (1 <= s.Entries[i].Turned ∧ s.Entries[i].Turned <= s.Serial) <;> simp
        | false =>
          rw [if_pos (by rw [hc]; simp)]
          simp
    · obtain rfl : i = 0 := by omega
      rw [gOk_zero hil]
      unfold entB
      cases addrB s.Entries[0].Addr with
      | false => exact ⟨0, rfl⟩
      | true =>
        dsimp only
        rw [if_neg (by omega)]
        refine ⟨z, ?_⟩
        cases kmapB s.Entries[0].Val <;> cases addrsB s.Entries[0].Deps <;> cases decide (1 <= s.Entries[0].Turned ∧ s.Entries[0].Turned <= s.Serial) <;> simp
def S_impl_isState (a0 : GState) : Option Bool := if ssz a0 <= 2 ^ 20 then some (stB a0) else none
theorem implSt_eq {s : GState} (h : ssz s <= 2 ^ 20) : S_impl_isState s = some (stB s) := if_pos h
theorem isState_val {s : GState} (h : ssz s <= 2 ^ 20) : T_impl_isState (s.Entries.length + 1) s = some (stB s) := by
  have hlen := eszs_len s.Entries
  unfold ssz at h
  obtain ⟨z, hz⟩ := isState_loop (s := s) (by omega) s.Entries.length 0 (s.Entries.length + 1) (by omega) (by omega)
  rw [show ((0 : Nat) : Int) = 0 from rfl] at hz
  unfold T_impl_isState
  rw [in_eq, Option.bind_some]
  unfold stB
  by_cases h1 : (0 : Int) <= s.Serial ∧ s.Serial <= 1000000
  · rw [decide_eq_true h1]
    dsimp only
    by_cases h2 : (16 : Int) < ((s.Entries.length : Nat) : Int)
    · rw [if_pos h2, decide_eq_false (p := 0 <= s.Serial ∧ s.Serial <= 1000000 ∧ s.Entries.length <= 16) (by omega)]; rfl
    rw [if_neg h2, hz, decide_eq_true (p := 0 <= s.Serial ∧ s.Serial <= 1000000 ∧ s.Entries.length <= 16) (by omega), Bool.true_and]
    have he : entsB s = gAll (entB s.Serial) GEntry.Addr s.Entries 0 s.Entries.length := rfl
    cases hg : gAll (entB s.Serial) GEntry.Addr s.Entries 0 s.Entries.length with
    | false => rw [he, hg]; rfl
    | true =>
      rw [he, hg, Bool.true_and]
      simp only [if_true, Option.bind_some]
      unfold pendB
      by_cases hp : s.Pending = []
      · rw [if_pos (by rw [hp]; rfl), if_pos hp]
      · have hp0 : ¬ ((s.Pending.length : Nat) : Int) = 0 := fun e => hp (List.eq_nil_of_length_eq_zero (by omega))
        rw [if_neg hp0, if_neg hp]
        unfold S_impl_State_entryAt
        obtain ⟨c, _, hc⟩ := eat_eq (x := s.Pending) (a := s.Entries) (by omega) (gAll_asc hg)
        rw [hc, Option.bind_some, Option.bind_some]
        dsimp only
        rw [implAd_eq (by omega), Option.bind_some, in_eq, Option.bind_some]
        cases s.Open
        · rfl
        cases addrB s.Pending
        · rfl
        by_cases ha : (1 : Int) <= s.Act ∧ s.Act <= 4
        · rw [decide_eq_true ha]
          by_cases h1 : s.Act = 1 <;> cases hasB s.Entries s.Pending <;> simp [h1]
        · rw [decide_eq_false ha]; rfl
  · rw [decide_eq_false h1, decide_eq_false (p := 0 <= s.Serial ∧ s.Serial <= 1000000 ∧ s.Entries.length <= 16) (fun h => h1 ⟨h.1, h.2.1⟩)]; rfl
theorem spec_impl_isState (a0 : GState) (r : Bool) (h : S_impl_isState a0 = some r) : ∃ n, T_impl_isState n a0 = some r := by
  unfold S_impl_isState at h
  obtain ⟨ha, h⟩ := need_c h
  exact ⟨_, by rw [<- h]; exact isState_val ha⟩
theorem ok_impl_isState (a0 : GState) (r : Bool) (h : S_impl_isState a0 = some r) : (mach cfg).call 66 [] [.val true [.int .i64 a0.Serial, .bool a0.Open, .seq (eL e_u8 a0.Pending), .int .i64 a0.Act, .seq (eL e_GEntry a0.Entries)]] = some (.val false [.bool r], []) := by
  obtain ⟨n, hn⟩ := spec_impl_isState a0 r h
  exact g_impl_isState n a0 r hn
def S_impl_copyBytes (a0 : (List UInt8)) : Option (List UInt8) :=
  if roomP 1 (0 + a0.length) then
  some a0
  else none
set_option maxRecDepth 100000 in
theorem fd_68 : cfg.funcs 68 = some (bodyOf Tryz.f68, Tryz.f68.ntmps, Tryz.f68.results.toList) := fn_of Tryz.func68 (by kernel_rfl) (by kernel_rfl)
theorem ok_impl_copyBytes (a0 : (List UInt8)) (r : (List UInt8)) (h : S_impl_copyBytes a0 = some r) : (mach cfg).call 68 [] [.val false [.seq (eL e_u8 a0)]] = some (.val false [.own 1 (eL e_u8 r)], []) := by
  unfold S_impl_copyBytes at h
  obtain ⟨n1, h⟩ := need_some h
  obtain rfl := Option.some.inj h
  exact call_wQ [⟨.room 1 (eL e_u8 []) (eL e_u8 a0), .b true, (A.room n1)⟩, ⟨.uni 1 (eL e_u8 a0), .b true, (A.uni E_u8)⟩, ⟨.app (eL e_u8 []) (eL e_u8 a0), .l (eL e_u8 a0), A.app0⟩] rfl fd_68 (by kernel_rfl)
def L_impl_Tainted_l0 (v0 : (List GEntry)) (v1 : Int) : Nat → Int → (List (List UInt8)) → Option (Int × (List (List UInt8)))
  | 0, _, _ => none
  | m + 1, v2, v3 =>
    if v2 < v1 then
      (natO v2).bind fun i2 =>
      (v0[i2]?).bind fun x3 =>
      match x3.Taint with
      | true =>
        (S_impl_copyBytes x3.Addr).bind fun r5 =>
        if roomP 24 (v3.length + [r5].length) then
        L_impl_Tainted_l0 v0 v1 m (w64 (v2 + 1)) (v3 ++ [r5])
        else none
      | false =>
        L_impl_Tainted_l0 v0 v1 m (w64 (v2 + 1)) v3
    else
      some (v2, v3)
theorem gl_impl_Tainted_l0 (v0 : (List GEntry)) (v1 : Int) (m : Nat) : ∀ (v2 : Int) (v3 : (List (List UInt8))) (o : (Int × (List (List UInt8)))), L_impl_Tainted_l0 v0 v1 m v2 v3 = some o → (mach cfg).loop 19 (loopB Tryz.f19 0) ⟨[(3, .val false [.ref 0]), (11, .val false [.seq (eL e_GEntry v0)]), (12, .val false [.int .i64 v1]), (13, .val false [.int .i64 v2])], [.obj 1 (eL (o_sl 1 e_u8) v3)], 0⟩ = some (match o with | ⟨o_0, o_1⟩ => (.exit 0, (⟨[(3, .val false [.ref 0]), (11, .val false [.seq (eL e_GEntry v0)]), (12, .val false [.int .i64 v1]), (13, .val false [.int .i64 o_0]), (14, .val false [.bool false])], [.obj 1 (eL (o_sl 1 e_u8) o_1)], 0⟩ : S))) := by
  induction m with
  | zero => intro v2 v3 o h; cases h
  | succ m ih =>
    intro v2 v3 o h
    rw [L_impl_Tainted_l0] at h
    rcases ite_some h with ⟨c1, h⟩ | ⟨c1, h⟩
    ·obtain ⟨i2, hi2, h⟩ := bs h
     obtain ⟨x3, hx3, h⟩ := bs h
     cases c4 : x3.Taint with
     | true =>
      rw [c4] at h
      try dsimp only at h
      obtain ⟨r5, hr5, h⟩ := bs h
      obtain ⟨n6, h⟩ := need_some h
      exact loop_nQ [.lT c1, .na hi2, ⟨.idx (eL e_GEntry v0) i2, .e [.seq (eL e_u8 x3.Addr), .int .i64 x3.Val.Kind, .int .i64 x3.Val.N, .seq (eL e_u8 x3.Val.S), .seq (eL (e_sl e_u8) x3.Val.K), .seq (eL e_GValue x3.Val.L), .seq (eL (e_sl e_u8) x3.Deps), .bool true, .int .i64 x3.Turned], (A.idx hx3 ((eq_GEntry x3).trans (by rw [c4])))⟩, .cl (ok_impl_copyBytes x3.Addr _ hr5), ⟨.room 24 (eL (o_sl 1 e_u8) v3) (eL (o_sl 1 e_u8) [r5]), .b true, (A.room n6)⟩, ⟨.uni 1 (eL (o_sl 1 e_u8) [r5]), .b true, (A.uniO (O_sl 1 O_u8))⟩, ⟨.app (eL (o_sl 1 e_u8) v3) (eL (o_sl 1 e_u8) [r5]), .l (eL (o_sl 1 e_u8) (v3 ++ [r5])), A.app⟩, .ad v2 1] (by kernel_rfl) (ih (w64 (v2 + 1)) (v3 ++ [r5]) o h)
     | false =>
      rw [c4] at h
      try dsimp only at h
      exact loop_nQ [.lT c1, .na hi2, ⟨.idx (eL e_GEntry v0) i2, .e [.seq (eL e_u8 x3.Addr), .int .i64 x3.Val.Kind, .int .i64 x3.Val.N, .seq (eL e_u8 x3.Val.S), .seq (eL (e_sl e_u8) x3.Val.K), .seq (eL e_GValue x3.Val.L), .seq (eL (e_sl e_u8) x3.Deps), .bool false, .int .i64 x3.Turned], (A.idx hx3 ((eq_GEntry x3).trans (by rw [c4])))⟩, .ad v2 1] (by kernel_rfl) (ih (w64 (v2 + 1)) v3 o h)
    ·obtain rfl := Option.some.inj h
     exact loop_eQ [.lF c1] (by kernel_rfl) (by intro h; cases h)
def T_impl_Tainted (n : Nat) (a0 : GState) : Option (List (List UInt8)) :=
  (S_impl_isState a0).bind fun r1 =>
  match r1 with
  | true =>
    (L_impl_Tainted_l0 a0.Entries ((a0.Entries.length : Nat) : Int) n 0 []).bind fun ⟨o3_0, o3_1⟩ =>
    some o3_1
  | false =>
    some []
set_option maxRecDepth 100000 in
theorem fd_19 : cfg.funcs 19 = some (bodyOf Tryz.f19, Tryz.f19.ntmps, Tryz.f19.results.toList) := fn_of Tryz.func19 (by kernel_rfl) (by kernel_rfl)
theorem g_impl_Tainted (n : Nat) (a0 : GState) (r : (List (List UInt8))) (h : T_impl_Tainted n a0 = some r) : (mach cfg).call 19 [] [.val true [.int .i64 a0.Serial, .bool a0.Open, .seq (eL e_u8 a0.Pending), .int .i64 a0.Act, .seq (eL e_GEntry a0.Entries)]] = some (.val false [.own 1 (eL (o_sl 1 e_u8) r)], []) := by
  unfold T_impl_Tainted at h
  obtain ⟨r1, hr1, h⟩ := bs h
  cases r1 with
  | true =>
   try dsimp only at h
   obtain ⟨⟨o3_0, o3_1⟩, ho3, h⟩ := bs h
   try dsimp only at h
   obtain rfl := Option.some.inj h
   exact call_wQ [.cl (ok_impl_isState a0 _ hr1), .nt true, .le e_GEntry a0.Entries, .lp (gl_impl_Tainted_l0 a0.Entries ((a0.Entries.length : Nat) : Int) _ 0 [] _ ho3)] rfl fd_19 (by kernel_rfl)
  | false =>
   try dsimp only at h
   obtain rfl := Option.some.inj h
   exact call_wQ [.cl (ok_impl_isState a0 _ hr1), .nt false] rfl fd_19 (by kernel_rfl)
def taintL (l : List GEntry) : List (List UInt8) := (l.filter fun e => e.Taint).map GEntry.Addr
theorem implTaint_loop {s : List GEntry} (hs : eszs s <= 2 ^ 20) : ∀ (l p : List GEntry) (o : List (List UInt8)) (m : Nat), s = p ++ l → l.length < m → o.length <= p.length → ∃ z, L_impl_Tainted_l0 s ((s.length : Nat) : Int) m ((p.length : Nat) : Int) o = some (z, o ++ taintL l) := by
  have hlen0 := eszs_len s
  intro l
  induction l with
  | nil =>
    intro p o m he hm ho
    obtain ⟨m, rfl, _⟩ := fuel hm
    exact ⟨_, by rw [L_impl_Tainted_l0, if_neg (by rw [he]; exact nlt_end p)]; simp [taintL]; rfl⟩
  | cons x l ih =>
    intro p o m he hm ho
    obtain ⟨m, rfl, hm'⟩ := fuel hm
    have hlen : s.length = p.length + (l.length + 1) := by rw [he]; simp
    have hx : 1 + esz x <= eszs s := eszs_mem (by rw [he]; simp)
    unfold esz at hx
    rw [L_impl_Tainted_l0, if_pos (by omega), natO_nat, Option.bind_some, show s[p.length]? = some x by rw [he]; exact get_mid p x l, Option.bind_some, w64_len p x (by omega)]
    unfold taintL
    rw [List.filter_cons]
    simp only [List.length_cons] at hm'
    cases hm2 : x.Taint with
    | true =>
      dsimp only
      rw [show S_impl_copyBytes x.Addr = some x.Addr from if_pos (room_ok (by decide) (by omega)), Option.bind_some, if_pos (room_ok (by decide) (by simp only [List.length_cons, List.length_nil]; omega)), if_pos rfl]
      obtain ⟨z, hz⟩ := ih (p ++ [x]) (o ++ [x.Addr]) m (by rw [he]; simp) (by omega) (by simp; omega)
      refine ⟨z, ?_⟩
      rw [hz]
      unfold taintL
      simp
    | false =>
      dsimp only
      rw [if_neg (by simp)]
      obtain ⟨z, hz⟩ := ih (p ++ [x]) o m (by rw [he]; simp) (by omega) (by simp; omega)
      exact ⟨z, hz⟩
def S_impl_Tainted (a0 : GState) : Option (List (List UInt8)) := if ssz a0 <= 2 ^ 20 then some (if stB a0 = true then taintL a0.Entries else []) else none
theorem spec_impl_Tainted (a0 : GState) (r : (List (List UInt8))) (h : S_impl_Tainted a0 = some r) : ∃ n, T_impl_Tainted n a0 = some r := by
  unfold S_impl_Tainted at h
  obtain ⟨ha, h⟩ := need_c h
  refine ⟨a0.Entries.length + 1, ?_⟩
  unfold T_impl_Tainted
  rw [implSt_eq ha, Option.bind_some, <- h]
  unfold ssz at ha
  cases stB a0 with
  | false => rfl
  | true =>
    dsimp only
    obtain ⟨z, hz⟩ := implTaint_loop (s := a0.Entries) (by omega) a0.Entries [] [] (a0.Entries.length + 1) rfl (by omega) (by simp)
    simp only [List.length_nil, Int.natCast_zero, List.nil_append] at hz
    rw [hz]; rfl
theorem ok_impl_Tainted (a0 : GState) (r : (List (List UInt8))) (h : S_impl_Tainted a0 = some r) : (mach cfg).call 19 [] [.val true [.int .i64 a0.Serial, .bool a0.Open, .seq (eL e_u8 a0.Pending), .int .i64 a0.Act, .seq (eL e_GEntry a0.Entries)]] = some (.val false [.own 1 (eL (o_sl 1 e_u8) r)], []) := by
  obtain ⟨n, hn⟩ := spec_impl_Tainted a0 r h
  exact g_impl_Tainted n a0 r hn
def L_laws_eqByteS_l0 (a0 : (List UInt8)) (a1 : (List UInt8)) : Nat → Int → Option (Bool ⊕ Int)
  | 0, _ => none
  | m + 1, v2 =>
    if v2 < ((a0.length : Nat) : Int) then
      (natO v2).bind fun i2 =>
      (a0[i2]?).bind fun x3 =>
      (a1[i2]?).bind fun x4 =>
      if ((x3.toNat : Nat) : Int) = ((x4.toNat : Nat) : Int) then
        L_laws_eqByteS_l0 a0 a1 m (w64 (v2 + 1))
      else
        some (.inl false)
    else
      some (.inr v2)
theorem gl_laws_eqByteS_l0 (a0 : (List UInt8)) (a1 : (List UInt8)) (m : Nat) : ∀ (v2 : Int) (o : (Bool ⊕ Int)), L_laws_eqByteS_l0 a0 a1 m v2 = some o → (mach cfg).loop 27 (loopB Tryz.f27 0) ⟨[(0, .val false [.seq (eL e_u8 a0)]), (1, .val false [.seq (eL e_u8 a1)]), (5, .val false [.int .i64 v2])], [], 0⟩ = some (match o with | .inl o_0 => (.ret, (⟨[(4, .val false [.bool o_0])], [], 0⟩ : S)) | .inr (o_1) => (.exit 0, (⟨[(0, .val false [.seq (eL e_u8 a0)]), (1, .val false [.seq (eL e_u8 a1)]), (5, .val false [.int .i64 o_1]), (14, .val false [.bool false])], [], 0⟩ : S))) := by
  induction m with
  | zero => intro v2 o h; cases h
  | succ m ih =>
    intro v2 o h
    rw [L_laws_eqByteS_l0] at h
    rcases ite_some h with ⟨c1, h⟩ | ⟨c1, h⟩
    ·obtain ⟨i2, hi2, h⟩ := bs h
     obtain ⟨x3, hx3, h⟩ := bs h
     obtain ⟨x4, hx4, h⟩ := bs h
     rcases ite_some h with ⟨c5, h⟩ | ⟨c5, h⟩
     ·exact loop_nQ [.le e_u8 a0, .lT c1, .na hi2, .ix0 e_u8 hx3, .na hi2, .ix0 e_u8 hx4, .eT c5, .nt true, .ad v2 1] (by kernel_rfl) (ih (w64 (v2 + 1)) o h)
     ·obtain rfl := Option.some.inj h
      exact loop_eQ [.le e_u8 a0, .lT c1, .na hi2, .ix0 e_u8 hx3, .na hi2, .ix0 e_u8 hx4, .eF c5, .nt false] (by kernel_rfl) (by intro h; cases h)
    ·obtain rfl := Option.some.inj h
     exact loop_eQ [.le e_u8 a0, .lF c1] (by kernel_rfl) (by intro h; cases h)
def T_laws_eqByteS (n : Nat) (a0 : (List UInt8)) (a1 : (List UInt8)) : Option Bool :=
  if ((a0.length : Nat) : Int) = ((a1.length : Nat) : Int) then
    (L_laws_eqByteS_l0 a0 a1 n 0).bind fun o2 =>
    match o2 with
    | .inl o2_0 =>
      some o2_0
    | .inr (o2_1) =>
      some true
  else
    some false
set_option maxRecDepth 100000 in
theorem fd_27 : cfg.funcs 27 = some (bodyOf Tryz.f27, Tryz.f27.ntmps, Tryz.f27.results.toList) := fn_of Tryz.func27 (by kernel_rfl) (by kernel_rfl)
theorem g_laws_eqByteS (n : Nat) (a0 : (List UInt8)) (a1 : (List UInt8)) (r : Bool) (h : T_laws_eqByteS n a0 a1 = some r) : (mach cfg).call 27 [] [.val false [.seq (eL e_u8 a0)], .val false [.seq (eL e_u8 a1)]] = some (.val false [.bool r], []) := by
  unfold T_laws_eqByteS at h
  rcases ite_some h with ⟨c1, h⟩ | ⟨c1, h⟩
  ·obtain ⟨o2, ho2, h⟩ := bs h
   rcases o2 with o2_0 | o2_1
   · try dsimp only at h
     obtain rfl := Option.some.inj h
     exact call_wQ [.le e_u8 a0, .le e_u8 a1, .eT c1, .nt true, .lp (gl_laws_eqByteS_l0 a0 a1 _ 0 _ ho2)] rfl fd_27 (by kernel_rfl)
   · try dsimp only at h
     obtain rfl := Option.some.inj h
     exact call_wQ [.le e_u8 a0, .le e_u8 a1, .eT c1, .nt true, .lp (gl_laws_eqByteS_l0 a0 a1 _ 0 _ ho2)] rfl fd_27 (by kernel_rfl)
  ·obtain rfl := Option.some.inj h
   exact call_wQ [.le e_u8 a0, .le e_u8 a1, .eF c1, .nt false] rfl fd_27 (by kernel_rfl)
theorem eqByteS_loop {a : List UInt8} (ha : a.length <= 2 ^ 40) : ∀ (d i m : Nat), i + d = a.length → d < m → ∃ z, L_laws_eqByteS_l0 a a m (i : Int) = some (.inr z) := by
  intro d
  induction d with
  | zero =>
    intro i m hi hm
    obtain ⟨m, rfl, _⟩ := fuel hm
    exact ⟨_, by rw [L_laws_eqByteS_l0, if_neg (by omega)]⟩
  | succ d ih =>
    intro i m hi hm
    obtain ⟨m, rfl, hm'⟩ := fuel hm
    have hil : i < a.length := by omega
    rw [L_laws_eqByteS_l0, if_pos (by omega), natO_nat, Option.bind_some, get_some hil, Option.bind_some, Option.bind_some, if_pos rfl, w64_succ (by omega)]
    exact ih (i + 1) m (by omega) (by omega)
def S_laws_eqByteS (a0 : (List UInt8)) (a1 : (List UInt8)) : Option Bool := if a0 = a1 ∧ a0.length <= 2 ^ 40 then some true else none
theorem spec_laws_eqByteS (a0 : (List UInt8)) (a1 : (List UInt8)) (r : Bool) (h : S_laws_eqByteS a0 a1 = some r) : ∃ n, T_laws_eqByteS n a0 a1 = some r := by
  unfold S_laws_eqByteS at h
  obtain ⟨⟨he, ha⟩, h2⟩ := need_c h
  clear h
  subst he
  refine ⟨a0.length + 1, ?_⟩
  obtain ⟨z, hz⟩ := eqByteS_loop ha a0.length 0 (a0.length + 1) (by omega) (by omega)
  rw [show ((0 : Nat) : Int) = 0 from rfl] at hz
  unfold T_laws_eqByteS
  rw [if_pos rfl, hz]; exact h2
theorem ok_laws_eqByteS (a0 : (List UInt8)) (a1 : (List UInt8)) (r : Bool) (h : S_laws_eqByteS a0 a1 = some r) : (mach cfg).call 27 [] [.val false [.seq (eL e_u8 a0)], .val false [.seq (eL e_u8 a1)]] = some (.val false [.bool r], []) := by
  obtain ⟨n, hn⟩ := spec_laws_eqByteS a0 a1 r h
  exact g_laws_eqByteS n a0 a1 r hn
def L_laws_eqByteSS_l0 (a0 : (List (List UInt8))) (a1 : (List (List UInt8))) : Nat → Int → Option (Bool ⊕ Int)
  | 0, _ => none
  | m + 1, v2 =>
    if v2 < ((a0.length : Nat) : Int) then
      (natO v2).bind fun i2 =>
      (a0[i2]?).bind fun x3 =>
      (a1[i2]?).bind fun x4 =>
      (S_laws_eqByteS x3 x4).bind fun r5 =>
      match r5 with
      | true =>
        L_laws_eqByteSS_l0 a0 a1 m (w64 (v2 + 1))
      | false =>
        some (.inl false)
    else
      some (.inr v2)
theorem gl_laws_eqByteSS_l0 (a0 : (List (List UInt8))) (a1 : (List (List UInt8))) (m : Nat) : ∀ (v2 : Int) (o : (Bool ⊕ Int)), L_laws_eqByteSS_l0 a0 a1 m v2 = some o → (mach cfg).loop 20 (loopB Tryz.f20 0) ⟨[(0, .val false [.seq (eL (e_sl e_u8) a0)]), (1, .val false [.seq (eL (e_sl e_u8) a1)]), (5, .val false [.int .i64 v2])], [], 0⟩ = some (match o with | .inl o_0 => (.ret, (⟨[(4, .val false [.bool o_0])], [], 0⟩ : S)) | .inr (o_1) => (.exit 0, (⟨[(0, .val false [.seq (eL (e_sl e_u8) a0)]), (1, .val false [.seq (eL (e_sl e_u8) a1)]), (5, .val false [.int .i64 o_1]), (14, .val false [.bool false])], [], 0⟩ : S))) := by
  induction m with
  | zero => intro v2 o h; cases h
  | succ m ih =>
    intro v2 o h
    rw [L_laws_eqByteSS_l0] at h
    rcases ite_some h with ⟨c1, h⟩ | ⟨c1, h⟩
    ·obtain ⟨i2, hi2, h⟩ := bs h
     obtain ⟨x3, hx3, h⟩ := bs h
     obtain ⟨x4, hx4, h⟩ := bs h
     obtain ⟨r5, hr5, h⟩ := bs h
     cases r5 with
     | true =>
      try dsimp only at h
      exact loop_nQ [.le (e_sl e_u8) a0, .lT c1, .na hi2, .ix0 (e_sl e_u8) hx3, .na hi2, .ix0 (e_sl e_u8) hx4, .cl (ok_laws_eqByteS x3 x4 _ hr5), .nt true, .ad v2 1] (by kernel_rfl) (ih (w64 (v2 + 1)) o h)
     | false =>
      try dsimp only at h
      obtain rfl := Option.some.inj h
      exact loop_eQ [.le (e_sl e_u8) a0, .lT c1, .na hi2, .ix0 (e_sl e_u8) hx3, .na hi2, .ix0 (e_sl e_u8) hx4, .cl (ok_laws_eqByteS x3 x4 _ hr5), .nt false] (by kernel_rfl) (by intro h; cases h)
    ·obtain rfl := Option.some.inj h
     exact loop_eQ [.le (e_sl e_u8) a0, .lF c1] (by kernel_rfl) (by intro h; cases h)
def T_laws_eqByteSS (n : Nat) (a0 : (List (List UInt8))) (a1 : (List (List UInt8))) : Option Bool :=
  if ((a0.length : Nat) : Int) = ((a1.length : Nat) : Int) then
    (L_laws_eqByteSS_l0 a0 a1 n 0).bind fun o2 =>
    match o2 with
    | .inl o2_0 =>
      some o2_0
    | .inr (o2_1) =>
      some true
  else
    some false
set_option maxRecDepth 100000 in
theorem fd_20 : cfg.funcs 20 = some (bodyOf Tryz.f20, Tryz.f20.ntmps, Tryz.f20.results.toList) := fn_of Tryz.func20 (by kernel_rfl) (by kernel_rfl)
theorem g_laws_eqByteSS (n : Nat) (a0 : (List (List UInt8))) (a1 : (List (List UInt8))) (r : Bool) (h : T_laws_eqByteSS n a0 a1 = some r) : (mach cfg).call 20 [] [.val false [.seq (eL (e_sl e_u8) a0)], .val false [.seq (eL (e_sl e_u8) a1)]] = some (.val false [.bool r], []) := by
  unfold T_laws_eqByteSS at h
  rcases ite_some h with ⟨c1, h⟩ | ⟨c1, h⟩
  ·obtain ⟨o2, ho2, h⟩ := bs h
   rcases o2 with o2_0 | o2_1
   · try dsimp only at h
     obtain rfl := Option.some.inj h
     exact call_wQ [.le (e_sl e_u8) a0, .le (e_sl e_u8) a1, .eT c1, .nt true, .lp (gl_laws_eqByteSS_l0 a0 a1 _ 0 _ ho2)] rfl fd_20 (by kernel_rfl)
   · try dsimp only at h
     obtain rfl := Option.some.inj h
     exact call_wQ [.le (e_sl e_u8) a0, .le (e_sl e_u8) a1, .eT c1, .nt true, .lp (gl_laws_eqByteSS_l0 a0 a1 _ 0 _ ho2)] rfl fd_20 (by kernel_rfl)
  ·obtain rfl := Option.some.inj h
   exact call_wQ [.le (e_sl e_u8) a0, .le (e_sl e_u8) a1, .eF c1, .nt false] rfl fd_20 (by kernel_rfl)
theorem eqByteSS_loop {a : List (List UInt8)} (ha : bsz a <= 2 ^ 40) : ∀ (d i m : Nat), i + d = a.length → d < m → ∃ z, L_laws_eqByteSS_l0 a a m (i : Int) = some (.inr z) := by
  have hl := bsz_len a
  intro d
  induction d with
  | zero =>
    intro i m hi hm
    obtain ⟨m, rfl, _⟩ := fuel hm
    exact ⟨_, by rw [L_laws_eqByteSS_l0, if_neg (by omega)]⟩
  | succ d ih =>
    intro i m hi hm
    obtain ⟨m, rfl, hm'⟩ := fuel hm
    have hil : i < a.length := by omega
    have hx := bsz_mem (List.getElem_mem hil)
    rw [L_laws_eqByteSS_l0, if_pos (by omega), natO_nat, Option.bind_some, get_some hil, Option.bind_some, Option.bind_some]
    unfold S_laws_eqByteS
    rw [if_pos ⟨rfl, by omega⟩, Option.bind_some, w64_succ (by omega)]
    exact ih (i + 1) m (by omega) (by omega)
def S_laws_eqByteSS (a0 : (List (List UInt8))) (a1 : (List (List UInt8))) : Option Bool := if a0 = a1 ∧ bsz a0 <= 2 ^ 40 then some true else none
theorem spec_laws_eqByteSS (a0 : (List (List UInt8))) (a1 : (List (List UInt8))) (r : Bool) (h : S_laws_eqByteSS a0 a1 = some r) : ∃ n, T_laws_eqByteSS n a0 a1 = some r := by
  unfold S_laws_eqByteSS at h
  obtain ⟨⟨he, ha⟩, h2⟩ := need_c h
  clear h
  subst he
  have hl := bsz_len a0
  refine ⟨a0.length + 1, ?_⟩
  obtain ⟨z, hz⟩ := eqByteSS_loop ha a0.length 0 (a0.length + 1) (by omega) (by omega)
  rw [show ((0 : Nat) : Int) = 0 from rfl] at hz
  unfold T_laws_eqByteSS
  rw [if_pos rfl, hz]; exact h2
theorem ok_laws_eqByteSS (a0 : (List (List UInt8))) (a1 : (List (List UInt8))) (r : Bool) (h : S_laws_eqByteSS a0 a1 = some r) : (mach cfg).call 20 [] [.val false [.seq (eL (e_sl e_u8) a0)], .val false [.seq (eL (e_sl e_u8) a1)]] = some (.val false [.bool r], []) := by
  obtain ⟨n, hn⟩ := spec_laws_eqByteSS a0 a1 r h
  exact g_laws_eqByteSS n a0 a1 r hn
def L_laws_eqValueS_l0 (G_laws_eqValue : GValue → GValue → Option Bool) (a0 : (List GValue)) (a1 : (List GValue)) : Nat → Int → Option (Bool ⊕ Int)
  | 0, _ => none
  | m + 1, v2 =>
    if v2 < ((a0.length : Nat) : Int) then
      (natO v2).bind fun i2 =>
      (a0[i2]?).bind fun x3 =>
      (a1[i2]?).bind fun x4 =>
      (G_laws_eqValue x3 x4).bind fun r5 =>
      match r5 with
      | true =>
        L_laws_eqValueS_l0 G_laws_eqValue a0 a1 m (w64 (v2 + 1))
      | false =>
        some (.inl false)
    else
      some (.inr v2)
theorem gl_laws_eqValueS_l0 (G_laws_eqValue : GValue → GValue → Option Bool) (H_laws_eqValue : ∀ (a0 : GValue) (a1 : GValue) (r : Bool), G_laws_eqValue a0 a1 = some r → (mach cfg).call 76 [] [.val true [.int .i64 a0.Kind, .int .i64 a0.N, .seq (eL e_u8 a0.S), .seq (eL (e_sl e_u8) a0.K), .seq (eL e_GValue a0.L)], .val true [.int .i64 a1.Kind, .int .i64 a1.N, .seq (eL e_u8 a1.S), .seq (eL (e_sl e_u8) a1.K), .seq (eL e_GValue a1.L)]] = some (.val false [.bool r], [])) (a0 : (List GValue)) (a1 : (List GValue)) (m : Nat) : ∀ (v2 : Int) (o : (Bool ⊕ Int)), L_laws_eqValueS_l0 G_laws_eqValue a0 a1 m v2 = some o → (mach cfg).loop 121 (loopB Tryz.f121 0) ⟨[(0, .val false [.seq (eL e_GValue a0)]), (1, .val false [.seq (eL e_GValue a1)]), (5, .val false [.int .i64 v2])], [], 0⟩ = some (match o with | .inl o_0 => (.ret, (⟨[(4, .val false [.bool o_0])], [], 0⟩ : S)) | .inr (o_1) => (.exit 0, (⟨[(0, .val false [.seq (eL e_GValue a0)]), (1, .val false [.seq (eL e_GValue a1)]), (5, .val false [.int .i64 o_1]), (14, .val false [.bool false])], [], 0⟩ : S))) := by
  induction m with
  | zero => intro v2 o h; cases h
  | succ m ih =>
    intro v2 o h
    rw [L_laws_eqValueS_l0] at h
    rcases ite_some h with ⟨c1, h⟩ | ⟨c1, h⟩
    ·obtain ⟨i2, hi2, h⟩ := bs h
     obtain ⟨x3, hx3, h⟩ := bs h
     obtain ⟨x4, hx4, h⟩ := bs h
     obtain ⟨r5, hr5, h⟩ := bs h
     cases r5 with
     | true =>
      try dsimp only at h
      exact loop_nQ [.le e_GValue a0, .lT c1, .na hi2, .ix hx3 (eq_GValue x3), .na hi2, .ix hx4 (eq_GValue x4), .cl (H_laws_eqValue x3 x4 _ hr5), .nt true, .ad v2 1] (by kernel_rfl) (ih (w64 (v2 + 1)) o h)
     | false =>
      try dsimp only at h
      obtain rfl := Option.some.inj h
      exact loop_eQ [.le e_GValue a0, .lT c1, .na hi2, .ix hx3 (eq_GValue x3), .na hi2, .ix hx4 (eq_GValue x4), .cl (H_laws_eqValue x3 x4 _ hr5), .nt false] (by kernel_rfl) (by intro h; cases h)
    ·obtain rfl := Option.some.inj h
     exact loop_eQ [.le e_GValue a0, .lF c1] (by kernel_rfl) (by intro h; cases h)
def T_laws_eqValueS (G_laws_eqValue : GValue → GValue → Option Bool) (n : Nat) (a0 : (List GValue)) (a1 : (List GValue)) : Option Bool :=
  if ((a0.length : Nat) : Int) = ((a1.length : Nat) : Int) then
    (L_laws_eqValueS_l0 G_laws_eqValue a0 a1 n 0).bind fun o2 =>
    match o2 with
    | .inl o2_0 =>
      some o2_0
    | .inr (o2_1) =>
      some true
  else
    some false
set_option maxRecDepth 100000 in
theorem fd_121 : cfg.funcs 121 = some (bodyOf Tryz.f121, Tryz.f121.ntmps, Tryz.f121.results.toList) := fn_of Tryz.func121 (by kernel_rfl) (by kernel_rfl)
theorem g_laws_eqValueS (G_laws_eqValue : GValue → GValue → Option Bool) (H_laws_eqValue : ∀ (a0 : GValue) (a1 : GValue) (r : Bool), G_laws_eqValue a0 a1 = some r → (mach cfg).call 76 [] [.val true [.int .i64 a0.Kind, .int .i64 a0.N, .seq (eL e_u8 a0.S), .seq (eL (e_sl e_u8) a0.K), .seq (eL e_GValue a0.L)], .val true [.int .i64 a1.Kind, .int .i64 a1.N, .seq (eL e_u8 a1.S), .seq (eL (e_sl e_u8) a1.K), .seq (eL e_GValue a1.L)]] = some (.val false [.bool r], [])) (n : Nat) (a0 : (List GValue)) (a1 : (List GValue)) (r : Bool) (h : T_laws_eqValueS G_laws_eqValue n a0 a1 = some r) : (mach cfg).call 121 [] [.val false [.seq (eL e_GValue a0)], .val false [.seq (eL e_GValue a1)]] = some (.val false [.bool r], []) := by
  unfold T_laws_eqValueS at h
  rcases ite_some h with ⟨c1, h⟩ | ⟨c1, h⟩
  ·obtain ⟨o2, ho2, h⟩ := bs h
   rcases o2 with o2_0 | o2_1
   · try dsimp only at h
     obtain rfl := Option.some.inj h
     exact call_wQ [.le e_GValue a0, .le e_GValue a1, .eT c1, .nt true, .lp (gl_laws_eqValueS_l0 G_laws_eqValue H_laws_eqValue a0 a1 _ 0 _ ho2)] rfl fd_121 (by kernel_rfl)
   · try dsimp only at h
     obtain rfl := Option.some.inj h
     exact call_wQ [.le e_GValue a0, .le e_GValue a1, .eT c1, .nt true, .lp (gl_laws_eqValueS_l0 G_laws_eqValue H_laws_eqValue a0 a1 _ 0 _ ho2)] rfl fd_121 (by kernel_rfl)
  ·obtain rfl := Option.some.inj h
   exact call_wQ [.le e_GValue a0, .le e_GValue a1, .eF c1, .nt false] rfl fd_121 (by kernel_rfl)
def T_laws_eqValue (G_laws_eqValueS : (List GValue) → (List GValue) → Option Bool) (a0 : GValue) (a1 : GValue) : Option Bool :=
  if a0.Kind = a1.Kind then
    if a0.N = a1.N then
      (S_laws_eqByteS a0.S a1.S).bind fun r3 =>
      match r3 with
      | true =>
        (S_laws_eqByteSS a0.K a1.K).bind fun r5 =>
        match r5 with
        | true =>
          (G_laws_eqValueS a0.L a1.L).bind fun r7 =>
          match r7 with
          | true =>
            some true
          | false =>
            some false
        | false =>
          some false
      | false =>
        some false
    else
      some false
  else
    some false
set_option maxRecDepth 100000 in
theorem fd_76 : cfg.funcs 76 = some (bodyOf Tryz.f76, Tryz.f76.ntmps, Tryz.f76.results.toList) := fn_of Tryz.func76 (by kernel_rfl) (by kernel_rfl)
theorem g_laws_eqValue (G_laws_eqValueS : (List GValue) → (List GValue) → Option Bool) (H_laws_eqValueS : ∀ (a0 : (List GValue)) (a1 : (List GValue)) (r : Bool), G_laws_eqValueS a0 a1 = some r → (mach cfg).call 121 [] [.val false [.seq (eL e_GValue a0)], .val false [.seq (eL e_GValue a1)]] = some (.val false [.bool r], [])) (a0 : GValue) (a1 : GValue) (r : Bool) (h : T_laws_eqValue G_laws_eqValueS a0 a1 = some r) : (mach cfg).call 76 [] [.val true [.int .i64 a0.Kind, .int .i64 a0.N, .seq (eL e_u8 a0.S), .seq (eL (e_sl e_u8) a0.K), .seq (eL e_GValue a0.L)], .val true [.int .i64 a1.Kind, .int .i64 a1.N, .seq (eL e_u8 a1.S), .seq (eL (e_sl e_u8) a1.K), .seq (eL e_GValue a1.L)]] = some (.val false [.bool r], []) := by
  unfold T_laws_eqValue at h
  rcases ite_some h with ⟨c1, h⟩ | ⟨c1, h⟩
  ·rcases ite_some h with ⟨c2, h⟩ | ⟨c2, h⟩
   ·obtain ⟨r3, hr3, h⟩ := bs h
    cases r3 with
    | true =>
     try dsimp only at h
     obtain ⟨r5, hr5, h⟩ := bs h
     cases r5 with
     | true =>
      try dsimp only at h
      obtain ⟨r7, hr7, h⟩ := bs h
      cases r7 with
      | true =>
       try dsimp only at h
       obtain rfl := Option.some.inj h
       exact call_wQ [.eT c1, .nt true, .eT c2, .nt true, .cl (ok_laws_eqByteS a0.S a1.S _ hr3), .nt true, .cl (ok_laws_eqByteSS a0.K a1.K _ hr5), .nt true, .cl (H_laws_eqValueS a0.L a1.L _ hr7), .nt true] rfl fd_76 (by kernel_rfl)
      | false =>
       try dsimp only at h
       obtain rfl := Option.some.inj h
       exact call_wQ [.eT c1, .nt true, .eT c2, .nt true, .cl (ok_laws_eqByteS a0.S a1.S _ hr3), .nt true, .cl (ok_laws_eqByteSS a0.K a1.K _ hr5), .nt true, .cl (H_laws_eqValueS a0.L a1.L _ hr7), .nt false] rfl fd_76 (by kernel_rfl)
     | false =>
      try dsimp only at h
      obtain rfl := Option.some.inj h
      exact call_wQ [.eT c1, .nt true, .eT c2, .nt true, .cl (ok_laws_eqByteS a0.S a1.S _ hr3), .nt true, .cl (ok_laws_eqByteSS a0.K a1.K _ hr5), .nt false] rfl fd_76 (by kernel_rfl)
    | false =>
     try dsimp only at h
     obtain rfl := Option.some.inj h
     exact call_wQ [.eT c1, .nt true, .eT c2, .nt true, .cl (ok_laws_eqByteS a0.S a1.S _ hr3), .nt false] rfl fd_76 (by kernel_rfl)
   ·obtain rfl := Option.some.inj h
    exact call_wQ [.eT c1, .nt true, .eF c2, .nt false] rfl fd_76 (by kernel_rfl)
  ·obtain rfl := Option.some.inj h
   exact call_wQ [.eF c1, .nt false] rfl fd_76 (by kernel_rfl)
mutual
def U_laws_eqValueS : Nat → (List GValue) → (List GValue) → Option Bool
  | 0, _, _ => none
  | n + 1, a0, a1 => T_laws_eqValueS (U_laws_eqValue n) n a0 a1
def U_laws_eqValue : Nat → GValue → GValue → Option Bool
  | 0, _, _ => none
  | n + 1, a0, a1 => T_laws_eqValue (U_laws_eqValueS n) a0 a1
end
theorem rec_laws_eqValueS (n : Nat) : (∀ (a0 : (List GValue)) (a1 : (List GValue)) (r : Bool), U_laws_eqValueS n a0 a1 = some r → (mach cfg).call 121 [] [.val false [.seq (eL e_GValue a0)], .val false [.seq (eL e_GValue a1)]] = some (.val false [.bool r], [])) ∧ (∀ (a0 : GValue) (a1 : GValue) (r : Bool), U_laws_eqValue n a0 a1 = some r → (mach cfg).call 76 [] [.val true [.int .i64 a0.Kind, .int .i64 a0.N, .seq (eL e_u8 a0.S), .seq (eL (e_sl e_u8) a0.K), .seq (eL e_GValue a0.L)], .val true [.int .i64 a1.Kind, .int .i64 a1.N, .seq (eL e_u8 a1.S), .seq (eL (e_sl e_u8) a1.K), .seq (eL e_GValue a1.L)]] = some (.val false [.bool r], [])) := by
  induction n with
  | zero => exact ⟨fun _ _ _ h => (by rw [U_laws_eqValueS] at h; cases h), fun _ _ _ h => (by rw [U_laws_eqValue] at h; cases h)⟩
  | succ n ih =>
    obtain ⟨ih_laws_eqValueS, ih_laws_eqValue⟩ := ih
    exact ⟨fun a0 a1 r h => g_laws_eqValueS (U_laws_eqValue n) ih_laws_eqValue n a0 a1 r (by rw [U_laws_eqValueS] at h; exact h),
      fun a0 a1 r h => g_laws_eqValue (U_laws_eqValueS n) ih_laws_eqValueS a0 a1 r (by rw [U_laws_eqValue] at h; exact h)⟩
theorem eqValueS_T {G : GValue → GValue → Option Bool} {a : List GValue} {f : Nat} (ha : a.length <= 2 ^ 40) (hf : a.length < f) (hG : ∀ v ∈ a, G v v = some true) : T_laws_eqValueS G f a a = some true := by
  have loop : ∀ (d i m : Nat), i + d = a.length → d < m → ∃ z, L_laws_eqValueS_l0 G a a m (i : Int) = some (.inr z) := by
    intro d
    induction d with
    | zero =>
      intro i m hi hm
      obtain ⟨m, rfl, _⟩ := fuel hm
      exact ⟨_, by rw [L_laws_eqValueS_l0, if_neg (by omega)]⟩
    | succ d ih =>
      intro i m hi hm
      obtain ⟨m, rfl, hm'⟩ := fuel hm
      have hil : i < a.length := by omega
      rw [L_laws_eqValueS_l0, if_pos (by omega), natO_nat, Option.bind_some, get_some hil, Option.bind_some, Option.bind_some, hG _ (List.getElem_mem hil), Option.bind_some, w64_succ (by omega)]
      exact ih (i + 1) m (by omega) (by omega)
  obtain ⟨z, hz⟩ := loop a.length 0 f (by omega) (by omega)
  rw [show ((0 : Nat) : Int) = 0 from rfl] at hz
  unfold T_laws_eqValueS
  rw [if_pos rfl, hz]; rfl
theorem eqValue_U : ∀ (N : Nat) (v : GValue), vsz v < N → vsz v <= 2 ^ 40 → ∀ f : Nat, 2 * vsz v + 3 <= f → U_laws_eqValue f v v = some true := by
  intro N
  induction N with
  | zero => intro v hv; omega
  | succ N ih =>
    intro v hv hs f hf
    obtain ⟨f, rfl, _⟩ := fuel (show 0 < f by omega)
    obtain ⟨f, rfl, _⟩ := fuel (show 0 < f by omega)
    have he := vsz_eq v
    have hl := vszs_len v.L
    rw [U_laws_eqValue]
    unfold T_laws_eqValue S_laws_eqByteS S_laws_eqByteSS
    rw [if_pos rfl, if_pos rfl, if_pos (show v.S = v.S ∧ v.S.length <= 2 ^ 40 from ⟨rfl, by omega⟩), Option.bind_some]
    dsimp only
    rw [if_pos (show v.K = v.K ∧ bsz v.K <= 2 ^ 40 from ⟨rfl, by omega⟩), Option.bind_some]
    dsimp only
    rw [U_laws_eqValueS, eqValueS_T (by omega) (by omega) fun x hx => ?_]
    · rfl
    · have := vszs_mem hx
      exact ih x (by omega) (by omega) f (by omega)
open Classical in
noncomputable def S_laws_eqValueS (a0 : (List GValue)) (a1 : (List GValue)) : Option Bool := if a0 = a1 ∧ vszs a0 <= 2 ^ 40 then some true else none
theorem spec_laws_eqValueS (a0 : (List GValue)) (a1 : (List GValue)) (r : Bool) (h : S_laws_eqValueS a0 a1 = some r) : ∃ n, U_laws_eqValueS n a0 a1 = some r := by
  unfold S_laws_eqValueS at h
  obtain ⟨⟨he, ha⟩, h2⟩ := need_c h
  clear h
  subst he
  have hl := vszs_len a0
  refine ⟨2 * vszs a0 + 5, ?_⟩
  rw [U_laws_eqValueS, eqValueS_T (by omega) (by omega) fun x hx => ?_, h2]
  have := vszs_mem hx
  exact eqValue_U _ x (Nat.lt_succ_self _) (by omega) _ (by omega)
open Classical in
noncomputable def S_laws_eqValue (a0 : GValue) (a1 : GValue) : Option Bool := if a0 = a1 ∧ vsz a0 <= 2 ^ 40 then some true else none
theorem spec_laws_eqValue (a0 : GValue) (a1 : GValue) (r : Bool) (h : S_laws_eqValue a0 a1 = some r) : ∃ n, U_laws_eqValue n a0 a1 = some r := by
  unfold S_laws_eqValue at h
  obtain ⟨⟨he, ha⟩, h2⟩ := need_c h
  clear h
  subst he
  exact ⟨2 * vsz a0 + 3, by rw [<- h2]; exact eqValue_U _ a0 (Nat.lt_succ_self _) ha _ (Nat.le_refl _)⟩
theorem ok_laws_eqValueS (a0 : (List GValue)) (a1 : (List GValue)) (r : Bool) (h : S_laws_eqValueS a0 a1 = some r) : (mach cfg).call 121 [] [.val false [.seq (eL e_GValue a0)], .val false [.seq (eL e_GValue a1)]] = some (.val false [.bool r], []) := by
  obtain ⟨n, hn⟩ := spec_laws_eqValueS a0 a1 r h
  exact (rec_laws_eqValueS n).1 a0 a1 r hn
theorem ok_laws_eqValue (a0 : GValue) (a1 : GValue) (r : Bool) (h : S_laws_eqValue a0 a1 = some r) : (mach cfg).call 76 [] [.val true [.int .i64 a0.Kind, .int .i64 a0.N, .seq (eL e_u8 a0.S), .seq (eL (e_sl e_u8) a0.K), .seq (eL e_GValue a0.L)], .val true [.int .i64 a1.Kind, .int .i64 a1.N, .seq (eL e_u8 a1.S), .seq (eL (e_sl e_u8) a1.K), .seq (eL e_GValue a1.L)]] = some (.val false [.bool r], []) := by
  obtain ⟨n, hn⟩ := spec_laws_eqValue a0 a1 r h
  exact (rec_laws_eqValueS n).2 a0 a1 r hn
def S_laws_eqEntry (a0 : GEntry) (a1 : GEntry) : Option Bool :=
  (S_laws_eqByteS a0.Addr a1.Addr).bind fun r1 =>
  match r1 with
  | true =>
    (S_laws_eqValue a0.Val a1.Val).bind fun r3 =>
    match r3 with
    | true =>
      (S_laws_eqByteSS a0.Deps a1.Deps).bind fun r5 =>
      match r5 with
      | true =>
        match a0.Taint with
        | true =>
          match a1.Taint with
          | true =>
            if a0.Turned = a1.Turned then
              some true
            else
              some false
          | false =>
            some false
        | false =>
          match a1.Taint with
          | true =>
            some false
          | false =>
            if a0.Turned = a1.Turned then
              some true
            else
              some false
      | false =>
        some false
    | false =>
      some false
  | false =>
    some false
set_option maxRecDepth 100000 in
theorem fd_31 : cfg.funcs 31 = some (bodyOf Tryz.f31, Tryz.f31.ntmps, Tryz.f31.results.toList) := fn_of Tryz.func31 (by kernel_rfl) (by kernel_rfl)
theorem ok_laws_eqEntry (a0 : GEntry) (a1 : GEntry) (r : Bool) (h : S_laws_eqEntry a0 a1 = some r) : (mach cfg).call 31 [] [.val true [.seq (eL e_u8 a0.Addr), .int .i64 a0.Val.Kind, .int .i64 a0.Val.N, .seq (eL e_u8 a0.Val.S), .seq (eL (e_sl e_u8) a0.Val.K), .seq (eL e_GValue a0.Val.L), .seq (eL (e_sl e_u8) a0.Deps), .bool a0.Taint, .int .i64 a0.Turned], .val true [.seq (eL e_u8 a1.Addr), .int .i64 a1.Val.Kind, .int .i64 a1.Val.N, .seq (eL e_u8 a1.Val.S), .seq (eL (e_sl e_u8) a1.Val.K), .seq (eL e_GValue a1.Val.L), .seq (eL (e_sl e_u8) a1.Deps), .bool a1.Taint, .int .i64 a1.Turned]] = some (.val false [.bool r], []) := by
  unfold S_laws_eqEntry at h
  obtain ⟨r1, hr1, h⟩ := bs h
  cases r1 with
  | true =>
   try dsimp only at h
   obtain ⟨r3, hr3, h⟩ := bs h
   cases r3 with
   | true =>
    try dsimp only at h
    obtain ⟨r5, hr5, h⟩ := bs h
    cases r5 with
    | true =>
     try dsimp only at h
     cases c7 : a0.Taint with
     | true =>
      rw [c7] at h
      try dsimp only at h
      cases c8 : a1.Taint with
      | true =>
       rw [c8] at h
       try dsimp only at h
       rcases ite_some h with ⟨c9, h⟩ | ⟨c9, h⟩
       ·obtain rfl := Option.some.inj h
        exact call_wQ [.cl (ok_laws_eqByteS a0.Addr a1.Addr _ hr1), .nt true, .cl (ok_laws_eqValue a0.Val a1.Val _ hr3), .nt true, .cl (ok_laws_eqByteSS a0.Deps a1.Deps _ hr5), .nt true, ⟨.eqB true true, .b true, rfl⟩, .nt true, .eT c9, .nt true] rfl fd_31 (by kernel_rfl)
       ·obtain rfl := Option.some.inj h
        exact call_wQ [.cl (ok_laws_eqByteS a0.Addr a1.Addr _ hr1), .nt true, .cl (ok_laws_eqValue a0.Val a1.Val _ hr3), .nt true, .cl (ok_laws_eqByteSS a0.Deps a1.Deps _ hr5), .nt true, ⟨.eqB true true, .b true, rfl⟩, .nt true, .eF c9, .nt false] rfl fd_31 (by kernel_rfl)
      | false =>
       rw [c8] at h
       try dsimp only at h
       obtain rfl := Option.some.inj h
       exact call_wQ [.cl (ok_laws_eqByteS a0.Addr a1.Addr _ hr1), .nt true, .cl (ok_laws_eqValue a0.Val a1.Val _ hr3), .nt true, .cl (ok_laws_eqByteSS a0.Deps a1.Deps _ hr5), .nt true, ⟨.eqB true false, .b false, rfl⟩, .nt false] rfl fd_31 (by kernel_rfl)
     | false =>
      rw [c7] at h
      try dsimp only at h
      cases c8 : a1.Taint with
      | true =>
       rw [c8] at h
       try dsimp only at h
       obtain rfl := Option.some.inj h
       exact call_wQ [.cl (ok_laws_eqByteS a0.Addr a1.Addr _ hr1), .nt true, .cl (ok_laws_eqValue a0.Val a1.Val _ hr3), .nt true, .cl (ok_laws_eqByteSS a0.Deps a1.Deps _ hr5), .nt true, ⟨.eqB false true, .b false, rfl⟩, .nt false] rfl fd_31 (by kernel_rfl)
      | false =>
       rw [c8] at h
       try dsimp only at h
       rcases ite_some h with ⟨c9, h⟩ | ⟨c9, h⟩
       ·obtain rfl := Option.some.inj h
        exact call_wQ [.cl (ok_laws_eqByteS a0.Addr a1.Addr _ hr1), .nt true, .cl (ok_laws_eqValue a0.Val a1.Val _ hr3), .nt true, .cl (ok_laws_eqByteSS a0.Deps a1.Deps _ hr5), .nt true, ⟨.eqB false false, .b true, rfl⟩, .nt true, .eT c9, .nt true] rfl fd_31 (by kernel_rfl)
       ·obtain rfl := Option.some.inj h
        exact call_wQ [.cl (ok_laws_eqByteS a0.Addr a1.Addr _ hr1), .nt true, .cl (ok_laws_eqValue a0.Val a1.Val _ hr3), .nt true, .cl (ok_laws_eqByteSS a0.Deps a1.Deps _ hr5), .nt true, ⟨.eqB false false, .b true, rfl⟩, .nt true, .eF c9, .nt false] rfl fd_31 (by kernel_rfl)
    | false =>
     try dsimp only at h
     obtain rfl := Option.some.inj h
     exact call_wQ [.cl (ok_laws_eqByteS a0.Addr a1.Addr _ hr1), .nt true, .cl (ok_laws_eqValue a0.Val a1.Val _ hr3), .nt true, .cl (ok_laws_eqByteSS a0.Deps a1.Deps _ hr5), .nt false] rfl fd_31 (by kernel_rfl)
   | false =>
    try dsimp only at h
    obtain rfl := Option.some.inj h
    exact call_wQ [.cl (ok_laws_eqByteS a0.Addr a1.Addr _ hr1), .nt true, .cl (ok_laws_eqValue a0.Val a1.Val _ hr3), .nt false] rfl fd_31 (by kernel_rfl)
  | false =>
   try dsimp only at h
   obtain rfl := Option.some.inj h
   exact call_wQ [.cl (ok_laws_eqByteS a0.Addr a1.Addr _ hr1), .nt false] rfl fd_31 (by kernel_rfl)
def L_laws_eqEntryS_l0 (a0 : (List GEntry)) (a1 : (List GEntry)) : Nat → Int → Option (Bool ⊕ Int)
  | 0, _ => none
  | m + 1, v2 =>
    if v2 < ((a0.length : Nat) : Int) then
      (natO v2).bind fun i2 =>
      (a0[i2]?).bind fun x3 =>
      (a1[i2]?).bind fun x4 =>
      (S_laws_eqEntry x3 x4).bind fun r5 =>
      match r5 with
      | true =>
        L_laws_eqEntryS_l0 a0 a1 m (w64 (v2 + 1))
      | false =>
        some (.inl false)
    else
      some (.inr v2)
theorem gl_laws_eqEntryS_l0 (a0 : (List GEntry)) (a1 : (List GEntry)) (m : Nat) : ∀ (v2 : Int) (o : (Bool ⊕ Int)), L_laws_eqEntryS_l0 a0 a1 m v2 = some o → (mach cfg).loop 67 (loopB Tryz.f67 0) ⟨[(0, .val false [.seq (eL e_GEntry a0)]), (1, .val false [.seq (eL e_GEntry a1)]), (5, .val false [.int .i64 v2])], [], 0⟩ = some (match o with | .inl o_0 => (.ret, (⟨[(4, .val false [.bool o_0])], [], 0⟩ : S)) | .inr (o_1) => (.exit 0, (⟨[(0, .val false [.seq (eL e_GEntry a0)]), (1, .val false [.seq (eL e_GEntry a1)]), (5, .val false [.int .i64 o_1]), (14, .val false [.bool false])], [], 0⟩ : S))) := by
  induction m with
  | zero => intro v2 o h; cases h
  | succ m ih =>
    intro v2 o h
    rw [L_laws_eqEntryS_l0] at h
    rcases ite_some h with ⟨c1, h⟩ | ⟨c1, h⟩
    ·obtain ⟨i2, hi2, h⟩ := bs h
     obtain ⟨x3, hx3, h⟩ := bs h
     obtain ⟨x4, hx4, h⟩ := bs h
     obtain ⟨r5, hr5, h⟩ := bs h
     cases r5 with
     | true =>
      try dsimp only at h
      exact loop_nQ [.le e_GEntry a0, .lT c1, .na hi2, .ix hx3 (eq_GEntry x3), .na hi2, .ix hx4 (eq_GEntry x4), .cl (ok_laws_eqEntry x3 x4 _ hr5), .nt true, .ad v2 1] (by kernel_rfl) (ih (w64 (v2 + 1)) o h)
     | false =>
      try dsimp only at h
      obtain rfl := Option.some.inj h
      exact loop_eQ [.le e_GEntry a0, .lT c1, .na hi2, .ix hx3 (eq_GEntry x3), .na hi2, .ix hx4 (eq_GEntry x4), .cl (ok_laws_eqEntry x3 x4 _ hr5), .nt false] (by kernel_rfl) (by intro h; cases h)
    ·obtain rfl := Option.some.inj h
     exact loop_eQ [.le e_GEntry a0, .lF c1] (by kernel_rfl) (by intro h; cases h)
def T_laws_eqEntryS (n : Nat) (a0 : (List GEntry)) (a1 : (List GEntry)) : Option Bool :=
  if ((a0.length : Nat) : Int) = ((a1.length : Nat) : Int) then
    (L_laws_eqEntryS_l0 a0 a1 n 0).bind fun o2 =>
    match o2 with
    | .inl o2_0 =>
      some o2_0
    | .inr (o2_1) =>
      some true
  else
    some false
set_option maxRecDepth 100000 in
theorem fd_67 : cfg.funcs 67 = some (bodyOf Tryz.f67, Tryz.f67.ntmps, Tryz.f67.results.toList) := fn_of Tryz.func67 (by kernel_rfl) (by kernel_rfl)
theorem g_laws_eqEntryS (n : Nat) (a0 : (List GEntry)) (a1 : (List GEntry)) (r : Bool) (h : T_laws_eqEntryS n a0 a1 = some r) : (mach cfg).call 67 [] [.val false [.seq (eL e_GEntry a0)], .val false [.seq (eL e_GEntry a1)]] = some (.val false [.bool r], []) := by
  unfold T_laws_eqEntryS at h
  rcases ite_some h with ⟨c1, h⟩ | ⟨c1, h⟩
  ·obtain ⟨o2, ho2, h⟩ := bs h
   rcases o2 with o2_0 | o2_1
   · try dsimp only at h
     obtain rfl := Option.some.inj h
     exact call_wQ [.le e_GEntry a0, .le e_GEntry a1, .eT c1, .nt true, .lp (gl_laws_eqEntryS_l0 a0 a1 _ 0 _ ho2)] rfl fd_67 (by kernel_rfl)
   · try dsimp only at h
     obtain rfl := Option.some.inj h
     exact call_wQ [.le e_GEntry a0, .le e_GEntry a1, .eT c1, .nt true, .lp (gl_laws_eqEntryS_l0 a0 a1 _ 0 _ ho2)] rfl fd_67 (by kernel_rfl)
  ·obtain rfl := Option.some.inj h
   exact call_wQ [.le e_GEntry a0, .le e_GEntry a1, .eF c1, .nt false] rfl fd_67 (by kernel_rfl)
theorem eqEntryS_loop {a : List GEntry} (ha : a.length <= 2 ^ 40) (hG : ∀ v ∈ a, S_laws_eqEntry v v = some true) : ∀ (d i m : Nat), i + d = a.length → d < m → ∃ z, L_laws_eqEntryS_l0 a a m (i : Int) = some (.inr z) := by
  intro d
  induction d with
  | zero =>
    intro i m hi hm
    obtain ⟨m, rfl, _⟩ := fuel hm
    exact ⟨_, by rw [L_laws_eqEntryS_l0, if_neg (by omega)]⟩
  | succ d ih =>
    intro i m hi hm
    obtain ⟨m, rfl, hm'⟩ := fuel hm
    have hil : i < a.length := by omega
    rw [L_laws_eqEntryS_l0, if_pos (by omega), natO_nat, Option.bind_some, get_some hil, Option.bind_some, Option.bind_some, hG _ (List.getElem_mem hil), Option.bind_some, w64_succ (by omega)]
    exact ih (i + 1) m (by omega) (by omega)
theorem eqEntry_eq {v : GEntry} (h : esz v <= 2 ^ 39) : S_laws_eqEntry v v = some true := by
  unfold esz at h
  unfold S_laws_eqEntry S_laws_eqByteS S_laws_eqValue S_laws_eqByteSS
  rw [if_pos ⟨rfl, by omega⟩, Option.bind_some]
  dsimp only
  rw [if_pos ⟨rfl, by omega⟩, Option.bind_some]
  dsimp only
  rw [if_pos ⟨rfl, by omega⟩, Option.bind_some]
  dsimp only
  rw [if_pos rfl]
  cases v.Taint <;> rfl
open Classical in
noncomputable def S_laws_eqEntryS (a0 : (List GEntry)) (a1 : (List GEntry)) : Option Bool := if a0 = a1 ∧ eszs a0 <= 2 ^ 39 then some true else none
theorem eqEntryS_eq {s : List GEntry} (h : eszs s <= 2 ^ 39) : S_laws_eqEntryS s s = some true := if_pos ⟨rfl, h⟩
theorem spec_laws_eqEntryS (a0 : (List GEntry)) (a1 : (List GEntry)) (r : Bool) (h : S_laws_eqEntryS a0 a1 = some r) : ∃ n, T_laws_eqEntryS n a0 a1 = some r := by
  unfold S_laws_eqEntryS at h
  obtain ⟨⟨he, ha⟩, h2⟩ := need_c h
  clear h
  subst he
  have hl := eszs_len a0
  refine ⟨a0.length + 1, ?_⟩
  obtain ⟨z, hz⟩ := eqEntryS_loop (a := a0) (by omega) (fun v hv => eqEntry_eq (by have := eszs_mem hv; omega)) a0.length 0 (a0.length + 1) (by omega) (by omega)
  rw [show ((0 : Nat) : Int) = 0 from rfl] at hz
  unfold T_laws_eqEntryS
  rw [if_pos rfl, hz]; exact h2
theorem ok_laws_eqEntryS (a0 : (List GEntry)) (a1 : (List GEntry)) (r : Bool) (h : S_laws_eqEntryS a0 a1 = some r) : (mach cfg).call 67 [] [.val false [.seq (eL e_GEntry a0)], .val false [.seq (eL e_GEntry a1)]] = some (.val false [.bool r], []) := by
  obtain ⟨n, hn⟩ := spec_laws_eqEntryS a0 a1 r h
  exact g_laws_eqEntryS n a0 a1 r hn
def S_laws_eqState (a0 : GState) (a1 : GState) : Option Bool :=
  if a0.Serial = a1.Serial then
    match a0.Open with
    | true =>
      match a1.Open with
      | true =>
        (S_laws_eqByteS a0.Pending a1.Pending).bind fun r4 =>
        match r4 with
        | true =>
          if a0.Act = a1.Act then
            (S_laws_eqEntryS a0.Entries a1.Entries).bind fun r7 =>
            match r7 with
            | true =>
              some true
            | false =>
              some false
          else
            some false
        | false =>
          some false
      | false =>
        some false
    | false =>
      match a1.Open with
      | true =>
        some false
      | false =>
        (S_laws_eqByteS a0.Pending a1.Pending).bind fun r4 =>
        match r4 with
        | true =>
          if a0.Act = a1.Act then
            (S_laws_eqEntryS a0.Entries a1.Entries).bind fun r7 =>
            match r7 with
            | true =>
              some true
            | false =>
              some false
          else
            some false
        | false =>
          some false
  else
    some false
set_option maxRecDepth 100000 in
theorem fd_17 : cfg.funcs 17 = some (bodyOf Tryz.f17, Tryz.f17.ntmps, Tryz.f17.results.toList) := fn_of Tryz.func17 (by kernel_rfl) (by kernel_rfl)
theorem ok_laws_eqState (a0 : GState) (a1 : GState) (r : Bool) (h : S_laws_eqState a0 a1 = some r) : (mach cfg).call 17 [] [.val true [.int .i64 a0.Serial, .bool a0.Open, .seq (eL e_u8 a0.Pending), .int .i64 a0.Act, .seq (eL e_GEntry a0.Entries)], .val true [.int .i64 a1.Serial, .bool a1.Open, .seq (eL e_u8 a1.Pending), .int .i64 a1.Act, .seq (eL e_GEntry a1.Entries)]] = some (.val false [.bool r], []) := by
  unfold S_laws_eqState at h
  rcases ite_some h with ⟨c1, h⟩ | ⟨c1, h⟩
  ·cases c2 : a0.Open with
   | true =>
    rw [c2] at h
    try dsimp only at h
    cases c3 : a1.Open with
    | true =>
     rw [c3] at h
     try dsimp only at h
     obtain ⟨r4, hr4, h⟩ := bs h
     cases r4 with
     | true =>
      try dsimp only at h
      rcases ite_some h with ⟨c6, h⟩ | ⟨c6, h⟩
      ·obtain ⟨r7, hr7, h⟩ := bs h
       cases r7 with
       | true =>
        try dsimp only at h
        obtain rfl := Option.some.inj h
        exact call_wQ [.eT c1, .nt true, ⟨.eqB true true, .b true, rfl⟩, .nt true, .cl (ok_laws_eqByteS a0.Pending a1.Pending _ hr4), .nt true, .eT c6, .nt true, .cl (ok_laws_eqEntryS a0.Entries a1.Entries _ hr7), .nt true] rfl fd_17 (by kernel_rfl)
       | false =>
        try dsimp only at h
        obtain rfl := Option.some.inj h
        exact call_wQ [.eT c1, .nt true, ⟨.eqB true true, .b true, rfl⟩, .nt true, .cl (ok_laws_eqByteS a0.Pending a1.Pending _ hr4), .nt true, .eT c6, .nt true, .cl (ok_laws_eqEntryS a0.Entries a1.Entries _ hr7), .nt false] rfl fd_17 (by kernel_rfl)
      ·obtain rfl := Option.some.inj h
       exact call_wQ [.eT c1, .nt true, ⟨.eqB true true, .b true, rfl⟩, .nt true, .cl (ok_laws_eqByteS a0.Pending a1.Pending _ hr4), .nt true, .eF c6, .nt false] rfl fd_17 (by kernel_rfl)
     | false =>
      try dsimp only at h
      obtain rfl := Option.some.inj h
      exact call_wQ [.eT c1, .nt true, ⟨.eqB true true, .b true, rfl⟩, .nt true, .cl (ok_laws_eqByteS a0.Pending a1.Pending _ hr4), .nt false] rfl fd_17 (by kernel_rfl)
    | false =>
     rw [c3] at h
     try dsimp only at h
     obtain rfl := Option.some.inj h
     exact call_wQ [.eT c1, .nt true, ⟨.eqB true false, .b false, rfl⟩, .nt false] rfl fd_17 (by kernel_rfl)
   | false =>
    rw [c2] at h
    try dsimp only at h
    cases c3 : a1.Open with
    | true =>
     rw [c3] at h
     try dsimp only at h
     obtain rfl := Option.some.inj h
     exact call_wQ [.eT c1, .nt true, ⟨.eqB false true, .b false, rfl⟩, .nt false] rfl fd_17 (by kernel_rfl)
    | false =>
     rw [c3] at h
     try dsimp only at h
     obtain ⟨r4, hr4, h⟩ := bs h
     cases r4 with
     | true =>
      try dsimp only at h
      rcases ite_some h with ⟨c6, h⟩ | ⟨c6, h⟩
      ·obtain ⟨r7, hr7, h⟩ := bs h
       cases r7 with
       | true =>
        try dsimp only at h
        obtain rfl := Option.some.inj h
        exact call_wQ [.eT c1, .nt true, ⟨.eqB false false, .b true, rfl⟩, .nt true, .cl (ok_laws_eqByteS a0.Pending a1.Pending _ hr4), .nt true, .eT c6, .nt true, .cl (ok_laws_eqEntryS a0.Entries a1.Entries _ hr7), .nt true] rfl fd_17 (by kernel_rfl)
       | false =>
        try dsimp only at h
        obtain rfl := Option.some.inj h
        exact call_wQ [.eT c1, .nt true, ⟨.eqB false false, .b true, rfl⟩, .nt true, .cl (ok_laws_eqByteS a0.Pending a1.Pending _ hr4), .nt true, .eT c6, .nt true, .cl (ok_laws_eqEntryS a0.Entries a1.Entries _ hr7), .nt false] rfl fd_17 (by kernel_rfl)
      ·obtain rfl := Option.some.inj h
       exact call_wQ [.eT c1, .nt true, ⟨.eqB false false, .b true, rfl⟩, .nt true, .cl (ok_laws_eqByteS a0.Pending a1.Pending _ hr4), .nt true, .eF c6, .nt false] rfl fd_17 (by kernel_rfl)
     | false =>
      try dsimp only at h
      obtain rfl := Option.some.inj h
      exact call_wQ [.eT c1, .nt true, ⟨.eqB false false, .b true, rfl⟩, .nt true, .cl (ok_laws_eqByteS a0.Pending a1.Pending _ hr4), .nt false] rfl fd_17 (by kernel_rfl)
  ·obtain rfl := Option.some.inj h
   exact call_wQ [.eF c1, .nt false] rfl fd_17 (by kernel_rfl)
def L_laws_markByteS_l0 : Nat → Int → Int → (List UInt8) → Option (Int × Int × (List UInt8))
  | 0, _, _, _ => none
  | m + 1, a0, v1, e0 =>
    if v1 < ((e0.length : Nat) : Int) then
      (natO v1).bind fun i2 =>
      (e0[i2]?).bind fun x3 =>
      L_laws_markByteS_l0 m (w64 (a0 + 1)) (w64 (v1 + 1)) (e0.set i2 (b8 a0))
    else
      some (a0, v1, e0)
theorem gl_laws_markByteS_l0 (m : Nat) : ∀ (a0 : Int) (v1 : Int) (e0 : (List UInt8)) (o : (Int × Int × (List UInt8))), L_laws_markByteS_l0 m a0 v1 e0 = some o → (mach cfg).loop 28 (loopB Tryz.f28 0) ⟨[(0, .val false [.ref 0]), (1, .val false [.int .i64 a0]), (5, .val false [.int .i64 v1])], [.obj 1 (eL e_u8 e0)], 1⟩ = some (match o with | ⟨o_0, o_1, o_2⟩ => (.exit 0, (⟨[(0, .val false [.ref 0]), (1, .val false [.int .i64 o_0]), (5, .val false [.int .i64 o_1]), (9, .val false [.bool false])], [.obj 1 (eL e_u8 o_2)], 1⟩ : S))) := by
  induction m with
  | zero => intro a0 v1 e0 o h; cases h
  | succ m ih =>
    intro a0 v1 e0 o h
    rw [L_laws_markByteS_l0] at h
    rcases ite_some h with ⟨c1, h⟩ | ⟨c1, h⟩
    ·obtain ⟨i2, hi2, h⟩ := bs h
     obtain ⟨x3, hx3, h⟩ := bs h
     exact loop_nQ [.le e_u8 e0, .lT c1, ⟨.conv .u8 a0, .i (((b8 a0).toNat : Nat) : Int), A.conv8⟩, .na hi2, .ix0 e_u8 hx3, .ix0 e_u8 hx3, ⟨.setL (eL e_u8 e0) i2 [.int .u8 (((b8 a0).toNat : Nat) : Int)], .l (eL e_u8 (e0.set i2 (b8 a0))), (A.setL rfl)⟩, .ad a0 1, .ad v1 1] (by kernel_rfl) (ih (w64 (a0 + 1)) (w64 (v1 + 1)) (e0.set i2 (b8 a0)) o h)
    ·obtain rfl := Option.some.inj h
     exact loop_eQ [.le e_u8 e0, .lF c1] (by kernel_rfl) (by intro h; cases h)
def T_laws_markByteS (n : Nat) (a0 : Int) (e0 : (List UInt8)) : Option (Int × (List UInt8)) :=
  (L_laws_markByteS_l0 n a0 0 e0).bind fun ⟨o1_0, o1_1, o1_2⟩ =>
  some (o1_0, o1_2)
set_option maxRecDepth 100000 in
theorem fd_28 : cfg.funcs 28 = some (bodyOf Tryz.f28, Tryz.f28.ntmps, Tryz.f28.results.toList) := fn_of Tryz.func28 (by kernel_rfl) (by kernel_rfl)
theorem g_laws_markByteS (n : Nat) (a0 : Int) (e0 : (List UInt8)) (r : (Int × (List UInt8))) (h : T_laws_markByteS n a0 e0 = some r) : (mach cfg).call 28 [.obj 1 (eL e_u8 e0)] [.val false [.ref 0], .val false [.int .i64 a0]] = some (.val false [.int .i64 r.1], [.obj 1 (eL e_u8 r.2)]) := by
  unfold T_laws_markByteS at h
  obtain ⟨⟨o1_0, o1_1, o1_2⟩, ho1, h⟩ := bs h
  try dsimp only at h
  obtain rfl := Option.some.inj h
  exact call_wQ [.lp (gl_laws_markByteS_l0 _ a0 0 e0 _ ho1)] rfl fd_28 (by kernel_rfl)
theorem markByteS_loop : ∀ (l p : List UInt8) (k : Int) (m : Nat), 0 <= k → k + 2 * l.length <= 2 ^ 41 → p.length + l.length <= 2 ^ 41 → l.length < m → ∃ z, L_laws_markByteS_l0 m k ((p.length : Nat) : Int) (p ++ l) = some (k + l.length, z, p ++ mB k l) := by
  intro l
  induction l with
  | nil =>
    intro p k m _ _ _ hm
    obtain ⟨m, rfl, _⟩ := fuel hm
    exact ⟨_, by rw [L_laws_markByteS_l0, if_neg (nlt_end p)]; simp [mB]; rfl⟩
  | cons x l ih =>
    intro p k m h0 h1 h2 hm
    obtain ⟨m, rfl, hm'⟩ := fuel hm
    simp only [List.length_cons] at h1 h2 hm'
    obtain ⟨z, hz⟩ := ih (p ++ [b8 k]) (k + 1) m (by omega) (by omega) (by simp; omega) (by omega)
    rw [L_laws_markByteS_l0, if_pos (lt_mid p x l), natO_nat, Option.bind_some, get_mid, Option.bind_some, set_mid, w64_len p (b8 k) (by omega), w64_id (x := k + 1) (by omega) (by omega), snoc_app p (b8 k) l, hz]
    refine ⟨z, ?_⟩
    rw [mB, snoc_app p (b8 k) (mB (k + 1) l)]
    simp only [List.length_cons]
    rw [show k + 1 + (l.length : Int) = k + ((l.length + 1 : Nat) : Int) by omega]
def S_laws_markByteS (a0 : Int) (e0 : (List UInt8)) : Option (Int × (List UInt8)) := if 0 <= a0 ∧ a0 + 2 * e0.length <= 2 ^ 41 then some (a0 + e0.length, mB a0 e0) else none
theorem markByteS_eq {a : Int} {s : List UInt8} (h0 : 0 <= a) (h1 : a + 2 * s.length <= 2 ^ 41) : S_laws_markByteS a s = some (a + s.length, mB a s) := if_pos ⟨h0, h1⟩
theorem spec_laws_markByteS (a0 : Int) (e0 : (List UInt8)) (r : (Int × (List UInt8))) (h : S_laws_markByteS a0 e0 = some r) : ∃ n, T_laws_markByteS n a0 e0 = some r := by
  unfold S_laws_markByteS at h
  obtain ⟨⟨h0, h1⟩, h⟩ := need_c h
  obtain ⟨z, hz⟩ := markByteS_loop e0 [] a0 (e0.length + 1) h0 h1 (by simp; omega) (by omega)
  refine ⟨e0.length + 1, ?_⟩
  unfold T_laws_markByteS
  simp only [List.nil_append, List.length_nil, Int.natCast_zero] at hz
  rw [hz]
  exact h
theorem ok_laws_markByteS (a0 : Int) (e0 : (List UInt8)) (r : (Int × (List UInt8))) (h : S_laws_markByteS a0 e0 = some r) : (mach cfg).call 28 [.obj 1 (eL e_u8 e0)] [.val false [.ref 0], .val false [.int .i64 a0]] = some (.val false [.int .i64 r.1], [.obj 1 (eL e_u8 r.2)]) := by
  obtain ⟨n, hn⟩ := spec_laws_markByteS a0 e0 r h
  exact g_laws_markByteS n a0 e0 r hn
def L_laws_markByteSS_l0 : Nat → Int → Int → (List (List UInt8)) → Option (Int × Int × (List (List UInt8)))
  | 0, _, _, _ => none
  | m + 1, a0, v1, e0 =>
    if v1 < ((e0.length : Nat) : Int) then
      (natO v1).bind fun i2 =>
      (e0[i2]?).bind fun x3 =>
      (S_laws_markByteS a0 x3).bind fun ⟨r4_0, r4_1⟩ =>
      L_laws_markByteSS_l0 m r4_0 (w64 (v1 + 1)) (e0.set i2 r4_1)
    else
      some (a0, v1, e0)
theorem gl_laws_markByteSS_l0 (m : Nat) : ∀ (a0 : Int) (v1 : Int) (e0 : (List (List UInt8))) (o : (Int × Int × (List (List UInt8)))), L_laws_markByteSS_l0 m a0 v1 e0 = some o → (mach cfg).loop 22 (loopB Tryz.f22 0) ⟨[(0, .val false [.ref 0]), (1, .val false [.int .i64 a0]), (5, .val false [.int .i64 v1])], [.obj 1 (eL (o_sl 1 e_u8) e0)], 1⟩ = some (match o with | ⟨o_0, o_1, o_2⟩ => (.exit 0, (⟨[(0, .val false [.ref 0]), (1, .val false [.int .i64 o_0]), (5, .val false [.int .i64 o_1]), (9, .val false [.bool false])], [.obj 1 (eL (o_sl 1 e_u8) o_2)], 1⟩ : S))) := by
  induction m with
  | zero => intro a0 v1 e0 o h; cases h
  | succ m ih =>
    intro a0 v1 e0 o h
    rw [L_laws_markByteSS_l0] at h
    rcases ite_some h with ⟨c1, h⟩ | ⟨c1, h⟩
    ·obtain ⟨i2, hi2, h⟩ := bs h
     obtain ⟨x3, hx3, h⟩ := bs h
     obtain ⟨⟨r4_0, r4_1⟩, hr4, h⟩ := bs h
     try dsimp only at h
     exact loop_nQ [.le (o_sl 1 e_u8) e0, .lT c1, .na hi2, .ix0 (o_sl 1 e_u8) hx3, .ix0 (o_sl 1 e_u8) hx3, .cl (ok_laws_markByteS a0 x3 _ hr4), .ix0 (o_sl 1 e_u8) hx3, ⟨.setL (eL (o_sl 1 e_u8) e0) i2 [.own 1 (eL e_u8 r4_1)], .l (eL (o_sl 1 e_u8) (e0.set i2 r4_1)), (A.setL rfl)⟩, .ad v1 1] (by kernel_rfl) (ih r4_0 (w64 (v1 + 1)) (e0.set i2 r4_1) o h)
    ·obtain rfl := Option.some.inj h
     exact loop_eQ [.le (o_sl 1 e_u8) e0, .lF c1] (by kernel_rfl) (by intro h; cases h)
def T_laws_markByteSS (n : Nat) (a0 : Int) (e0 : (List (List UInt8))) : Option (Int × (List (List UInt8))) :=
  (L_laws_markByteSS_l0 n a0 0 e0).bind fun ⟨o1_0, o1_1, o1_2⟩ =>
  some (o1_0, o1_2)
set_option maxRecDepth 100000 in
theorem fd_22 : cfg.funcs 22 = some (bodyOf Tryz.f22, Tryz.f22.ntmps, Tryz.f22.results.toList) := fn_of Tryz.func22 (by kernel_rfl) (by kernel_rfl)
theorem g_laws_markByteSS (n : Nat) (a0 : Int) (e0 : (List (List UInt8))) (r : (Int × (List (List UInt8)))) (h : T_laws_markByteSS n a0 e0 = some r) : (mach cfg).call 22 [.obj 1 (eL (o_sl 1 e_u8) e0)] [.val false [.ref 0], .val false [.int .i64 a0]] = some (.val false [.int .i64 r.1], [.obj 1 (eL (o_sl 1 e_u8) r.2)]) := by
  unfold T_laws_markByteSS at h
  obtain ⟨⟨o1_0, o1_1, o1_2⟩, ho1, h⟩ := bs h
  try dsimp only at h
  obtain rfl := Option.some.inj h
  exact call_wQ [.lp (gl_laws_markByteSS_l0 _ a0 0 e0 _ ho1)] rfl fd_22 (by kernel_rfl)
theorem markByteSS_loop : ∀ (l p : List (List UInt8)) (k : Int) (m : Nat), 0 <= k → k + 2 * bsz l <= 2 ^ 41 → p.length + l.length <= 2 ^ 41 → l.length < m → ∃ z, L_laws_markByteSS_l0 m k ((p.length : Nat) : Int) (p ++ l) = some (k + cB l, z, p ++ mBB k l) := by
  intro l
  induction l with
  | nil =>
    intro p k m _ _ _ hm
    obtain ⟨m, rfl, _⟩ := fuel hm
    exact ⟨_, by rw [L_laws_markByteSS_l0, if_neg (nlt_end p)]; simp [mBB, cB]; rfl⟩
  | cons x l ih =>
    intro p k m h0 h1 h2 hm
    obtain ⟨m, rfl, hm'⟩ := fuel hm
    rw [bsz_cons] at h1
    simp only [List.length_cons] at h2 hm'
    obtain ⟨z, hz⟩ := ih (p ++ [mB k x]) (k + x.length) m (by omega) (by omega) (by simp; omega) (by omega)
    rw [L_laws_markByteSS_l0, if_pos (lt_mid p x l), natO_nat, Option.bind_some, get_mid, Option.bind_some, markByteS_eq (by omega) (by omega), Option.bind_some]
    dsimp only
    rw [set_mid, w64_len p (mB k x) (by omega), snoc_app p (mB k x) l, hz]
    refine ⟨z, ?_⟩
    rw [mBB, snoc_app p (mB k x) (mBB (k + x.length) l), cB_cons]
    rw [show k + (x.length : Int) + (cB l : Int) = k + ((x.length + cB l : Nat) : Int) by omega]
def S_laws_markByteSS (a0 : Int) (e0 : (List (List UInt8))) : Option (Int × (List (List UInt8))) := if 0 <= a0 ∧ a0 + 2 * bsz e0 <= 2 ^ 41 then some (a0 + cB e0, mBB a0 e0) else none
theorem markByteSS_eq {a : Int} {s : List (List UInt8)} (h0 : 0 <= a) (h1 : a + 2 * bsz s <= 2 ^ 41) : S_laws_markByteSS a s = some (a + cB s, mBB a s) := if_pos ⟨h0, h1⟩
theorem spec_laws_markByteSS (a0 : Int) (e0 : (List (List UInt8))) (r : (Int × (List (List UInt8)))) (h : S_laws_markByteSS a0 e0 = some r) : ∃ n, T_laws_markByteSS n a0 e0 = some r := by
  unfold S_laws_markByteSS at h
  obtain ⟨⟨h0, h1⟩, h⟩ := need_c h
  have := bsz_len e0
  obtain ⟨z, hz⟩ := markByteSS_loop e0 [] a0 (e0.length + 1) h0 h1 (by simp; omega) (by omega)
  refine ⟨e0.length + 1, ?_⟩
  unfold T_laws_markByteSS
  simp only [List.nil_append, List.length_nil, Int.natCast_zero] at hz
  rw [hz]
  exact h
theorem ok_laws_markByteSS (a0 : Int) (e0 : (List (List UInt8))) (r : (Int × (List (List UInt8)))) (h : S_laws_markByteSS a0 e0 = some r) : (mach cfg).call 22 [.obj 1 (eL (o_sl 1 e_u8) e0)] [.val false [.ref 0], .val false [.int .i64 a0]] = some (.val false [.int .i64 r.1], [.obj 1 (eL (o_sl 1 e_u8) r.2)]) := by
  obtain ⟨n, hn⟩ := spec_laws_markByteSS a0 e0 r h
  exact g_laws_markByteSS n a0 e0 r hn
def L_laws_markValueS_l0 (G_laws_markValueS : Int → (List GValue) → Option (Int × (List GValue))) : Nat → Int → Int → (List GValue) → Option (Int × Int × (List GValue))
  | 0, _, _, _ => none
  | m + 1, a0, v1, e0 =>
    if v1 < ((e0.length : Nat) : Int) then
      (natO v1).bind fun i2 =>
      (e0[i2]?).bind fun x3 =>
      ((e0.set i2 (GValue.mk a0 x3.N x3.S x3.K x3.L))[i2]?).bind fun x4 =>
      (((e0.set i2 (GValue.mk a0 x3.N x3.S x3.K x3.L)).set i2 (GValue.mk x4.Kind (w64 (a0 + 1)) x4.S x4.K x4.L))[i2]?).bind fun x5 =>
      (S_laws_markByteS (w64 ((w64 (a0 + 1)) + 1)) x5.S).bind fun ⟨r6_0, r6_1⟩ =>
      ((((e0.set i2 (GValue.mk a0 x3.N x3.S x3.K x3.L)).set i2 (GValue.mk x4.Kind (w64 (a0 + 1)) x4.S x4.K x4.L)).set i2 (GValue.mk x5.Kind x5.N r6_1 x5.K x5.L))[i2]?).bind fun x7 =>
      (S_laws_markByteSS r6_0 x7.K).bind fun ⟨r8_0, r8_1⟩ =>
      (((((e0.set i2 (GValue.mk a0 x3.N x3.S x3.K x3.L)).set i2 (GValue.mk x4.Kind (w64 (a0 + 1)) x4.S x4.K x4.L)).set i2 (GValue.mk x5.Kind x5.N r6_1 x5.K x5.L)).set i2 (GValue.mk x7.Kind x7.N x7.S r8_1 x7.L))[i2]?).bind fun x9 =>
      (G_laws_markValueS r8_0 x9.L).bind fun ⟨r10_0, r10_1⟩ =>
      L_laws_markValueS_l0 G_laws_markValueS m r10_0 (w64 (v1 + 1)) (((((e0.set i2 (GValue.mk a0 x3.N x3.S x3.K x3.L)).set i2 (GValue.mk x4.Kind (w64 (a0 + 1)) x4.S x4.K x4.L)).set i2 (GValue.mk x5.Kind x5.N r6_1 x5.K x5.L)).set i2 (GValue.mk x7.Kind x7.N x7.S r8_1 x7.L)).set i2 (GValue.mk x9.Kind x9.N x9.S x9.K r10_1))
    else
      some (a0, v1, e0)
theorem gl_laws_markValueS_l0 (G_laws_markValueS : Int → (List GValue) → Option (Int × (List GValue))) (H_laws_markValueS : ∀ (a0 : Int) (e0 : (List GValue)) (r : (Int × (List GValue))), G_laws_markValueS a0 e0 = some r → (mach cfg).call 114 [.obj 5 (eL o_GValue e0)] [.val false [.ref 0], .val false [.int .i64 a0]] = some (.val false [.int .i64 r.1], [.obj 5 (eL o_GValue r.2)])) (m : Nat) : ∀ (a0 : Int) (v1 : Int) (e0 : (List GValue)) (o : (Int × Int × (List GValue))), L_laws_markValueS_l0 G_laws_markValueS m a0 v1 e0 = some o → (mach cfg).loop 114 (loopB Tryz.f114 0) ⟨[(0, .val false [.ref 0]), (1, .val false [.int .i64 a0]), (5, .val false [.int .i64 v1])], [.obj 5 (eL o_GValue e0)], 1⟩ = some (match o with | ⟨o_0, o_1, o_2⟩ => (.exit 0, (⟨[(0, .val false [.ref 0]), (1, .val false [.int .i64 o_0]), (5, .val false [.int .i64 o_1]), (9, .val false [.bool false])], [.obj 5 (eL o_GValue o_2)], 1⟩ : S))) := by
  induction m with
  | zero => intro a0 v1 e0 o h; cases h
  | succ m ih =>
    intro a0 v1 e0 o h
    rw [L_laws_markValueS_l0] at h
    rcases ite_some h with ⟨c1, h⟩ | ⟨c1, h⟩
    ·obtain ⟨i2, hi2, h⟩ := bs h
     obtain ⟨x3, hx3, h⟩ := bs h
     obtain ⟨x4, hx4, h⟩ := bs h
     obtain ⟨x5, hx5, h⟩ := bs h
     obtain ⟨⟨r6_0, r6_1⟩, hr6, h⟩ := bs h
     try dsimp only at h
     obtain ⟨x7, hx7, h⟩ := bs h
     obtain ⟨⟨r8_0, r8_1⟩, hr8, h⟩ := bs h
     try dsimp only at h
     obtain ⟨x9, hx9, h⟩ := bs h
     obtain ⟨⟨r10_0, r10_1⟩, hr10, h⟩ := bs h
     try dsimp only at h
     exact loop_nQ [.le o_GValue e0, .lT c1, .na hi2, .ix hx3 (oeq_GValue x3), .ix hx3 (oeq_GValue x3), ⟨.setL (eL o_GValue e0) i2 [.int .i64 a0, .int .i64 x3.N, .own 1 (eL e_u8 x3.S), .own 1 (eL (o_sl 1 e_u8) x3.K), .own 5 (eL o_GValue x3.L)], .l (eL o_GValue (e0.set i2 (GValue.mk a0 x3.N x3.S x3.K x3.L))), (A.setL (oeq_GValue (GValue.mk a0 x3.N x3.S x3.K x3.L)))⟩, .ad a0 1, .na hi2, .ix hx4 (oeq_GValue x4), .ix hx4 (oeq_GValue x4), ⟨.setL (eL o_GValue (e0.set i2 (GValue.mk a0 x3.N x3.S x3.K x3.L))) i2 [.int .i64 x4.Kind, .int .i64 (w64 (a0 + 1)), .own 1 (eL e_u8 x4.S), .own 1 (eL (o_sl 1 e_u8) x4.K), .own 5 (eL o_GValue x4.L)], .l (eL o_GValue ((e0.set i2 (GValue.mk a0 x3.N x3.S x3.K x3.L)).set i2 (GValue.mk x4.Kind (w64 (a0 + 1)) x4.S x4.K x4.L))), (A.setL (oeq_GValue (GValue.mk x4.Kind (w64 (a0 + 1)) x4.S x4.K x4.L)))⟩, .ad (w64 (a0 + 1)) 1, .na hi2, .ix hx5 (oeq_GValue x5), .ix hx5 (oeq_GValue x5), .cl (ok_laws_markByteS (w64 ((w64 (a0 + 1)) + 1)) x5.S _ hr6), .ix hx5 (oeq_GValue x5), ⟨.setL (eL o_GValue ((e0.set i2 (GValue.mk a0 x3.N x3.S x3.K x3.L)).set i2 (GValue.mk x4.Kind (w64 (a0 + 1)) x4.S x4.K x4.L))) i2 [.int .i64 x5.Kind, .int .i64 x5.N, .own 1 (eL e_u8 r6_1), .own 1 (eL (o_sl 1 e_u8) x5.K), .own 5 (eL o_GValue x5.L)], .l (eL o_GValue (((e0.set i2 (GValue.mk a0 x3.N x3.S x3.K x3.L)).set i2 (GValue.mk x4.Kind (w64 (a0 + 1)) x4.S x4.K x4.L)).set i2 (GValue.mk x5.Kind x5.N r6_1 x5.K x5.L))), (A.setL (oeq_GValue (GValue.mk x5.Kind x5.N r6_1 x5.K x5.L)))⟩, .na hi2, .ix hx7 (oeq_GValue x7), .ix hx7 (oeq_GValue x7), .cl (ok_laws_markByteSS r6_0 x7.K _ hr8), .ix hx7 (oeq_GValue x7), ⟨.setL (eL o_GValue (((e0.set i2 (GValue.mk a0 x3.N x3.S x3.K x3.L)).set i2 (GValue.mk x4.Kind (w64 (a0 + 1)) x4.S x4.K x4.L)).set i2 (GValue.mk x5.Kind x5.N r6_1 x5.K x5.L))) i2 [.int .i64 x7.Kind, .int .i64 x7.N, .own 1 (eL e_u8 x7.S), .own 1 (eL (o_sl 1 e_u8) r8_1), .own 5 (eL o_GValue x7.L)], .l (eL o_GValue ((((e0.set i2 (GValue.mk a0 x3.N x3.S x3.K x3.L)).set i2 (GValue.mk x4.Kind (w64 (a0 + 1)) x4.S x4.K x4.L)).set i2 (GValue.mk x5.Kind x5.N r6_1 x5.K x5.L)).set i2 (GValue.mk x7.Kind x7.N x7.S r8_1 x7.L))), (A.setL (oeq_GValue (GValue.mk x7.Kind x7.N x7.S r8_1 x7.L)))⟩, .na hi2, .ix hx9 (oeq_GValue x9), .ix hx9 (oeq_GValue x9), .cl (H_laws_markValueS r8_0 x9.L _ hr10), .ix hx9 (oeq_GValue x9), ⟨.setL (eL o_GValue ((((e0.set i2 (GValue.mk a0 x3.N x3.S x3.K x3.L)).set i2 (GValue.mk x4.Kind (w64 (a0 + 1)) x4.S x4.K x4.L)).set i2 (GValue.mk x5.Kind x5.N r6_1 x5.K x5.L)).set i2 (GValue.mk x7.Kind x7.N x7.S r8_1 x7.L))) i2 [.int .i64 x9.Kind, .int .i64 x9.N, .own 1 (eL e_u8 x9.S), .own 1 (eL (o_sl 1 e_u8) x9.K), .own 5 (eL o_GValue r10_1)], .l (eL o_GValue (((((e0.set i2 (GValue.mk a0 x3.N x3.S x3.K x3.L)).set i2 (GValue.mk x4.Kind (w64 (a0 + 1)) x4.S x4.K x4.L)).set i2 (GValue.mk x5.Kind x5.N r6_1 x5.K x5.L)).set i2 (GValue.mk x7.Kind x7.N x7.S r8_1 x7.L)).set i2 (GValue.mk x9.Kind x9.N x9.S x9.K r10_1))), (A.setL (oeq_GValue (GValue.mk x9.Kind x9.N x9.S x9.K r10_1)))⟩, .ad v1 1] (by kernel_rfl) (ih r10_0 (w64 (v1 + 1)) (((((e0.set i2 (GValue.mk a0 x3.N x3.S x3.K x3.L)).set i2 (GValue.mk x4.Kind (w64 (a0 + 1)) x4.S x4.K x4.L)).set i2 (GValue.mk x5.Kind x5.N r6_1 x5.K x5.L)).set i2 (GValue.mk x7.Kind x7.N x7.S r8_1 x7.L)).set i2 (GValue.mk x9.Kind x9.N x9.S x9.K r10_1)) o h)
    ·obtain rfl := Option.some.inj h
     exact loop_eQ [.le o_GValue e0, .lF c1] (by kernel_rfl) (by intro h; cases h)
def T_laws_markValueS (G_laws_markValueS : Int → (List GValue) → Option (Int × (List GValue))) (n : Nat) (a0 : Int) (e0 : (List GValue)) : Option (Int × (List GValue)) :=
  (L_laws_markValueS_l0 G_laws_markValueS n a0 0 e0).bind fun ⟨o1_0, o1_1, o1_2⟩ =>
  some (o1_0, o1_2)
set_option maxRecDepth 100000 in
theorem fd_114 : cfg.funcs 114 = some (bodyOf Tryz.f114, Tryz.f114.ntmps, Tryz.f114.results.toList) := fn_of Tryz.func114 (by kernel_rfl) (by kernel_rfl)
theorem g_laws_markValueS (G_laws_markValueS : Int → (List GValue) → Option (Int × (List GValue))) (H_laws_markValueS : ∀ (a0 : Int) (e0 : (List GValue)) (r : (Int × (List GValue))), G_laws_markValueS a0 e0 = some r → (mach cfg).call 114 [.obj 5 (eL o_GValue e0)] [.val false [.ref 0], .val false [.int .i64 a0]] = some (.val false [.int .i64 r.1], [.obj 5 (eL o_GValue r.2)])) (n : Nat) (a0 : Int) (e0 : (List GValue)) (r : (Int × (List GValue))) (h : T_laws_markValueS G_laws_markValueS n a0 e0 = some r) : (mach cfg).call 114 [.obj 5 (eL o_GValue e0)] [.val false [.ref 0], .val false [.int .i64 a0]] = some (.val false [.int .i64 r.1], [.obj 5 (eL o_GValue r.2)]) := by
  unfold T_laws_markValueS at h
  obtain ⟨⟨o1_0, o1_1, o1_2⟩, ho1, h⟩ := bs h
  try dsimp only at h
  obtain rfl := Option.some.inj h
  exact call_wQ [.lp (gl_laws_markValueS_l0 G_laws_markValueS H_laws_markValueS _ a0 0 e0 _ ho1)] rfl fd_114 (by kernel_rfl)
def U_laws_markValueS : Nat → Int → (List GValue) → Option (Int × (List GValue))
  | 0, _, _ => none
  | n + 1, a0, e0 => T_laws_markValueS (U_laws_markValueS n) n a0 e0
theorem rec_laws_markValueS (n : Nat) : (∀ (a0 : Int) (e0 : (List GValue)) (r : (Int × (List GValue))), U_laws_markValueS n a0 e0 = some r → (mach cfg).call 114 [.obj 5 (eL o_GValue e0)] [.val false [.ref 0], .val false [.int .i64 a0]] = some (.val false [.int .i64 r.1], [.obj 5 (eL o_GValue r.2)])) := by
  induction n with
  | zero => exact fun _ _ _ h => (by rw [U_laws_markValueS] at h; cases h)
  | succ n ih =>
    have ih_laws_markValueS := ih
    exact fun a0 e0 r h => g_laws_markValueS (U_laws_markValueS n) ih_laws_markValueS n a0 e0 r (by rw [U_laws_markValueS] at h; exact h)
theorem markValueS_loop {G : Int → List GValue → Option (Int × List GValue)} : ∀ (l p : List GValue) (k : Int) (m : Nat), (∀ v ∈ l, ∀ i : Int, 0 <= i → i + 2 * vszs v.L <= 2 ^ 41 → G i v.L = some (i + cVs v.L, mVs i v.L)) → 0 <= k → k + 2 * vszs l <= 2 ^ 41 → p.length + l.length <= 2 ^ 41 → l.length < m → ∃ z, L_laws_markValueS_l0 G m k ((p.length : Nat) : Int) (p ++ l) = some (k + cVs l, z, p ++ mVs k l) := by
  intro l
  induction l with
  | nil =>
    intro p k m _ _ _ _ hm
    obtain ⟨m, rfl, _⟩ := fuel hm
    exact ⟨_, by rw [L_laws_markValueS_l0, if_neg (nlt_end p)]; simp [mVs, cVs]; rfl⟩
  | cons x l ih =>
    intro p k m hG h0 h1 h2 hm
    obtain ⟨m, rfl, hm'⟩ := fuel hm
    simp only [List.length_cons] at h2 hm'
    have hx := hG x List.mem_cons_self
    have hc := cV_le x
    obtain ⟨kd, n, s, kk, ks⟩ := x
    have hb := bsz_cB kk
    have hd := cVs_le ks
    simp only [vszs, vsz] at h1
    simp only [cV, vsz] at hc
    simp only [GValue.L] at hx
    obtain ⟨z, hz⟩ := ih (p ++ [mV k (.mk kd n s kk ks)]) (k + cV (.mk kd n s kk ks)) m (fun v hv => hG v (List.mem_cons_of_mem _ hv)) (by omega) (by simp only [cV]; omega) (by simp; omega) (by omega)
    rw [L_laws_markValueS_l0, if_pos (lt_mid p _ l), natO_nat, Option.bind_some, get_mid, Option.bind_some]
    simp only [set_mid, get_mid, Option.bind_some, GValue.Kind, GValue.N, GValue.S, GValue.K, GValue.L]
    rw [w64_id (x := k + 1) (by omega) (by omega), w64_id (x := k + 1 + 1) (by omega) (by omega), markByteS_eq (by omega) (by omega)]
    simp only [Option.bind_some, set_mid, get_mid, GValue.Kind, GValue.N, GValue.S, GValue.K, GValue.L]
    rw [markByteSS_eq (by omega) (by omega)]
    simp only [Option.bind_some, set_mid, get_mid, GValue.Kind, GValue.N, GValue.S, GValue.K, GValue.L]
    rw [hx _ (by omega) (by omega)]
    simp only [Option.bind_some, set_mid, get_mid, GValue.Kind, GValue.N, GValue.S, GValue.K, GValue.L]
    refine ⟨z, ?_⟩
    rw [w64_len p (mV k (.mk kd n s kk ks)) (by omega), show GValue.mk k (k + 1) (mB (k + 1 + 1) s) (mBB (k + 1 + 1 + s.length) kk) (mVs (k + 1 + 1 + s.length + cB kk) ks) = mV k (.mk kd n s kk ks) by simp only [mV], snoc_app p _ l,
      show k + 1 + 1 + (s.length : Int) + (cB kk : Int) + (cVs ks : Int) = k + ((cV (.mk kd n s kk ks) : Nat) : Int) by simp only [cV]; omega, hz]
    simp only [mVs, cVs, List.append_assoc, List.singleton_append]
    rw [show k + ((cV (.mk kd n s kk ks) : Nat) : Int) + (cVs l : Int) = k + ((cV (.mk kd n s kk ks) + cVs l : Nat) : Int) by omega]
theorem markValueS_U : ∀ (N : Nat) (l : List GValue), vszs l < N → ∀ (k : Int) (f : Nat), 0 <= k → k + 2 * vszs l <= 2 ^ 41 → vszs l + 2 <= f → U_laws_markValueS f k l = some (k + cVs l, mVs k l) := by
  intro N
  induction N with
  | zero => intro l hl; omega
  | succ N ih =>
    intro l hl k f h0 h1 hf
    obtain ⟨f, rfl, _⟩ := fuel (show 0 < f by omega)
    have hlen := vszs_len l
    rw [U_laws_markValueS]
    unfold T_laws_markValueS
    obtain ⟨z, hz⟩ := markValueS_loop (G := U_laws_markValueS f) l [] k f (fun v hv i g0 g1 => by
      have := vszs_mem hv
      have := vsz_eq v
      exact ih v.L (by omega) i f g0 g1 (by omega)) h0 h1 (by simp; omega) (by omega)
    simp only [List.nil_append, List.length_nil, Int.natCast_zero] at hz
    rw [hz]; rfl
def S_laws_markValueS (a0 : Int) (e0 : (List GValue)) : Option (Int × (List GValue)) := if 0 <= a0 ∧ a0 + 2 * vszs e0 <= 2 ^ 41 then some (a0 + cVs e0, mVs a0 e0) else none
theorem markValueS_eq {a : Int} {s : List GValue} (h0 : 0 <= a) (h1 : a + 2 * vszs s <= 2 ^ 41) : S_laws_markValueS a s = some (a + cVs s, mVs a s) := if_pos ⟨h0, h1⟩
theorem spec_laws_markValueS (a0 : Int) (e0 : (List GValue)) (r : (Int × (List GValue))) (h : S_laws_markValueS a0 e0 = some r) : ∃ n, U_laws_markValueS n a0 e0 = some r := by
  unfold S_laws_markValueS at h
  obtain ⟨⟨h0, h1⟩, h⟩ := need_c h
  exact ⟨vszs e0 + 2, by rw [markValueS_U _ e0 (Nat.lt_succ_self _) a0 _ h0 h1 (Nat.le_refl _), h]⟩
theorem ok_laws_markValueS (a0 : Int) (e0 : (List GValue)) (r : (Int × (List GValue))) (h : S_laws_markValueS a0 e0 = some r) : (mach cfg).call 114 [.obj 5 (eL o_GValue e0)] [.val false [.ref 0], .val false [.int .i64 a0]] = some (.val false [.int .i64 r.1], [.obj 5 (eL o_GValue r.2)]) := by
  obtain ⟨n, hn⟩ := spec_laws_markValueS a0 e0 r h
  exact (rec_laws_markValueS n) a0 e0 r hn
end
end Go.Am.Try
