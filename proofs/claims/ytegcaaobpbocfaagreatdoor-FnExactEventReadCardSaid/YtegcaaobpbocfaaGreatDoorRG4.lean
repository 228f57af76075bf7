/- The functions of the program in plain Lean, and that the machine answers as they do; conditions at each theorem. -/
import Derived.Test.YtegcaaobpbocfaaGreatDoorRG3
set_option linter.unusedVariables false
set_option linter.unusedSimpArgs false
namespace Go.Am.Try
open Go.Am Go.Proofs
set_option linter.unusedVariables false
set_option maxRecDepth 20000
set_option maxHeartbeats 2000000
noncomputable section
def L_impl_areAddrs_l0 (a0 : (List (List UInt8))) (v1 : Int) : Nat → Int → Option (Bool ⊕ Int)
  | 0, _ => none
  | m + 1, v2 =>
    if v2 < v1 then
      (natO v2).bind fun i2 =>
      (a0[i2]?).bind fun x3 =>
      (S_impl_isAddr x3).bind fun r4 =>
      match r4 with
      | true =>
        if 0 < v2 then
          (natO (w64 (v2 - 1))).bind fun i7 =>
          (a0[i7]?).bind fun x8 =>
          (S_bytes_Compare x8 x3).bind fun r9 =>
          if 0 <= r9 then
            some (.inl false)
          else
            L_impl_areAddrs_l0 a0 v1 m (w64 (v2 + 1))
        else
          L_impl_areAddrs_l0 a0 v1 m (w64 (v2 + 1))
      | false =>
        some (.inl false)
    else
      some (.inr v2)
theorem gl_impl_areAddrs_l0 (a0 : (List (List UInt8))) (v1 : Int) (m : Nat) : ∀ (v2 : Int) (o : (Bool ⊕ Int)), L_impl_areAddrs_l0 a0 v1 m v2 = some o → (mach cfg).loop 52 (loopB Tryz.f52 0) ⟨[(0, .val false [.seq (eL (e_sl e_u8) a0)]), (5, .val false [.seq (eL (e_sl e_u8) a0)]), (6, .val false [.int .i64 v1]), (7, .val false [.int .i64 v2])], [], 0⟩ = some (match o with | .inl o_0 => (.ret, (⟨[(2, .val false [.bool o_0])], [], 0⟩ : S)) | .inr (o_1) => (.exit 0, (⟨[(0, .val false [.seq (eL (e_sl e_u8) a0)]), (5, .val false [.seq (eL (e_sl e_u8) a0)]), (6, .val false [.int .i64 v1]), (7, .val false [.int .i64 o_1]), (8, .val false [.bool false])], [], 0⟩ : S))) := by
  induction m with
  | zero => intro v2 o h; cases h
  | succ m ih =>
    intro v2 o h
    rw [L_impl_areAddrs_l0] at h
    rcases ite_some h with ⟨c1, h⟩ | ⟨c1, h⟩
    ·obtain ⟨i2, hi2, h⟩ := bs h
     obtain ⟨x3, hx3, h⟩ := bs h
     obtain ⟨r4, hr4, h⟩ := bs h
     let p63 : List (Q cfg) := [.lT c1, .na hi2, .ix0 (e_sl e_u8) hx3, .cl (ok_impl_isAddr x3 _ hr4)]
     cases r4 with
     | true =>
      try dsimp only at h
      rcases ite_some h with ⟨c6, h⟩ | ⟨c6, h⟩
      ·obtain ⟨i7, hi7, h⟩ := bs h
       obtain ⟨x8, hx8, h⟩ := bs h
       obtain ⟨r9, hr9, h⟩ := bs h
       let p64 : List (Q cfg) := p63 ++ [.nt true, .lT c6, .su v2 1, .na hi7, .ix0 (e_sl e_u8) hx8, .cl (ok_bytes_Compare x8 x3 _ hr9)]
       rcases ite_some h with ⟨c10, h⟩ | ⟨c10, h⟩
       ·obtain rfl := Option.some.inj h
        exact loop_eQ (p64 ++ [.gT c10]) (by kernel_rfl) (by intro h; cases h)
       ·exact loop_nQ (p64 ++ [.gF c10, .ad v2 1]) (by kernel_rfl) (ih (w64 (v2 + 1)) o h)
      ·exact loop_nQ (p63 ++ [.nt true, .lF c6, .ad v2 1]) (by kernel_rfl) (ih (w64 (v2 + 1)) o h)
     | false =>
      try dsimp only at h
      obtain rfl := Option.some.inj h
      exact loop_eQ (p63 ++ [.nt false]) (by kernel_rfl) (by intro h; cases h)
    ·obtain rfl := Option.some.inj h
     exact loop_eQ [.lF c1] (by kernel_rfl) (by intro h; cases h)
def T_impl_areAddrs (n : Nat) (a0 : (List (List UInt8))) : Option Bool :=
  (L_impl_areAddrs_l0 a0 ((a0.length : Nat) : Int) n 0).bind fun o1 =>
  match o1 with
  | .inl o1_0 =>
    some o1_0
  | .inr (o1_1) =>
    some (decide (((a0.length : Nat) : Int) <= 8))
set_option maxRecDepth 100000 in
theorem fd_52 : cfg.funcs 52 = some (bodyOf Tryz.f52, Tryz.f52.ntmps, Tryz.f52.results.toList) := fn_of Tryz.func52 (by kernel_rfl) (by kernel_rfl)
theorem g_impl_areAddrs (n : Nat) (a0 : (List (List UInt8))) (r : Bool) (h : T_impl_areAddrs n a0 = some r) : (mach cfg).call 52 [] [.val false [.seq (eL (e_sl e_u8) a0)]] = some (.val false [.bool r], []) := by
  unfold T_impl_areAddrs at h
  obtain ⟨o1, ho1, h⟩ := bs h
  let p65 : List (Q cfg) := [.le (e_sl e_u8) a0, .lp (gl_impl_areAddrs_l0 a0 ((a0.length : Nat) : Int) _ 0 _ ho1)]
  rcases o1 with o1_0 | o1_1
  · try dsimp only at h
    obtain rfl := Option.some.inj h
    exact call_wQ p65 rfl fd_52 (by kernel_rfl)
  · try dsimp only at h
    obtain rfl := Option.some.inj h
    exact call_wQ (p65 ++ [.le (e_sl e_u8) a0, .gD ((a0.length : Nat) : Int) 8]) rfl fd_52 (by kernel_rfl)
theorem idx_tw (c : UInt8) : ∀ b : List UInt8, Lib.indexByte b c = if b.dropWhile (fun x => decide (x ≠ c)) = [] then -1 else (((b.takeWhile fun x => decide (x ≠ c)).length : Nat) : Int)
  | [] => rfl
  | x :: b => by
    have ih := idx_tw c b
    rw [Lib.indexByte, List.dropWhile_cons, List.takeWhile_cons]
    by_cases h : x = c
    · subst h; simp
    · have hb : (x == c) = false := by simpa using h
      have hd : decide (x ≠ c) = true := decide_eq_true h
      rw [hb, if_neg (by simp), if_pos hd, if_pos hd, ih]
      by_cases hd : b.dropWhile (fun x => decide (x ≠ c)) = []
      · rw [if_pos hd, if_pos hd]; rfl
      · rw [if_neg hd, if_neg hd, if_neg (by simp), List.length_cons]; omega
theorem bIndex_eq (a : List UInt8) (c : UInt8) : S_bytes_Index a [c] = some (Lib.indexByte a c) := by
  unfold S_bytes_Index S_bytes_IndexByte S_internal_bytealg_IndexByte
  rw [if_neg (by simp), if_pos (by simp)]
  rfl
theorem cut91 {a : List UInt8} (h : a.length <= 2 ^ 20) : S_bytes_Cut a [91] = some (nm91 a, (rs91 a).drop 1, decide (rs91 a ≠ [])) := by
  have hix : S_bytes_Index a [91] = some (if rs91 a = [] then -1 else (((nm91 a).length : Nat) : Int)) := by rw [bIndex_eq, idx_tw]; rfl
  unfold S_bytes_Cut
  have hlen := nm_len a
  by_cases hr : rs91 a = []
  · have hn := nm_rs a
    rw [hr, List.append_nil] at hn
    rw [hix, if_pos hr, Option.bind_some, if_neg (by omega), hr, hn]; rfl
  · obtain ⟨t, ht⟩ := rs_head hr
    have e : w64 ((((nm91 a).length : Nat) : Int) + ((([91] : List UInt8).length : Nat) : Int)) = (((nm91 a).length + 1 : Nat) : Int) := by
      show w64 ((((nm91 a).length : Nat) : Int) + 1) = _
      exact w64_succ (by omega)
    have hl2 := hlen
    rw [ht, List.length_cons] at hl2
    rw [hix, if_neg hr, Option.bind_some, if_pos (by omega), natO_nat, Option.bind_some, cut_to (by omega), Option.bind_some, nm_take, e, natO_nat, Option.bind_some, cut_from (by omega), Option.bind_some, decide_eq_true hr, <- List.drop_drop, nm_drop]
theorem hasSuf (s : List UInt8) (c : UInt8) (h : s.length <= 2 ^ 20) : S_bytes_HasSuffix s [c] = some (decide (s.getLast? = some c)) := by
  unfold S_bytes_HasSuffix
  rw [show ((([c] : List UInt8).length : Nat) : Int) = 1 from rfl]
  rcases List.eq_nil_or_concat s with rfl | ⟨l, x, rfl⟩
  · rw [if_neg (by simp)]; rfl
  · simp only [List.concat_eq_append, List.length_append, List.length_cons, List.length_nil] at h ⊢
    rw [if_pos (by omega), show w64 (((l.length + (0 + 1) : Nat) : Int) - 1) = ((l.length : Nat) : Int) by rw [w64_id (by omega) (by omega)]; omega, natO_nat, Option.bind_some, cut_from (by simp), Option.bind_some, List.drop_left]
    unfold S_bytes_Equal
    rw [Option.bind_some, List.getLast?_concat]
    congr 1
    exact decide_eq_decide.2 (by simp)
theorem cutSuf (s : List UInt8) (c : UInt8) (h : s.length <= 2 ^ 20) : S_bytes_CutSuffix s [c] = some (if s.getLast? = some c then (s.dropLast, true) else (s, false)) := by
  unfold S_bytes_CutSuffix
  rw [hasSuf s c h, Option.bind_some]
  by_cases hc : s.getLast? = some c
  · rw [decide_eq_true hc, if_pos hc]
    dsimp only
    have h0 : 0 < s.length := by
      cases s with
      | nil => simp at hc
      | cons x s => simp
    rw [show ((([c] : List UInt8).length : Nat) : Int) = 1 from rfl, w64_pred (by omega) h0, natO_nat, Option.bind_some, cut_to (by omega), Option.bind_some, List.dropLast_eq_take]
  · rw [decide_eq_false hc, if_neg hc]
theorem cutPre (s : List UInt8) (c : UInt8) : S_bytes_CutPrefix s [c] = some (if s[0]? = some c then (s.drop 1, true) else (s, false)) := by
  unfold S_bytes_CutPrefix S_bytes_HasPrefix S_bytes_Equal
  rw [show ((([c] : List UInt8).length : Nat) : Int) = ((1 : Nat) : Int) from rfl]
  cases s with
  | nil => rw [if_neg (by simp)]; rfl
  | cons x s =>
    rw [if_pos (by simp; omega), natO_nat, Option.bind_some, cut_to (by simp), Option.bind_some, Option.bind_some, Option.bind_some]
    show (match decide ([x] = [c]) with | true => _ | false => _) = _
    by_cases hc : x = c
    · subst hc
      rw [decide_eq_true rfl]
      dsimp only
      rw [Option.bind_some, cut_from (by simp), Option.bind_some]
      simp
    · rw [decide_eq_false (by simpa using hc), if_neg (by simpa using hc)]
theorem itoa_ok : ∀ n : Fin 100, S_strconv_Itoa ((n.val : Nat) : Int) = some (itoaL n.val) := by
  have h1 : ∀ n : Fin 100, S_internal_strconv_small ((n.val : Nat) : Int) = some (itoaL n.val) := by decide +kernel
  intro n
  unfold S_strconv_Itoa S_internal_strconv_Itoa S_internal_strconv_FormatInt
  rw [if_pos rfl, if_pos (by omega), if_pos (by omega), h1]; rfl
theorem atoi_itoa : ∀ n : Fin 100, Lib.atoiAll (itoaL n.val) = .ok ((n.val : Nat) : Int) := by decide +kernel
theorem dig_itoa : ∀ n : Fin 100, digB (itoaL n.val) = true := by decide +kernel
theorem digB_itoa {l : List UInt8} (h : digB l = true) : ∃ n : Fin 100, l = itoaL n.val := by
  unfold digB at h
  simp only [Bool.and_eq_true, Bool.not_eq_true', decide_eq_true_eq] at h
  obtain ⟨⟨⟨h1, h2⟩, h3⟩, h4⟩ := h
  match l, h1, h2 with
  | [x], _, _ =>
    simp only [List.all_cons, List.all_nil, Bool.and_true, inB, Bool.and_eq_true, decide_eq_true_eq] at h4
    refine ⟨⟨x.toNat - 48, by omega⟩, ?_⟩
    unfold itoaL
    rw [if_pos (by simp only; omega)]
    simp only [List.cons.injEq, and_true]
    refine UInt8.toNat_inj.1 ?_
    rw [UInt8.toNat_ofNat_of_lt' (by show _ < 256; omega)]; omega
  | [x, y], _, _ =>
    simp only [List.all_cons, List.all_nil, Bool.and_true, inB, Bool.and_eq_true, decide_eq_true_eq] at h4
    have hx : x.toNat ≠ 48 := fun e => by
      have : x = 48 := UInt8.toNat_inj.1 e
      subst this
      simp at h3
    refine ⟨⟨(x.toNat - 48) * 10 + (y.toNat - 48), by omega⟩, ?_⟩
    unfold itoaL
    rw [if_neg (by simp only; omega)]
    simp only [List.cons.injEq, and_true]
    constructor
    · refine UInt8.toNat_inj.1 ?_
      rw [UInt8.toNat_ofNat_of_lt' (by show _ < 256; omega)]; omega
    · refine UInt8.toNat_inj.1 ?_
      rw [UInt8.toNat_ofNat_of_lt' (by show _ < 256; omega)]; omega
theorem isNm_eq {a : List UInt8} (h : a.length <= 2 ^ 20) : S_impl_isName a = some (nameB a) := if_pos h
theorem isAddr_num {l : List UInt8} (hl : l.length <= 2 ^ 20) : ((S_strconv_Atoi l).bind fun ⟨n, e⟩ =>
    match e with
    | true => some false
    | false => (S_impl_in n 0 99).bind fun r13 =>
      match r13 with
      | true => (S_strconv_Itoa n).bind fun r15 => some (decide (r15 = l))
      | false => some false) = some (digB l) := by
  unfold S_strconv_Atoi
  rw [if_pos (by omega), Option.bind_some]
  cases hd : digB l with
  | true =>
    obtain ⟨n, rfl⟩ := digB_itoa hd
    have hr : atoiR (itoaL n.val) = (((n.val : Nat) : Int), false) := by unfold atoiR; rw [atoi_itoa n]
    have hn := n.isLt
    rw [hr]
    dsimp only
    rw [in_eq, Option.bind_some, decide_eq_true (show (0 : Int) <= ((n.val : Nat) : Int) ∧ ((n.val : Nat) : Int) <= 99 by omega)]
    dsimp only
    rw [itoa_ok n, Option.bind_some, decide_eq_true rfl]
  | false =>
    obtain ⟨n, e⟩ := atoiR l
    cases e with
    | true => rfl
    | false =>
      dsimp only
      rw [in_eq, Option.bind_some]
      by_cases hn : (0 : Int) <= n ∧ n <= 99
      · rw [decide_eq_true hn]
        dsimp only
        have := itoa_ok ⟨n.toNat, by omega⟩
        rw [show (((⟨n.toNat, by omega⟩ : Fin 100).val : Nat) : Int) = n by simp only; omega] at this
        rw [this, Option.bind_some]
        congr 1
        refine decide_eq_false fun e => ?_
        rw [<- e, dig_itoa] at hd; cases hd
      · rw [decide_eq_false hn]
theorem implAd_eq {a : List UInt8} (h : a.length <= 2 ^ 20) : S_impl_isAddr a = some (addrB a) := by
  unfold S_impl_isAddr
  have hlen := nm_len a
  rw [cut91 h, Option.bind_some]
  dsimp only
  rw [isNm_eq (by omega), Option.bind_some]
  unfold addrB
  cases hn : nameB (nm91 a) with
  | false => rfl
  | true =>
    dsimp only
    by_cases hr : rs91 a = []
    · rw [decide_eq_false (fun h => h hr), if_pos hr]; rfl
    rw [decide_eq_true hr, if_neg hr]
    dsimp only
    have ht : ((rs91 a).drop 1).length <= 2 ^ 20 := by rw [List.length_drop]; omega
    generalize (rs91 a).drop 1 = t at ht ⊢
    rw [cutSuf t 93 ht, Option.bind_some]
    by_cases h93 : t.getLast? = some 93
    · rw [if_pos h93, if_pos h93]
      dsimp only
      have hl : t.dropLast.length <= 2 ^ 20 := by rw [List.length_dropLast]; omega
      generalize t.dropLast = l at hl ⊢
      rw [cutPre, Option.bind_some]
      unfold insB
      by_cases h34 : l[0]? = some 34
      · rw [if_pos h34, if_pos h34]
        dsimp only
        rw [cutSuf _ 34 (by rw [List.length_drop]; omega), Option.bind_some]
        by_cases h2 : (l.drop 1).getLast? = some 34
        · rw [if_pos h2, if_pos h2]
          dsimp only
          rw [isNm_eq (by rw [List.length_dropLast, List.length_drop]; omega), Option.bind_some]; rfl
        · rw [if_neg h2, if_neg h2]; rfl
      · rw [if_neg h34, if_neg h34]
        dsimp only
        rw [cutSuf _ 34 hl, Option.bind_some]
        by_cases h2 : l.getLast? = some 34
        · rw [if_pos h2]
          dsimp only
          have hd : digB l = false := by
            unfold digB
            have : l.all (inB 48 57) = false := by
              rcases List.eq_nil_or_concat l with rfl | ⟨k, x, rfl⟩
              · simp at h2
              · rw [List.concat_eq_append, List.getLast?_concat] at h2
                injection h2 with h2
                subst h2
                simp [inB]
            rw [this, Bool.and_false]
          rw [hd]; rfl
        · rw [if_neg h2]
          dsimp only
          exact isAddr_num hl
    · rw [if_neg h93, if_neg h93]
      dsimp only
      rw [cutPre, Option.bind_some]
      by_cases h34 : t[0]? = some 34
      · rw [if_pos h34]
        dsimp only
        rw [cutSuf _ 34 (by rw [List.length_drop]; omega), Option.bind_some]
        rfl
      · rw [if_neg h34]
        dsimp only
        rw [cutSuf _ 34 ht, Option.bind_some]
        by_cases h2 : t.getLast? = some 34
        · rw [if_pos h2]; rfl
        · rw [if_neg h2]
          dsimp only
          unfold S_strconv_Atoi
          rw [if_pos (by omega), Option.bind_some]
          obtain ⟨n, e⟩ := atoiR t
          cases e <;> rfl
theorem areAddrs_loop {a : List (List UInt8)} (hs : ∀ x ∈ a, x.length <= 2 ^ 20) (ha : a.length <= 2 ^ 40) : ∀ (d i m : Nat), i + d = a.length → d < m → ∃ z, L_impl_areAddrs_l0 a ((a.length : Nat) : Int) m (i : Int) = some (if gAll addrB id a i d = true then .inr z else .inl false) := by
  intro d
  induction d with
  | zero =>
    intro i m hi hm
    obtain ⟨m, rfl, _⟩ := fuel hm
    exact ⟨_, by rw [L_impl_areAddrs_l0, if_neg (by omega)]; rfl⟩
  | succ d ih =>
    intro i m hi hm
    obtain ⟨m, rfl, hm'⟩ := fuel hm
    have hil : i < a.length := by omega
    rw [L_impl_areAddrs_l0, if_pos (by omega), natO_nat, Option.bind_some, get_some hil, Option.bind_some, implAd_eq (hs _ (List.getElem_mem hil)), Option.bind_some, gAll_succ]
    obtain ⟨z, hz⟩ := ih (i + 1) m (by omega) (by omega)
    cases hx : addrB a[i] with
    | false =>
      refine ⟨0, ?_⟩
      have : gOk addrB id a i = false := by
        unfold gOk; rw [get_some hil]; simp [hx]
      rw [this]; rfl
    | true =>
      dsimp only
      by_cases h0 : 0 < i
      · rw [if_pos (by omega), w64_pred (by omega) h0, natO_nat, Option.bind_some, get_some (show i - 1 < a.length by omega), Option.bind_some, gOk_eq hil h0, hx, Bool.true_and, w64_succ (by omega), hz]
        unfold S_bytes_Compare S_internal_bytealg_Compare
        simp only [Option.bind_some]
        by_cases hl : Op.bytesLess a[i - 1] a[i] = true
        · rw [if_neg (by rw [less_cmp]; exact fun h => h hl), show Op.bytesLess (id a[i - 1]) (id a[i]) = true from hl, Bool.true_and]; exact ⟨z, rfl⟩
        · rw [if_pos (by rw [less_cmp]; exact hl), show Op.bytesLess (id a[i - 1]) (id a[i]) = false from Bool.eq_false_iff.2 hl]; exact ⟨z, rfl⟩
      · obtain rfl : i = 0 := by omega
        rw [if_neg (by omega), gOk_zero hil, hx, Bool.true_and, w64_succ (by omega), hz]
        exact ⟨z, rfl⟩
def S_impl_areAddrs (a0 : (List (List UInt8))) : Option Bool := if bsz a0 <= 2 ^ 20 then some (addrsB a0) else none
theorem spec_impl_areAddrs (a0 : (List (List UInt8))) (r : Bool) (h : S_impl_areAddrs a0 = some r) : ∃ n, T_impl_areAddrs n a0 = some r := by
  unfold S_impl_areAddrs at h
  obtain ⟨ha, h⟩ := need_c h
  have hl := bsz_len a0
  obtain ⟨z, hz⟩ := areAddrs_loop (a := a0) (fun x hx => by have := bsz_mem hx; omega) (by omega) a0.length 0 (a0.length + 1) (by omega) (by omega)
  refine ⟨a0.length + 1, ?_⟩
  unfold T_impl_areAddrs
  rw [show ((0 : Nat) : Int) = 0 from rfl] at hz
  rw [<- h, hz, Option.bind_some]
  unfold addrsB
  cases gAll addrB id a0 0 a0.length
  · rw [Bool.and_false]; rfl
  · rw [Bool.and_true]
    show some (decide (((a0.length : Nat) : Int) <= 8)) = _
    congr 1
    exact decide_eq_decide.2 (by omega)
theorem ok_impl_areAddrs (a0 : (List (List UInt8))) (r : Bool) (h : S_impl_areAddrs a0 = some r) : (mach cfg).call 52 [] [.val false [.seq (eL (e_sl e_u8) a0)]] = some (.val false [.bool r], []) := by
  obtain ⟨n, hn⟩ := spec_impl_areAddrs a0 r h
  exact g_impl_areAddrs n a0 r hn
def S_impl_isZero (a0 : GValue) : Option Bool :=
  if a0.Kind = 0 then
    if a0.N = 0 then
      if ((a0.S.length : Nat) : Int) = 0 then
        if ((a0.K.length : Nat) : Int) = 0 then
          some (decide (((a0.L.length : Nat) : Int) = 0))
        else
          some false
      else
        some false
    else
      some false
  else
    some false
set_option maxRecDepth 100000 in
theorem fd_53 : cfg.funcs 53 = some (bodyOf Tryz.f53, Tryz.f53.ntmps, Tryz.f53.results.toList) := fn_of Tryz.func53 (by kernel_rfl) (by kernel_rfl)
theorem ok_impl_isZero (a0 : GValue) (r : Bool) (h : S_impl_isZero a0 = some r) : (mach cfg).call 53 [] [.val true [.int .i64 a0.Kind, .int .i64 a0.N, .seq (eL e_u8 a0.S), .seq (eL (e_sl e_u8) a0.K), .seq (eL e_GValue a0.L)]] = some (.val false [.bool r], []) := by
  unfold S_impl_isZero at h
  rcases ite_some h with ⟨c1, h⟩ | ⟨c1, h⟩
  ·rcases ite_some h with ⟨c2, h⟩ | ⟨c2, h⟩
   ·rcases ite_some h with ⟨c3, h⟩ | ⟨c3, h⟩
    ·rcases ite_some h with ⟨c4, h⟩ | ⟨c4, h⟩
     ·obtain rfl := Option.some.inj h
      exact call_wQ [.eT c1, .eT c2, .le e_u8 a0.S, .eT c3, .le (e_sl e_u8) a0.K, .eT c4, .le e_GValue a0.L, .eD ((a0.L.length : Nat) : Int) 0] rfl fd_53 (by kernel_rfl)
     ·obtain rfl := Option.some.inj h
      exact call_wQ [.eT c1, .eT c2, .le e_u8 a0.S, .eT c3, .le (e_sl e_u8) a0.K, .eF c4] rfl fd_53 (by kernel_rfl)
    ·obtain rfl := Option.some.inj h
     exact call_wQ [.eT c1, .eT c2, .le e_u8 a0.S, .eF c3] rfl fd_53 (by kernel_rfl)
   ·obtain rfl := Option.some.inj h
    exact call_wQ [.eT c1, .eF c2] rfl fd_53 (by kernel_rfl)
  ·obtain rfl := Option.some.inj h
   exact call_wQ [.eF c1] rfl fd_53 (by kernel_rfl)
def S_impl_isEvent (a0 : GEvent) : Option Bool :=
  if a0.Kind = 2 then
    (S_impl_isAddr a0.Addr).bind fun r2 =>
    match r2 with
    | true =>
      if a0.Act = 0 then
        (S_impl_isKnownMap a0.Val).bind fun r5 =>
        match r5 with
        | true =>
          (S_impl_areAddrs a0.Deps).bind fun r7 =>
          some r7
        | false =>
          some false
      else
        some false
    | false =>
      some false
  else
    (S_impl_isZero a0.Val).bind fun r2 =>
    match r2 with
    | true =>
      if 0 < ((a0.Deps.length : Nat) : Int) then
        some false
      else
        if a0.Kind = 0 then
          if ((a0.Addr.length : Nat) : Int) = 0 then
            some (decide (a0.Act = 0))
          else
            some false
        else
          if a0.Kind = 5 then
            if ((a0.Addr.length : Nat) : Int) = 0 then
              some (decide (a0.Act = 0))
            else
              some false
          else
            if a0.Kind = 6 then
              if ((a0.Addr.length : Nat) : Int) = 0 then
                some (decide (a0.Act = 0))
              else
                some false
            else
              if a0.Kind = 1 then
                (S_impl_isAddr a0.Addr).bind fun r9 =>
                match r9 with
                | true =>
                  (S_impl_in a0.Act 1 4).bind fun r11 =>
                  some r11
                | false =>
                  some false
              else
                if a0.Kind = 3 then
                  (S_impl_isAddr a0.Addr).bind fun r10 =>
                  match r10 with
                  | true =>
                    some (decide (a0.Act = 0))
                  | false =>
                    some false
                else
                  if a0.Kind = 4 then
                    (S_impl_isAddr a0.Addr).bind fun r11 =>
                    match r11 with
                    | true =>
                      some (decide (a0.Act = 0))
                    | false =>
                      some false
                  else
                    some false
    | false =>
      some false
set_option maxRecDepth 100000 in
theorem fd_38 : cfg.funcs 38 = some (bodyOf Tryz.f38, Tryz.f38.ntmps, Tryz.f38.results.toList) := fn_of Tryz.func38 (by kernel_rfl) (by kernel_rfl)
theorem ok_impl_isEvent (a0 : GEvent) (r : Bool) (h : S_impl_isEvent a0 = some r) : (mach cfg).call 38 [] [.val true [.int .i64 a0.Kind, .seq (eL e_u8 a0.Addr), .int .i64 a0.Act, .int .i64 a0.Val.Kind, .int .i64 a0.Val.N, .seq (eL e_u8 a0.Val.S), .seq (eL (e_sl e_u8) a0.Val.K), .seq (eL e_GValue a0.Val.L), .seq (eL (e_sl e_u8) a0.Deps)]] = some (.val false [.bool r], []) := by
  unfold S_impl_isEvent at h
  rcases ite_some h with ⟨c1, h⟩ | ⟨c1, h⟩
  ·obtain ⟨r2, hr2, h⟩ := bs h
   cases r2 with
   | true =>
    try dsimp only at h
    rcases ite_some h with ⟨c4, h⟩ | ⟨c4, h⟩
    ·obtain ⟨r5, hr5, h⟩ := bs h
     let p66 : List (Q cfg) := [.eT c1, .cl (ok_impl_isAddr a0.Addr _ hr2), .eT c4, .cl (ok_impl_isKnownMap a0.Val _ hr5)]
     cases r5 with
     | true =>
      try dsimp only at h
      obtain ⟨r7, hr7, h⟩ := bs h
      obtain rfl := Option.some.inj h
      exact call_wQ (p66 ++ [.cl (ok_impl_areAddrs a0.Deps _ hr7)]) rfl fd_38 (by kernel_rfl)
     | false =>
      try dsimp only at h
      obtain rfl := Option.some.inj h
      exact call_wQ p66 rfl fd_38 (by kernel_rfl)
    ·obtain rfl := Option.some.inj h
     exact call_wQ [.eT c1, .cl (ok_impl_isAddr a0.Addr _ hr2), .eF c4] rfl fd_38 (by kernel_rfl)
   | false =>
    try dsimp only at h
    obtain rfl := Option.some.inj h
    exact call_wQ [.eT c1, .cl (ok_impl_isAddr a0.Addr _ hr2)] rfl fd_38 (by kernel_rfl)
  ·obtain ⟨r2, hr2, h⟩ := bs h
   let p67 : List (Q cfg) := [.eF c1]
   cases r2 with
   | true =>
    try dsimp only at h
    rcases ite_some h with ⟨c4, h⟩ | ⟨c4, h⟩
    ·obtain rfl := Option.some.inj h
     exact call_wQ (p67 ++ [.cl (ok_impl_isZero a0.Val _ hr2), .nt true, .le (e_sl e_u8) a0.Deps, .lT c4]) rfl fd_38 (by kernel_rfl)
    ·rcases ite_some h with ⟨c5, h⟩ | ⟨c5, h⟩
     ·rcases ite_some h with ⟨c6, h⟩ | ⟨c6, h⟩
      ·obtain rfl := Option.some.inj h
       exact call_wQ (p67 ++ [.cl (ok_impl_isZero a0.Val _ hr2), .nt true, .le (e_sl e_u8) a0.Deps, .lF c4, .eT c5, .le e_u8 a0.Addr, .eT c6, .eD a0.Act 0]) rfl fd_38 (by kernel_rfl)
      ·obtain rfl := Option.some.inj h
       exact call_wQ (p67 ++ [.cl (ok_impl_isZero a0.Val _ hr2), .nt true, .le (e_sl e_u8) a0.Deps, .lF c4, .eT c5, .le e_u8 a0.Addr, .eF c6]) rfl fd_38 (by kernel_rfl)
     ·rcases ite_some h with ⟨c6, h⟩ | ⟨c6, h⟩
      ·rcases ite_some h with ⟨c7, h⟩ | ⟨c7, h⟩
       ·obtain rfl := Option.some.inj h
        exact call_wQ (p67 ++ [.cl (ok_impl_isZero a0.Val _ hr2), .nt true, .le (e_sl e_u8) a0.Deps, .lF c4, .eF c5, .eT c6, .le e_u8 a0.Addr, .eT c7, .eD a0.Act 0]) rfl fd_38 (by kernel_rfl)
       ·obtain rfl := Option.some.inj h
        exact call_wQ (p67 ++ [.cl (ok_impl_isZero a0.Val _ hr2), .nt true, .le (e_sl e_u8) a0.Deps, .lF c4, .eF c5, .eT c6, .le e_u8 a0.Addr, .eF c7]) rfl fd_38 (by kernel_rfl)
      ·rcases ite_some h with ⟨c7, h⟩ | ⟨c7, h⟩
       ·rcases ite_some h with ⟨c8, h⟩ | ⟨c8, h⟩
        ·obtain rfl := Option.some.inj h
         exact call_wQ (p67 ++ [.cl (ok_impl_isZero a0.Val _ hr2), .nt true, .le (e_sl e_u8) a0.Deps, .lF c4, .eF c5, .eF c6, .eT c7, .le e_u8 a0.Addr, .eT c8, .eD a0.Act 0]) rfl fd_38 (by kernel_rfl)
        ·obtain rfl := Option.some.inj h
         exact call_wQ (p67 ++ [.cl (ok_impl_isZero a0.Val _ hr2), .nt true, .le (e_sl e_u8) a0.Deps, .lF c4, .eF c5, .eF c6, .eT c7, .le e_u8 a0.Addr, .eF c8]) rfl fd_38 (by kernel_rfl)
       ·rcases ite_some h with ⟨c8, h⟩ | ⟨c8, h⟩
        ·obtain ⟨r9, hr9, h⟩ := bs h
         let p68 : List (Q cfg) := p67 ++ [.cl (ok_impl_isZero a0.Val _ hr2), .nt true, .le (e_sl e_u8) a0.Deps, .lF c4, .eF c5, .eF c6, .eF c7, .eT c8, .cl (ok_impl_isAddr a0.Addr _ hr9)]
         cases r9 with
         | true =>
          try dsimp only at h
          obtain ⟨r11, hr11, h⟩ := bs h
          obtain rfl := Option.some.inj h
          exact call_wQ (p68 ++ [.cl (ok_impl_in a0.Act 1 4 _ hr11)]) rfl fd_38 (by kernel_rfl)
         | false =>
          try dsimp only at h
          obtain rfl := Option.some.inj h
          exact call_wQ p68 rfl fd_38 (by kernel_rfl)
        ·rcases ite_some h with ⟨c9, h⟩ | ⟨c9, h⟩
         ·obtain ⟨r10, hr10, h⟩ := bs h
          let p69 : List (Q cfg) := p67 ++ [.cl (ok_impl_isZero a0.Val _ hr2), .nt true, .le (e_sl e_u8) a0.Deps, .lF c4, .eF c5, .eF c6, .eF c7, .eF c8, .eT c9, .cl (ok_impl_isAddr a0.Addr _ hr10)]
          cases r10 with
          | true =>
           try dsimp only at h
           obtain rfl := Option.some.inj h
           exact call_wQ (p69 ++ [.eD a0.Act 0]) rfl fd_38 (by kernel_rfl)
          | false =>
           try dsimp only at h
           obtain rfl := Option.some.inj h
           exact call_wQ p69 rfl fd_38 (by kernel_rfl)
         ·rcases ite_some h with ⟨c10, h⟩ | ⟨c10, h⟩
          ·obtain ⟨r11, hr11, h⟩ := bs h
           let p70 : List (Q cfg) := p67 ++ [.cl (ok_impl_isZero a0.Val _ hr2), .nt true, .le (e_sl e_u8) a0.Deps, .lF c4, .eF c5, .eF c6, .eF c7, .eF c8, .eF c9, .eT c10, .cl (ok_impl_isAddr a0.Addr _ hr11)]
           cases r11 with
           | true =>
            try dsimp only at h
            obtain rfl := Option.some.inj h
            exact call_wQ (p70 ++ [.eD a0.Act 0]) rfl fd_38 (by kernel_rfl)
           | false =>
            try dsimp only at h
            obtain rfl := Option.some.inj h
            exact call_wQ p70 rfl fd_38 (by kernel_rfl)
          ·obtain rfl := Option.some.inj h
           exact call_wQ (p67 ++ [.cl (ok_impl_isZero a0.Val _ hr2), .nt true, .le (e_sl e_u8) a0.Deps, .lF c4, .eF c5, .eF c6, .eF c7, .eF c8, .eF c9, .eF c10]) rfl fd_38 (by kernel_rfl)
   | false =>
    try dsimp only at h
    obtain rfl := Option.some.inj h
    exact call_wQ (p67 ++ [.cl (ok_impl_isZero a0.Val _ hr2), .nt false]) rfl fd_38 (by kernel_rfl)
def L_impl_putNum_l0a : Nat → Int → (List UInt8) → Option (Int × (List UInt8))
  | 0, _, _ => none
  | m + 1, v0, v1 =>
    if 128 <= v0 then
      if roomP 1 (v1.length + [(b8 (w64 ((v0.tmod 128) + 128)))].length) then
      L_impl_putNum_l0a m (w64 (v0.tdiv 128)) (v1 ++ [(b8 (w64 ((v0.tmod 128) + 128)))])
      else none
    else
      some (v0, v1)
theorem gl_impl_putNum_l0a (m : Nat) : ∀ (v0 : Int) (v1 : (List UInt8)) (o : (Int × (List UInt8))), L_impl_putNum_l0a m v0 v1 = some o → (mach cfg).loop 54 (loopB Tryz.f54 0) ⟨[(0, .val false [.ref 0]), (1, .val false [.int .i64 v0])], [.obj 1 (eL e_u8 v1)], 0⟩ = some (match o with | ⟨o_0, o_1⟩ => (.exit 0, (⟨[(0, .val false [.ref 0]), (1, .val false [.int .i64 o_0])], [.obj 1 (eL e_u8 o_1)], 0⟩ : S))) := by
  induction m with
  | zero => intro v0 v1 o h; cases h
  | succ m ih =>
    intro v0 v1 o h
    rw [L_impl_putNum_l0a] at h
    rcases ite_some h with ⟨c1, h⟩ | ⟨c1, h⟩
    ·obtain ⟨n2, h⟩ := need_some h
     exact loop_nQ [.gT c1, ⟨.nz 128, .b true, rfl⟩, ⟨.rem v0 128, .i (v0.tmod 128), rfl⟩, .ad (v0.tmod 128) 128, ⟨.conv .u8 (w64 ((v0.tmod 128) + 128)), .i (((b8 (w64 ((v0.tmod 128) + 128))).toNat : Nat) : Int), A.conv8⟩, ⟨.pl (eL e_u8 [(b8 (w64 ((v0.tmod 128) + 128)))]), .b true, (A.pl E_u8)⟩, ⟨.room 1 (eL e_u8 v1) (eL e_u8 [(b8 (w64 ((v0.tmod 128) + 128)))]), .b true, (A.room n2)⟩, ⟨.uni 1 (eL e_u8 [(b8 (w64 ((v0.tmod 128) + 128)))]), .b true, (A.uni E_u8)⟩, ⟨.app (eL e_u8 v1) (eL e_u8 [(b8 (w64 ((v0.tmod 128) + 128)))]), .l (eL e_u8 (v1 ++ [(b8 (w64 ((v0.tmod 128) + 128)))])), A.app⟩, ⟨.nz 128, .b true, rfl⟩, ⟨.quo .i64 v0 128, .i (w64 (v0.tdiv 128)), rfl⟩] (by kernel_rfl) (ih (w64 (v0.tdiv 128)) (v1 ++ [(b8 (w64 ((v0.tmod 128) + 128)))]) o h)
    ·obtain rfl := Option.some.inj h
     exact loop_eQ [.gF c1] (by kernel_rfl) (by intro h; cases h)
def L_impl_putNum_l0 (n : Nat) (a0 : Int) (v1 : Bool) (v2 : (List UInt8)) : Nat → Option (Int × (List UInt8))
  | 0 => none
  | m + 1 =>
    if 128 <= a0 then
      if roomP 1 (v2.length + [(b8 (w64 ((a0.tmod 128) + 128)))].length) then
      (L_impl_putNum_l0a n (w64 (a0.tdiv 128)) (v2 ++ [(b8 (w64 ((a0.tmod 128) + 128)))])).bind fun ⟨o3_0, o3_1⟩ =>
      some (o3_0, o3_1)
      else none
    else
      some (a0, v2)
theorem gl_impl_putNum_l0 (n : Nat) (a0 : Int) (v1 : Bool) (v2 : (List UInt8)) (m : Nat) : ∀ (o : (Int × (List UInt8))), L_impl_putNum_l0 n a0 v1 v2 m = some o → (mach cfg).loop 54 (loopB Tryz.f54 0) ⟨[(0, .val false [.ref 0]), (1, .val false [.int .i64 a0]), (7, .val false [.bool v1])], [.obj 1 (eL e_u8 v2)], 0⟩ = some (match o with | ⟨o_0, o_1⟩ => (.exit 0, (⟨[(0, .val false [.ref 0]), (1, .val false [.int .i64 o_0])], [.obj 1 (eL e_u8 o_1)], 0⟩ : S))) := by
  induction m with
  | zero => intro  o h; cases h
  | succ m ih =>
    intro  o h
    rw [L_impl_putNum_l0] at h
    rcases ite_some h with ⟨c1, h⟩ | ⟨c1, h⟩
    ·obtain ⟨n2, h⟩ := need_some h
     obtain ⟨⟨o3_0, o3_1⟩, ho3, h⟩ := bs h
     try dsimp only at h
     obtain rfl := Option.some.inj h
     exact loop_nQ [.gT c1, ⟨.nz 128, .b true, rfl⟩, ⟨.rem a0 128, .i (a0.tmod 128), rfl⟩, .ad (a0.tmod 128) 128, ⟨.conv .u8 (w64 ((a0.tmod 128) + 128)), .i (((b8 (w64 ((a0.tmod 128) + 128))).toNat : Nat) : Int), A.conv8⟩, ⟨.pl (eL e_u8 [(b8 (w64 ((a0.tmod 128) + 128)))]), .b true, (A.pl E_u8)⟩, ⟨.room 1 (eL e_u8 v2) (eL e_u8 [(b8 (w64 ((a0.tmod 128) + 128)))]), .b true, (A.room n2)⟩, ⟨.uni 1 (eL e_u8 [(b8 (w64 ((a0.tmod 128) + 128)))]), .b true, (A.uni E_u8)⟩, ⟨.app (eL e_u8 v2) (eL e_u8 [(b8 (w64 ((a0.tmod 128) + 128)))]), .l (eL e_u8 (v2 ++ [(b8 (w64 ((a0.tmod 128) + 128)))])), A.app⟩, ⟨.nz 128, .b true, rfl⟩, ⟨.quo .i64 a0 128, .i (w64 (a0.tdiv 128)), rfl⟩] (by kernel_rfl) (gl_impl_putNum_l0a _ (w64 (a0.tdiv 128)) (v2 ++ [(b8 (w64 ((a0.tmod 128) + 128)))]) _ ho3)
    ·obtain rfl := Option.some.inj h
     exact loop_eQ [.gF c1] (by kernel_rfl) (by intro h; cases h)
def T_impl_putNum (n : Nat) (a0 : Int) : Option (List UInt8) :=
  (S_impl_in a0 0 2147483647).bind fun r1 =>
  match r1 with
  | true =>
    (L_impl_putNum_l0 n a0 false [] n).bind fun ⟨o3_0, o3_1⟩ =>
    if roomP 1 (o3_1.length + [(b8 o3_0)].length) then
    some (o3_1 ++ [(b8 o3_0)])
    else none
  | false =>
    some []
set_option maxRecDepth 100000 in
theorem fd_54 : cfg.funcs 54 = some (bodyOf Tryz.f54, Tryz.f54.ntmps, Tryz.f54.results.toList) := fn_of Tryz.func54 (by kernel_rfl) (by kernel_rfl)
theorem g_impl_putNum (n : Nat) (a0 : Int) (r : (List UInt8)) (h : T_impl_putNum n a0 = some r) : (mach cfg).call 54 [] [.val false [.nils], .val false [.int .i64 a0]] = some (.val false [.own 1 (eL e_u8 r)], []) := by
  unfold T_impl_putNum at h
  obtain ⟨r1, hr1, h⟩ := bs h
  cases r1 with
  | true =>
   try dsimp only at h
   obtain ⟨⟨o3_0, o3_1⟩, ho3, h⟩ := bs h
   try dsimp only at h
   obtain ⟨n4, h⟩ := need_some h
   obtain rfl := Option.some.inj h
   exact call_wQ [.cl (ok_impl_in a0 0 2147483647 _ hr1), .nt true, .lp (gl_impl_putNum_l0 n a0 false [] _ _ ho3), ⟨.conv .u8 o3_0, .i (((b8 o3_0).toNat : Nat) : Int), A.conv8⟩, ⟨.pl (eL e_u8 [(b8 o3_0)]), .b true, (A.pl E_u8)⟩, ⟨.room 1 (eL e_u8 o3_1) (eL e_u8 [(b8 o3_0)]), .b true, (A.room n4)⟩, ⟨.uni 1 (eL e_u8 [(b8 o3_0)]), .b true, (A.uni E_u8)⟩, ⟨.app (eL e_u8 o3_1) (eL e_u8 [(b8 o3_0)]), .l (eL e_u8 (o3_1 ++ [(b8 o3_0)])), A.app⟩] rfl fd_54 (by kernel_rfl)
  | false =>
   try dsimp only at h
   obtain rfl := Option.some.inj h
   exact call_wQ [.cl (ok_impl_in a0 0 2147483647 _ hr1), .nt false] rfl fd_54 (by kernel_rfl)
def S_impl_putNum (a0 : Int) : Option (List UInt8) := T_impl_putNum 10 a0
theorem spec_impl_putNum (a0 : Int) (r : (List UInt8)) (h : S_impl_putNum a0 = some r) : ∃ n, T_impl_putNum n a0 = some r := ⟨_, h⟩
theorem ok_impl_putNum (a0 : Int) (r : (List UInt8)) (h : S_impl_putNum a0 = some r) : (mach cfg).call 54 [] [.val false [.nils], .val false [.int .i64 a0]] = some (.val false [.own 1 (eL e_u8 r)], []) := by
  obtain ⟨n, hn⟩ := spec_impl_putNum a0 r h
  exact g_impl_putNum n a0 r hn
def L_impl_putNum_2_l0a : Nat → Int → (List UInt8) → Option (Int × (List UInt8))
  | 0, _, _ => none
  | m + 1, v0, v1 =>
    if 128 <= v0 then
      if roomP 1 (v1.length + [(b8 (w64 ((v0.tmod 128) + 128)))].length) then
      L_impl_putNum_2_l0a m (w64 (v0.tdiv 128)) (v1 ++ [(b8 (w64 ((v0.tmod 128) + 128)))])
      else none
    else
      some (v0, v1)
theorem gl_impl_putNum_2_l0a (m : Nat) : ∀ (v0 : Int) (v1 : (List UInt8)) (o : (Int × (List UInt8))), L_impl_putNum_2_l0a m v0 v1 = some o → (mach cfg).loop 54 (loopB Tryz.f54 0) ⟨[(0, .val false [.ref 1]), (1, .val false [.int .i64 v0])], [.dead, .obj 1 (eL e_u8 v1)], 1⟩ = some (match o with | ⟨o_0, o_1⟩ => (.exit 0, (⟨[(0, .val false [.ref 1]), (1, .val false [.int .i64 o_0])], [.dead, .obj 1 (eL e_u8 o_1)], 1⟩ : S))) := by
  induction m with
  | zero => intro v0 v1 o h; cases h
  | succ m ih =>
    intro v0 v1 o h
    rw [L_impl_putNum_2_l0a] at h
    rcases ite_some h with ⟨c1, h⟩ | ⟨c1, h⟩
    ·obtain ⟨n2, h⟩ := need_some h
     exact loop_nQ [.gT c1, ⟨.nz 128, .b true, rfl⟩, ⟨.rem v0 128, .i (v0.tmod 128), rfl⟩, .ad (v0.tmod 128) 128, ⟨.conv .u8 (w64 ((v0.tmod 128) + 128)), .i (((b8 (w64 ((v0.tmod 128) + 128))).toNat : Nat) : Int), A.conv8⟩, ⟨.pl (eL e_u8 [(b8 (w64 ((v0.tmod 128) + 128)))]), .b true, (A.pl E_u8)⟩, ⟨.room 1 (eL e_u8 v1) (eL e_u8 [(b8 (w64 ((v0.tmod 128) + 128)))]), .b true, (A.room n2)⟩, ⟨.uni 1 (eL e_u8 [(b8 (w64 ((v0.tmod 128) + 128)))]), .b true, (A.uni E_u8)⟩, ⟨.app (eL e_u8 v1) (eL e_u8 [(b8 (w64 ((v0.tmod 128) + 128)))]), .l (eL e_u8 (v1 ++ [(b8 (w64 ((v0.tmod 128) + 128)))])), A.app⟩, ⟨.nz 128, .b true, rfl⟩, ⟨.quo .i64 v0 128, .i (w64 (v0.tdiv 128)), rfl⟩] (by kernel_rfl) (ih (w64 (v0.tdiv 128)) (v1 ++ [(b8 (w64 ((v0.tmod 128) + 128)))]) o h)
    ·obtain rfl := Option.some.inj h
     exact loop_eQ [.gF c1] (by kernel_rfl) (by intro h; cases h)
def L_impl_putNum_2_l0 (n : Nat) (a0 : Int) (v1 : Bool) (e0 : (List UInt8)) : Nat → Option (Int × (List UInt8))
  | 0 => none
  | m + 1 =>
    if 128 <= a0 then
      if roomP 1 (e0.length + [(b8 (w64 ((a0.tmod 128) + 128)))].length) then
      (L_impl_putNum_2_l0a n (w64 (a0.tdiv 128)) (e0 ++ [(b8 (w64 ((a0.tmod 128) + 128)))])).bind fun ⟨o3_0, o3_1⟩ =>
      some (o3_0, o3_1)
      else none
    else
      some (a0, e0)
theorem gl_impl_putNum_2_l0 (n : Nat) (a0 : Int) (v1 : Bool) (e0 : (List UInt8)) (m : Nat) : ∀ (o : (Int × (List UInt8))), L_impl_putNum_2_l0 n a0 v1 e0 m = some o → (mach cfg).loop 54 (loopB Tryz.f54 0) ⟨[(0, .val false [.ref 1]), (1, .val false [.int .i64 a0]), (7, .val false [.bool v1])], [.dead, .obj 1 (eL e_u8 e0)], 1⟩ = some (match o with | ⟨o_0, o_1⟩ => (.exit 0, (⟨[(0, .val false [.ref 1]), (1, .val false [.int .i64 o_0])], [.dead, .obj 1 (eL e_u8 o_1)], 1⟩ : S))) := by
  induction m with
  | zero => intro  o h; cases h
  | succ m ih =>
    intro  o h
    rw [L_impl_putNum_2_l0] at h
    rcases ite_some h with ⟨c1, h⟩ | ⟨c1, h⟩
    ·obtain ⟨n2, h⟩ := need_some h
     obtain ⟨⟨o3_0, o3_1⟩, ho3, h⟩ := bs h
     try dsimp only at h
     obtain rfl := Option.some.inj h
     exact loop_nQ [.gT c1, ⟨.nz 128, .b true, rfl⟩, ⟨.rem a0 128, .i (a0.tmod 128), rfl⟩, .ad (a0.tmod 128) 128, ⟨.conv .u8 (w64 ((a0.tmod 128) + 128)), .i (((b8 (w64 ((a0.tmod 128) + 128))).toNat : Nat) : Int), A.conv8⟩, ⟨.pl (eL e_u8 [(b8 (w64 ((a0.tmod 128) + 128)))]), .b true, (A.pl E_u8)⟩, ⟨.room 1 (eL e_u8 e0) (eL e_u8 [(b8 (w64 ((a0.tmod 128) + 128)))]), .b true, (A.room n2)⟩, ⟨.uni 1 (eL e_u8 [(b8 (w64 ((a0.tmod 128) + 128)))]), .b true, (A.uni E_u8)⟩, ⟨.app (eL e_u8 e0) (eL e_u8 [(b8 (w64 ((a0.tmod 128) + 128)))]), .l (eL e_u8 (e0 ++ [(b8 (w64 ((a0.tmod 128) + 128)))])), A.app⟩, ⟨.nz 128, .b true, rfl⟩, ⟨.quo .i64 a0 128, .i (w64 (a0.tdiv 128)), rfl⟩] (by kernel_rfl) (gl_impl_putNum_2_l0a _ (w64 (a0.tdiv 128)) (e0 ++ [(b8 (w64 ((a0.tmod 128) + 128)))]) _ ho3)
    ·obtain rfl := Option.some.inj h
     exact loop_eQ [.gF c1] (by kernel_rfl) (by intro h; cases h)
def T_impl_putNum_2 (n : Nat) (a0 : Int) (e0 : (List UInt8)) : Option (List UInt8) :=
  (S_impl_in a0 0 2147483647).bind fun r1 =>
  match r1 with
  | true =>
    (L_impl_putNum_2_l0 n a0 false e0 n).bind fun ⟨o3_0, o3_1⟩ =>
    if roomP 1 (o3_1.length + [(b8 o3_0)].length) then
    some (o3_1 ++ [(b8 o3_0)])
    else none
  | false =>
    some e0
theorem g_impl_putNum_2 (n : Nat) (a0 : Int) (e0 : (List UInt8)) (r : (List UInt8)) (h : T_impl_putNum_2 n a0 e0 = some r) : (mach cfg).call 54 [.obj 1 (eL e_u8 e0)] [.val false [.ref 0], .val false [.int .i64 a0]] = some (.val false [.own 1 (eL e_u8 r)], [.dead]) := by
  unfold T_impl_putNum_2 at h
  obtain ⟨r1, hr1, h⟩ := bs h
  cases r1 with
  | true =>
   try dsimp only at h
   obtain ⟨⟨o3_0, o3_1⟩, ho3, h⟩ := bs h
   try dsimp only at h
   obtain ⟨n4, h⟩ := need_some h
   obtain rfl := Option.some.inj h
   exact call_wQ [.cl (ok_impl_in a0 0 2147483647 _ hr1), .nt true, .lp (gl_impl_putNum_2_l0 n a0 false e0 _ _ ho3), ⟨.conv .u8 o3_0, .i (((b8 o3_0).toNat : Nat) : Int), A.conv8⟩, ⟨.pl (eL e_u8 [(b8 o3_0)]), .b true, (A.pl E_u8)⟩, ⟨.room 1 (eL e_u8 o3_1) (eL e_u8 [(b8 o3_0)]), .b true, (A.room n4)⟩, ⟨.uni 1 (eL e_u8 [(b8 o3_0)]), .b true, (A.uni E_u8)⟩, ⟨.app (eL e_u8 o3_1) (eL e_u8 [(b8 o3_0)]), .l (eL e_u8 (o3_1 ++ [(b8 o3_0)])), A.app⟩] rfl fd_54 (by kernel_rfl)
  | false =>
   try dsimp only at h
   obtain rfl := Option.some.inj h
   exact call_wQ [.cl (ok_impl_in a0 0 2147483647 _ hr1), .nt false] rfl fd_54 (by kernel_rfl)
def S_impl_putNum_2 (a0 : Int) (e0 : (List UInt8)) : Option (List UInt8) := T_impl_putNum_2 10 a0 e0
theorem spec_impl_putNum_2 (a0 : Int) (e0 : (List UInt8)) (r : (List UInt8)) (h : S_impl_putNum_2 a0 e0 = some r) : ∃ n, T_impl_putNum_2 n a0 e0 = some r := ⟨_, h⟩
theorem ok_impl_putNum_2 (a0 : Int) (e0 : (List UInt8)) (r : (List UInt8)) (h : S_impl_putNum_2 a0 e0 = some r) : (mach cfg).call 54 [.obj 1 (eL e_u8 e0)] [.val false [.ref 0], .val false [.int .i64 a0]] = some (.val false [.own 1 (eL e_u8 r)], [.dead]) := by
  obtain ⟨n, hn⟩ := spec_impl_putNum_2 a0 e0 r h
  exact g_impl_putNum_2 n a0 e0 r hn
def S_impl_putText (a0 : (List UInt8)) (e0 : (List UInt8)) : Option (List UInt8) :=
  if 20 < ((a0.length : Nat) : Int) then
    some e0
  else
    (S_impl_putNum_2 ((a0.length : Nat) : Int) e0).bind fun r2 =>
    if roomP 1 (r2.length + a0.length) then
    some (r2 ++ a0)
    else none
set_option maxRecDepth 100000 in
theorem fd_55 : cfg.funcs 55 = some (bodyOf Tryz.f55, Tryz.f55.ntmps, Tryz.f55.results.toList) := fn_of Tryz.func55 (by kernel_rfl) (by kernel_rfl)
theorem ok_impl_putText (a0 : (List UInt8)) (e0 : (List UInt8)) (r : (List UInt8)) (h : S_impl_putText a0 e0 = some r) : (mach cfg).call 55 [.obj 1 (eL e_u8 e0)] [.val false [.ref 0], .val false [.seq (eL e_u8 a0)]] = some (.val false [.own 1 (eL e_u8 r)], [.dead]) := by
  unfold S_impl_putText at h
  rcases ite_some h with ⟨c1, h⟩ | ⟨c1, h⟩
  ·obtain rfl := Option.some.inj h
   exact call_wQ [.le e_u8 a0, .lT c1] rfl fd_55 (by kernel_rfl)
  ·obtain ⟨r2, hr2, h⟩ := bs h
   obtain ⟨n3, h⟩ := need_some h
   obtain rfl := Option.some.inj h
   exact call_wQ [.le e_u8 a0, .lF c1, .le e_u8 a0, .cl (ok_impl_putNum_2 ((a0.length : Nat) : Int) e0 _ hr2), ⟨.room 1 (eL e_u8 r2) (eL e_u8 a0), .b true, (A.room n3)⟩, ⟨.uni 1 (eL e_u8 a0), .b true, (A.uni E_u8)⟩, ⟨.app (eL e_u8 r2) (eL e_u8 a0), .l (eL e_u8 (r2 ++ a0)), A.app⟩] rfl fd_55 (by kernel_rfl)
def L_impl_Value_bytes_l0 (G_impl_Value_bytes : GValue → (List UInt8) → Option (List UInt8)) (v0 : (List GValue)) (v1 : Int) (a0 : GValue) : Nat → Int → (List UInt8) → Option (Int × (List UInt8))
  | 0, _, _ => none
  | m + 1, v2, v3 =>
    if v2 < v1 then
      (natO v2).bind fun i2 =>
      (v0[i2]?).bind fun x3 =>
      if a0.Kind = 5 then
        (a0.K[i2]?).bind fun x5 =>
        (S_impl_putText x5 v3).bind fun r6 =>
        (G_impl_Value_bytes x3 r6).bind fun r7 =>
        L_impl_Value_bytes_l0 G_impl_Value_bytes v0 v1 a0 m (w64 (v2 + 1)) r7
      else
        (G_impl_Value_bytes x3 v3).bind fun r5 =>
        L_impl_Value_bytes_l0 G_impl_Value_bytes v0 v1 a0 m (w64 (v2 + 1)) r5
    else
      some (v2, v3)
theorem gl_impl_Value_bytes_l0 (G_impl_Value_bytes : GValue → (List UInt8) → Option (List UInt8)) (H_impl_Value_bytes : ∀ (a0 : GValue) (e0 : (List UInt8)) (r : (List UInt8)), G_impl_Value_bytes a0 e0 = some r → (mach cfg).call 56 [.obj 1 (eL e_u8 e0)] [.val true [.int .i64 a0.Kind, .int .i64 a0.N, .seq (eL e_u8 a0.S), .seq (eL (e_sl e_u8) a0.K), .seq (eL e_GValue a0.L)], .val false [.ref 0]] = some (.val false [.own 1 (eL e_u8 r)], [.dead])) (v0 : (List GValue)) (v1 : Int) (a0 : GValue) (m : Nat) : ∀ (v2 : Int) (v3 : (List UInt8)) (o : (Int × (List UInt8))), L_impl_Value_bytes_l0 G_impl_Value_bytes v0 v1 a0 m v2 v3 = some o → (mach cfg).loop 56 (loopB Tryz.f56 0) ⟨[(1, .val false [.ref 1]), (2, .val false [.ptr 2 0]), (53, .val false [.seq (eL e_GValue v0)]), (54, .val false [.int .i64 v1]), (55, .val false [.int .i64 v2])], [.dead, .obj 1 (eL e_u8 v3), .var [.int .i64 a0.Kind, .int .i64 a0.N, .seq (eL e_u8 a0.S), .seq (eL (e_sl e_u8) a0.K), .seq (eL e_GValue a0.L)]], 1⟩ = some (match o with | ⟨o_0, o_1⟩ => (.exit 1, (⟨[(1, .val false [.ref 1]), (2, .val false [.ptr 2 0]), (53, .val false [.seq (eL e_GValue v0)]), (54, .val false [.int .i64 v1]), (55, .val false [.int .i64 o_0]), (56, .val false [.bool false])], [.dead, .obj 1 (eL e_u8 o_1), .var [.int .i64 a0.Kind, .int .i64 a0.N, .seq (eL e_u8 a0.S), .seq (eL (e_sl e_u8) a0.K), .seq (eL e_GValue a0.L)]], 1⟩ : S))) := by
  induction m with
  | zero => intro v2 v3 o h; cases h
  | succ m ih =>
    intro v2 v3 o h
    rw [L_impl_Value_bytes_l0] at h
    rcases ite_some h with ⟨c1, h⟩ | ⟨c1, h⟩
    ·obtain ⟨i2, hi2, h⟩ := bs h
     obtain ⟨x3, hx3, h⟩ := bs h
     rcases ite_some h with ⟨c4, h⟩ | ⟨c4, h⟩
     ·obtain ⟨x5, hx5, h⟩ := bs h
      obtain ⟨r6, hr6, h⟩ := bs h
      obtain ⟨r7, hr7, h⟩ := bs h
      exact loop_nQ [.lT c1, .na hi2, .ix hx3 (eq_GValue x3), .eT c4, .na hi2, .ix0 (e_sl e_u8) hx5, .cl (ok_impl_putText x5 v3 _ hr6), .cl (H_impl_Value_bytes x3 r6 _ hr7), .ad v2 1] (by kernel_rfl) (ih (w64 (v2 + 1)) r7 o h)
     ·obtain ⟨r5, hr5, h⟩ := bs h
      exact loop_nQ [.lT c1, .na hi2, .ix hx3 (eq_GValue x3), .eF c4, .cl (H_impl_Value_bytes x3 v3 _ hr5), .ad v2 1] (by kernel_rfl) (ih (w64 (v2 + 1)) r5 o h)
    ·obtain rfl := Option.some.inj h
     exact loop_eQ [.lF c1] (by kernel_rfl) (by intro h; cases h)
def T_impl_Value_bytes (G_impl_Value_bytes : GValue → (List UInt8) → Option (List UInt8)) (n : Nat) (a0 : GValue) (e0 : (List UInt8)) : Option (List UInt8) :=
  (S_impl_putNum_2 a0.Kind e0).bind fun r1 =>
  if a0.Kind = 1 then
    (S_impl_putNum_2 a0.N r1).bind fun r3 =>
    some r3
  else
    if a0.Kind = 2 then
      if a0.N < 0 then
        (S_impl_putNum_2 1 r1).bind fun r5 =>
        (S_impl_putNum_2 (w64 ((w64 (0 - a0.N)).tdiv 1000000)) r5).bind fun r6 =>
        (S_impl_putNum_2 ((w64 (0 - a0.N)).tmod 1000000) r6).bind fun r7 =>
        some r7
      else
        (S_impl_putNum_2 0 r1).bind fun r5 =>
        (S_impl_putNum_2 (w64 (a0.N.tdiv 1000000)) r5).bind fun r6 =>
        (S_impl_putNum_2 (a0.N.tmod 1000000) r6).bind fun r7 =>
        some r7
    else
      if a0.Kind = 3 then
        (S_impl_putText a0.S r1).bind fun r5 =>
        some r5
      else
        if a0.Kind = 4 then
          (S_impl_putNum_2 ((a0.L.length : Nat) : Int) r1).bind fun r6 =>
          (L_impl_Value_bytes_l0 G_impl_Value_bytes a0.L ((a0.L.length : Nat) : Int) a0 n 0 r6).bind fun ⟨o7_0, o7_1⟩ =>
          some o7_1
        else
          if a0.Kind = 5 then
            (S_impl_putNum_2 ((a0.L.length : Nat) : Int) r1).bind fun r7 =>
            (L_impl_Value_bytes_l0 G_impl_Value_bytes a0.L ((a0.L.length : Nat) : Int) a0 n 0 r7).bind fun ⟨o8_0, o8_1⟩ =>
            some o8_1
          else
            some r1
set_option maxRecDepth 100000 in
theorem fd_56 : cfg.funcs 56 = some (bodyOf Tryz.f56, Tryz.f56.ntmps, Tryz.f56.results.toList) := fn_of Tryz.func56 (by kernel_rfl) (by kernel_rfl)
theorem g_impl_Value_bytes (G_impl_Value_bytes : GValue → (List UInt8) → Option (List UInt8)) (H_impl_Value_bytes : ∀ (a0 : GValue) (e0 : (List UInt8)) (r : (List UInt8)), G_impl_Value_bytes a0 e0 = some r → (mach cfg).call 56 [.obj 1 (eL e_u8 e0)] [.val true [.int .i64 a0.Kind, .int .i64 a0.N, .seq (eL e_u8 a0.S), .seq (eL (e_sl e_u8) a0.K), .seq (eL e_GValue a0.L)], .val false [.ref 0]] = some (.val false [.own 1 (eL e_u8 r)], [.dead])) (n : Nat) (a0 : GValue) (e0 : (List UInt8)) (r : (List UInt8)) (h : T_impl_Value_bytes G_impl_Value_bytes n a0 e0 = some r) : (mach cfg).call 56 [.obj 1 (eL e_u8 e0)] [.val true [.int .i64 a0.Kind, .int .i64 a0.N, .seq (eL e_u8 a0.S), .seq (eL (e_sl e_u8) a0.K), .seq (eL e_GValue a0.L)], .val false [.ref 0]] = some (.val false [.own 1 (eL e_u8 r)], [.dead]) := by
  unfold T_impl_Value_bytes at h
  obtain ⟨r1, hr1, h⟩ := bs h
  rcases ite_some h with ⟨c2, h⟩ | ⟨c2, h⟩
  ·obtain ⟨r3, hr3, h⟩ := bs h
   obtain rfl := Option.some.inj h
   exact call_wQ [.cl (ok_impl_putNum_2 a0.Kind e0 _ hr1), .eT c2, .cl (ok_impl_putNum_2 a0.N r1 _ hr3)] rfl fd_56 (by kernel_rfl)
  ·rcases ite_some h with ⟨c3, h⟩ | ⟨c3, h⟩
   ·rcases ite_some h with ⟨c4, h⟩ | ⟨c4, h⟩
    ·obtain ⟨r5, hr5, h⟩ := bs h
     obtain ⟨r6, hr6, h⟩ := bs h
     obtain ⟨r7, hr7, h⟩ := bs h
     obtain rfl := Option.some.inj h
     exact call_wQ [.cl (ok_impl_putNum_2 a0.Kind e0 _ hr1), .eF c2, .eT c3, .lT c4, ⟨.neg .i64 a0.N, .i (w64 (0 - a0.N)), rfl⟩, .cl (ok_impl_putNum_2 1 r1 _ hr5), ⟨.nz 1000000, .b true, rfl⟩, ⟨.quo .i64 (w64 (0 - a0.N)) 1000000, .i (w64 ((w64 (0 - a0.N)).tdiv 1000000)), rfl⟩, .cl (ok_impl_putNum_2 (w64 ((w64 (0 - a0.N)).tdiv 1000000)) r5 _ hr6), ⟨.nz 1000000, .b true, rfl⟩, ⟨.rem (w64 (0 - a0.N)) 1000000, .i ((w64 (0 - a0.N)).tmod 1000000), rfl⟩, .cl (ok_impl_putNum_2 ((w64 (0 - a0.N)).tmod 1000000) r6 _ hr7)] rfl fd_56 (by kernel_rfl)
    ·obtain ⟨r5, hr5, h⟩ := bs h
     obtain ⟨r6, hr6, h⟩ := bs h
     obtain ⟨r7, hr7, h⟩ := bs h
     obtain rfl := Option.some.inj h
     exact call_wQ [.cl (ok_impl_putNum_2 a0.Kind e0 _ hr1), .eF c2, .eT c3, .lF c4, .cl (ok_impl_putNum_2 0 r1 _ hr5), ⟨.nz 1000000, .b true, rfl⟩, ⟨.quo .i64 a0.N 1000000, .i (w64 (a0.N.tdiv 1000000)), rfl⟩, .cl (ok_impl_putNum_2 (w64 (a0.N.tdiv 1000000)) r5 _ hr6), ⟨.nz 1000000, .b true, rfl⟩, ⟨.rem a0.N 1000000, .i (a0.N.tmod 1000000), rfl⟩, .cl (ok_impl_putNum_2 (a0.N.tmod 1000000) r6 _ hr7)] rfl fd_56 (by kernel_rfl)
   ·rcases ite_some h with ⟨c4, h⟩ | ⟨c4, h⟩
    ·obtain ⟨r5, hr5, h⟩ := bs h
     obtain rfl := Option.some.inj h
     exact call_wQ [.cl (ok_impl_putNum_2 a0.Kind e0 _ hr1), .eF c2, .eF c3, .eT c4, .cl (ok_impl_putText a0.S r1 _ hr5)] rfl fd_56 (by kernel_rfl)
    ·rcases ite_some h with ⟨c5, h⟩ | ⟨c5, h⟩
     ·obtain ⟨r6, hr6, h⟩ := bs h
      obtain ⟨⟨o7_0, o7_1⟩, ho7, h⟩ := bs h
      try dsimp only at h
      obtain rfl := Option.some.inj h
      exact call_wQ [.cl (ok_impl_putNum_2 a0.Kind e0 _ hr1), .eF c2, .eF c3, .eF c4, .eT c5, .le e_GValue a0.L, .cl (ok_impl_putNum_2 ((a0.L.length : Nat) : Int) r1 _ hr6), .le e_GValue a0.L, .lp (gl_impl_Value_bytes_l0 G_impl_Value_bytes H_impl_Value_bytes a0.L ((a0.L.length : Nat) : Int) a0 _ 0 r6 _ ho7)] rfl fd_56 (by kernel_rfl)
     ·rcases ite_some h with ⟨c6, h⟩ | ⟨c6, h⟩
      ·obtain ⟨r7, hr7, h⟩ := bs h
       obtain ⟨⟨o8_0, o8_1⟩, ho8, h⟩ := bs h
       try dsimp only at h
       obtain rfl := Option.some.inj h
       exact call_wQ [.cl (ok_impl_putNum_2 a0.Kind e0 _ hr1), .eF c2, .eF c3, .eF c4, .eF c5, .eT c6, .le e_GValue a0.L, .cl (ok_impl_putNum_2 ((a0.L.length : Nat) : Int) r1 _ hr7), .le e_GValue a0.L, .lp (gl_impl_Value_bytes_l0 G_impl_Value_bytes H_impl_Value_bytes a0.L ((a0.L.length : Nat) : Int) a0 _ 0 r7 _ ho8)] rfl fd_56 (by kernel_rfl)
      ·obtain rfl := Option.some.inj h
       exact call_wQ [.cl (ok_impl_putNum_2 a0.Kind e0 _ hr1), .eF c2, .eF c3, .eF c4, .eF c5, .eF c6] rfl fd_56 (by kernel_rfl)
def U_impl_Value_bytes : Nat → GValue → (List UInt8) → Option (List UInt8)
  | 0, _, _ => none
  | n + 1, a0, e0 => T_impl_Value_bytes (U_impl_Value_bytes n) n a0 e0
theorem rec_impl_Value_bytes (n : Nat) : (∀ (a0 : GValue) (e0 : (List UInt8)) (r : (List UInt8)), U_impl_Value_bytes n a0 e0 = some r → (mach cfg).call 56 [.obj 1 (eL e_u8 e0)] [.val true [.int .i64 a0.Kind, .int .i64 a0.N, .seq (eL e_u8 a0.S), .seq (eL (e_sl e_u8) a0.K), .seq (eL e_GValue a0.L)], .val false [.ref 0]] = some (.val false [.own 1 (eL e_u8 r)], [.dead])) := by
  induction n with
  | zero => exact fun _ _ _ h => (by rw [U_impl_Value_bytes] at h; cases h)
  | succ n ih =>
    have ih_impl_Value_bytes := ih
    exact fun a0 e0 r h => g_impl_Value_bytes (U_impl_Value_bytes n) ih_impl_Value_bytes n a0 e0 r (by rw [U_impl_Value_bytes] at h; exact h)
def S_impl_Value_bytes (a0 : GValue) (e0 : (List UInt8)) : Option (List UInt8) := U_impl_Value_bytes 100 a0 e0
theorem spec_impl_Value_bytes (a0 : GValue) (e0 : (List UInt8)) (r : (List UInt8)) (h : S_impl_Value_bytes a0 e0 = some r) : ∃ n, U_impl_Value_bytes n a0 e0 = some r := ⟨_, h⟩
theorem ok_impl_Value_bytes (a0 : GValue) (e0 : (List UInt8)) (r : (List UInt8)) (h : S_impl_Value_bytes a0 e0 = some r) : (mach cfg).call 56 [.obj 1 (eL e_u8 e0)] [.val true [.int .i64 a0.Kind, .int .i64 a0.N, .seq (eL e_u8 a0.S), .seq (eL (e_sl e_u8) a0.K), .seq (eL e_GValue a0.L)], .val false [.ref 0]] = some (.val false [.own 1 (eL e_u8 r)], [.dead]) := by
  obtain ⟨n, hn⟩ := spec_impl_Value_bytes a0 e0 r h
  exact (rec_impl_Value_bytes n) a0 e0 r hn
def L_impl_eventBytes_l0 (v0 : (List (List UInt8))) (v1 : Int) (a0 : GEvent) : Nat → Int → (List UInt8) → Option (Int × (List UInt8))
  | 0, _, _ => none
  | m + 1, v2, v4 =>
    if v2 < v1 then
      (natO v2).bind fun i2 =>
      (v0[i2]?).bind fun x3 =>
      (S_impl_putText x3 v4).bind fun r4 =>
      L_impl_eventBytes_l0 v0 v1 a0 m (w64 (v2 + 1)) r4
    else
      some (v2, v4)
theorem gl_impl_eventBytes_l0 (v0 : (List (List UInt8))) (v1 : Int) (a0 : GEvent) (m : Nat) : ∀ (v2 : Int) (v4 : (List UInt8)) (o : (Int × (List UInt8))), L_impl_eventBytes_l0 v0 v1 a0 m v2 v4 = some o → (mach cfg).loop 40 (loopB Tryz.f40 0) ⟨[(1, .val false [.ptr 0 0]), (3, .val false [.ref 1]), (33, .val false [.seq (eL (e_sl e_u8) v0)]), (34, .val false [.int .i64 v1]), (35, .val false [.int .i64 v2])], [.var [.int .i64 a0.Kind, .seq (eL e_u8 a0.Addr), .int .i64 a0.Act, .int .i64 a0.Val.Kind, .int .i64 a0.Val.N, .seq (eL e_u8 a0.Val.S), .seq (eL (e_sl e_u8) a0.Val.K), .seq (eL e_GValue a0.Val.L), .seq (eL (e_sl e_u8) a0.Deps)], .obj 1 (eL e_u8 v4)], 0⟩ = some (match o with | ⟨o_0, o_1⟩ => (.exit 1, (⟨[(1, .val false [.ptr 0 0]), (3, .val false [.ref 1]), (33, .val false [.seq (eL (e_sl e_u8) v0)]), (34, .val false [.int .i64 v1]), (35, .val false [.int .i64 o_0]), (36, .val false [.bool false])], [.var [.int .i64 a0.Kind, .seq (eL e_u8 a0.Addr), .int .i64 a0.Act, .int .i64 a0.Val.Kind, .int .i64 a0.Val.N, .seq (eL e_u8 a0.Val.S), .seq (eL (e_sl e_u8) a0.Val.K), .seq (eL e_GValue a0.Val.L), .seq (eL (e_sl e_u8) a0.Deps)], .obj 1 (eL e_u8 o_1)], 0⟩ : S))) := by
  induction m with
  | zero => intro v2 v4 o h; cases h
  | succ m ih =>
    intro v2 v4 o h
    rw [L_impl_eventBytes_l0] at h
    rcases ite_some h with ⟨c1, h⟩ | ⟨c1, h⟩
    ·obtain ⟨i2, hi2, h⟩ := bs h
     obtain ⟨x3, hx3, h⟩ := bs h
     obtain ⟨r4, hr4, h⟩ := bs h
     exact loop_nQ [.lT c1, .na hi2, .ix0 (e_sl e_u8) hx3, .cl (ok_impl_putText x3 v4 _ hr4), .ad v2 1] (by kernel_rfl) (ih (w64 (v2 + 1)) r4 o h)
    ·obtain rfl := Option.some.inj h
     exact loop_eQ [.lF c1] (by kernel_rfl) (by intro h; cases h)
def T_impl_eventBytes (n : Nat) (a0 : GEvent) : Option (List UInt8) :=
  (S_impl_putNum a0.Kind).bind fun r1 =>
  if 0 < ((a0.Addr.length : Nat) : Int) then
    (S_impl_putText a0.Addr r1).bind fun r3 =>
    if a0.Kind = 1 then
      (S_impl_putNum_2 a0.Act r3).bind fun r5 =>
      some r5
    else
      if a0.Kind = 2 then
        (S_impl_putNum_2 ((a0.Deps.length : Nat) : Int) r3).bind fun r6 =>
        (L_impl_eventBytes_l0 a0.Deps ((a0.Deps.length : Nat) : Int) a0 n 0 r6).bind fun ⟨o7_0, o7_1⟩ =>
        (S_impl_Value_bytes a0.Val o7_1).bind fun r8 =>
        some r8
      else
        some r3
  else
    if a0.Kind = 1 then
      (S_impl_putNum_2 a0.Act r1).bind fun r4 =>
      some r4
    else
      if a0.Kind = 2 then
        (S_impl_putNum_2 ((a0.Deps.length : Nat) : Int) r1).bind fun r5 =>
        (L_impl_eventBytes_l0 a0.Deps ((a0.Deps.length : Nat) : Int) a0 n 0 r5).bind fun ⟨o6_0, o6_1⟩ =>
        (S_impl_Value_bytes a0.Val o6_1).bind fun r7 =>
        some r7
      else
        some r1
set_option maxRecDepth 100000 in
theorem fd_40 : cfg.funcs 40 = some (bodyOf Tryz.f40, Tryz.f40.ntmps, Tryz.f40.results.toList) := fn_of Tryz.func40 (by kernel_rfl) (by kernel_rfl)
theorem g_impl_eventBytes (n : Nat) (a0 : GEvent) (r : (List UInt8)) (h : T_impl_eventBytes n a0 = some r) : (mach cfg).call 40 [] [.val true [.int .i64 a0.Kind, .seq (eL e_u8 a0.Addr), .int .i64 a0.Act, .int .i64 a0.Val.Kind, .int .i64 a0.Val.N, .seq (eL e_u8 a0.Val.S), .seq (eL (e_sl e_u8) a0.Val.K), .seq (eL e_GValue a0.Val.L), .seq (eL (e_sl e_u8) a0.Deps)]] = some (.val false [.own 1 (eL e_u8 r)], []) := by
  unfold T_impl_eventBytes at h
  obtain ⟨r1, hr1, h⟩ := bs h
  rcases ite_some h with ⟨c2, h⟩ | ⟨c2, h⟩
  ·obtain ⟨r3, hr3, h⟩ := bs h
   rcases ite_some h with ⟨c4, h⟩ | ⟨c4, h⟩
   ·obtain ⟨r5, hr5, h⟩ := bs h
    obtain rfl := Option.some.inj h
    exact call_wQ [.cl (ok_impl_putNum a0.Kind _ hr1), .le e_u8 a0.Addr, .lT c2, .cl (ok_impl_putText a0.Addr r1 _ hr3), .eT c4, .cl (ok_impl_putNum_2 a0.Act r3 _ hr5)] rfl fd_40 (by kernel_rfl)
   ·rcases ite_some h with ⟨c5, h⟩ | ⟨c5, h⟩
    ·obtain ⟨r6, hr6, h⟩ := bs h
     obtain ⟨⟨o7_0, o7_1⟩, ho7, h⟩ := bs h
     try dsimp only at h
     obtain ⟨r8, hr8, h⟩ := bs h
     obtain rfl := Option.some.inj h
     exact call_wQ [.cl (ok_impl_putNum a0.Kind _ hr1), .le e_u8 a0.Addr, .lT c2, .cl (ok_impl_putText a0.Addr r1 _ hr3), .eF c4, .eT c5, .le (e_sl e_u8) a0.Deps, .cl (ok_impl_putNum_2 ((a0.Deps.length : Nat) : Int) r3 _ hr6), .le (e_sl e_u8) a0.Deps, .lp (gl_impl_eventBytes_l0 a0.Deps ((a0.Deps.length : Nat) : Int) a0 _ 0 r6 _ ho7), .cl (ok_impl_Value_bytes a0.Val o7_1 _ hr8)] rfl fd_40 (by kernel_rfl)
    ·obtain rfl := Option.some.inj h
     exact call_wQ [.cl (ok_impl_putNum a0.Kind _ hr1), .le e_u8 a0.Addr, .lT c2, .cl (ok_impl_putText a0.Addr r1 _ hr3), .eF c4, .eF c5] rfl fd_40 (by kernel_rfl)
  ·rcases ite_some h with ⟨c3, h⟩ | ⟨c3, h⟩
   ·obtain ⟨r4, hr4, h⟩ := bs h
    obtain rfl := Option.some.inj h
    exact call_wQ [.cl (ok_impl_putNum a0.Kind _ hr1), .le e_u8 a0.Addr, .lF c2, .eT c3, .cl (ok_impl_putNum_2 a0.Act r1 _ hr4)] rfl fd_40 (by kernel_rfl)
   ·rcases ite_some h with ⟨c4, h⟩ | ⟨c4, h⟩
    ·obtain ⟨r5, hr5, h⟩ := bs h
     obtain ⟨⟨o6_0, o6_1⟩, ho6, h⟩ := bs h
     try dsimp only at h
     obtain ⟨r7, hr7, h⟩ := bs h
     obtain rfl := Option.some.inj h
     exact call_wQ [.cl (ok_impl_putNum a0.Kind _ hr1), .le e_u8 a0.Addr, .lF c2, .eF c3, .eT c4, .le (e_sl e_u8) a0.Deps, .cl (ok_impl_putNum_2 ((a0.Deps.length : Nat) : Int) r1 _ hr5), .le (e_sl e_u8) a0.Deps, .lp (gl_impl_eventBytes_l0 a0.Deps ((a0.Deps.length : Nat) : Int) a0 _ 0 r5 _ ho6), .cl (ok_impl_Value_bytes a0.Val o6_1 _ hr7)] rfl fd_40 (by kernel_rfl)
    ·obtain rfl := Option.some.inj h
     exact call_wQ [.cl (ok_impl_putNum a0.Kind _ hr1), .le e_u8 a0.Addr, .lF c2, .eF c3, .eF c4] rfl fd_40 (by kernel_rfl)
def S_impl_eventBytes (a0 : GEvent) : Option (List UInt8) := T_impl_eventBytes 100 a0
theorem spec_impl_eventBytes (a0 : GEvent) (r : (List UInt8)) (h : S_impl_eventBytes a0 = some r) : ∃ n, T_impl_eventBytes n a0 = some r := ⟨_, h⟩
theorem ok_impl_eventBytes (a0 : GEvent) (r : (List UInt8)) (h : S_impl_eventBytes a0 = some r) : (mach cfg).call 40 [] [.val true [.int .i64 a0.Kind, .seq (eL e_u8 a0.Addr), .int .i64 a0.Act, .int .i64 a0.Val.Kind, .int .i64 a0.Val.N, .seq (eL e_u8 a0.Val.S), .seq (eL (e_sl e_u8) a0.Val.K), .seq (eL e_GValue a0.Val.L), .seq (eL (e_sl e_u8) a0.Deps)]] = some (.val false [.own 1 (eL e_u8 r)], []) := by
  obtain ⟨n, hn⟩ := spec_impl_eventBytes a0 r h
  exact g_impl_eventBytes n a0 r hn
def L_impl_readValue_l0 (G_impl_readValue : (List UInt8) → Int → Int → Option (GValue × Int)) (a0 : (List UInt8)) (a2 : Int) (v3 : Int) (v4 : Int) (v6 : Int) (v7 : Int) (v8 : Int) (v9 : (List UInt8)) (v10 : (List (List UInt8))) (v11 : (List GValue)) (v12 : (List UInt8)) : Nat → Int → Int → (List (List UInt8)) → (List GValue) → Option (Int × Int × (List (List UInt8)) × (List GValue))
  | 0, _, _, _, _ => none
  | m + 1, v1, v5, v13, v14 =>
    if v5 < v4 then
      if 0 <= v1 then
        if v3 = 5 then
          (S_impl_getText a0 v1).bind fun ⟨r4_0, r4_1⟩ =>
          if roomP 24 (v13.length + [r4_0].length) then
          (G_impl_readValue a0 r4_1 (w64 (a2 + 1))).bind fun ⟨r6_0, r6_1⟩ =>
          if roomP 88 (v14.length + [r6_0].length) then
          L_impl_readValue_l0 G_impl_readValue a0 a2 v3 v4 v6 v7 v8 v9 v10 v11 v12 m r6_1 (w64 (v5 + 1)) (v13 ++ [r4_0]) (v14 ++ [r6_0])
          else none
          else none
        else
          (G_impl_readValue a0 v1 (w64 (a2 + 1))).bind fun ⟨r4_0, r4_1⟩ =>
          if roomP 88 (v14.length + [r4_0].length) then
          L_impl_readValue_l0 G_impl_readValue a0 a2 v3 v4 v6 v7 v8 v9 v10 v11 v12 m r4_1 (w64 (v5 + 1)) v13 (v14 ++ [r4_0])
          else none
      else
        some (v1, v5, v13, v14)
    else
      some (v1, v5, v13, v14)
theorem gl_impl_readValue_l0 (G_impl_readValue : (List UInt8) → Int → Int → Option (GValue × Int)) (H_impl_readValue : ∀ (a0 : (List UInt8)) (a1 : Int) (a2 : Int) (r : (GValue × Int)), G_impl_readValue a0 a1 a2 = some r → (mach cfg).call 37 [] [.val false [.seq (eL e_u8 a0)], .val false [.int .i64 a1], .val false [.int .i64 a2]] = some (.tup [(true, [.int .i64 r.1.Kind, .int .i64 r.1.N, .own 1 (eL e_u8 r.1.S), .own 1 (eL (o_sl 1 e_u8) r.1.K), .own 5 (eL o_GValue r.1.L)]), (false, [.int .i64 r.2])], [])) (a0 : (List UInt8)) (a2 : Int) (v3 : Int) (v4 : Int) (v6 : Int) (v7 : Int) (v8 : Int) (v9 : (List UInt8)) (v10 : (List (List UInt8))) (v11 : (List GValue)) (v12 : (List UInt8)) (m : Nat) : ∀ (v1 : Int) (v5 : Int) (v13 : (List (List UInt8))) (v14 : (List GValue)) (o : (Int × Int × (List (List UInt8)) × (List GValue))), L_impl_readValue_l0 G_impl_readValue a0 a2 v3 v4 v6 v7 v8 v9 v10 v11 v12 m v1 v5 v13 v14 = some o → (mach cfg).loop 37 (loopB Tryz.f37 0) ⟨[(0, .val false [.seq (eL e_u8 a0)]), (1, .val false [.int .i64 v1]), (2, .val false [.int .i64 a2]), (6, .val false [.ptr 0 0]), (8, .val false [.int .i64 v3]), (9, .val false [.ptr 1 0]), (16, .val false [.int .i64 v4]), (18, .val false [.int .i64 v5])], [.var [.int .i64 v6, .int .i64 v7, .ref 2, .ref 3, .ref 4], .var [.int .i64 v3, .int .i64 v8, .ref 5, .ref 6, .ref 7], .obj 1 (eL e_u8 v9), .obj 1 (eL (o_sl 1 e_u8) v10), .obj 5 (eL o_GValue v11), .obj 1 (eL e_u8 v12), .obj 1 (eL (o_sl 1 e_u8) v13), .obj 5 (eL o_GValue v14)], 0⟩ = some (match o with | ⟨o_0, o_1, o_2, o_3⟩ => (.exit 1, (⟨[(0, .val false [.seq (eL e_u8 a0)]), (1, .val false [.int .i64 o_0]), (2, .val false [.int .i64 a2]), (6, .val false [.ptr 0 0]), (8, .val false [.int .i64 v3]), (9, .val false [.ptr 1 0]), (16, .val false [.int .i64 v4]), (18, .val false [.int .i64 o_1]), (109, .val false [.bool false])], [.var [.int .i64 v6, .int .i64 v7, .ref 2, .ref 3, .ref 4], .var [.int .i64 v3, .int .i64 v8, .ref 5, .ref 6, .ref 7], .obj 1 (eL e_u8 v9), .obj 1 (eL (o_sl 1 e_u8) v10), .obj 5 (eL o_GValue v11), .obj 1 (eL e_u8 v12), .obj 1 (eL (o_sl 1 e_u8) o_2), .obj 5 (eL o_GValue o_3)], 0⟩ : S))) := by
  induction m with
  | zero => intro v1 v5 v13 v14 o h; cases h
  | succ m ih =>
    intro v1 v5 v13 v14 o h
    rw [L_impl_readValue_l0] at h
    rcases ite_some h with ⟨c1, h⟩ | ⟨c1, h⟩
    ·rcases ite_some h with ⟨c2, h⟩ | ⟨c2, h⟩
     ·rcases ite_some h with ⟨c3, h⟩ | ⟨c3, h⟩
      ·obtain ⟨⟨r4_0, r4_1⟩, hr4, h⟩ := bs h
       try dsimp only at h
       obtain ⟨n5, h⟩ := need_some h
       obtain ⟨⟨r6_0, r6_1⟩, hr6, h⟩ := bs h
       try dsimp only at h
       obtain ⟨n7, h⟩ := need_some h
       exact loop_nQ [.lT c1, .gT c2, .eT c3, .cl (ok_impl_getText a0 v1 _ hr4), ⟨.room 24 (eL (o_sl 1 e_u8) v13) (eL (o_sl 1 e_u8) [r4_0]), .b true, (A.room n5)⟩, ⟨.uni 1 (eL (o_sl 1 e_u8) [r4_0]), .b true, (A.uniO (O_sl 1 O_u8))⟩, ⟨.app (eL (o_sl 1 e_u8) v13) (eL (o_sl 1 e_u8) [r4_0]), .l (eL (o_sl 1 e_u8) (v13 ++ [r4_0])), A.app⟩, .ad a2 1, .cl (H_impl_readValue a0 r4_1 (w64 (a2 + 1)) _ hr6), ⟨.room 88 (eL o_GValue v14) ([[.int .i64 r6_0.Kind, .int .i64 r6_0.N, .own 1 (eL e_u8 r6_0.S), .own 1 (eL (o_sl 1 e_u8) r6_0.K), .own 5 (eL o_GValue r6_0.L)]] : List (List C)), .b true, by rw [(show ([[.int .i64 r6_0.Kind, .int .i64 r6_0.N, .own 1 (eL e_u8 r6_0.S), .own 1 (eL (o_sl 1 e_u8) r6_0.K), .own 5 (eL o_GValue r6_0.L)]] : List (List C)) = eL o_GValue [r6_0] from (raw_cons (oeq_GValue r6_0) raw_nil))]; exact (A.room n7)⟩, ⟨.uni 5 ([[.int .i64 r6_0.Kind, .int .i64 r6_0.N, .own 1 (eL e_u8 r6_0.S), .own 1 (eL (o_sl 1 e_u8) r6_0.K), .own 5 (eL o_GValue r6_0.L)]] : List (List C)), .b true, by rw [(show ([[.int .i64 r6_0.Kind, .int .i64 r6_0.N, .own 1 (eL e_u8 r6_0.S), .own 1 (eL (o_sl 1 e_u8) r6_0.K), .own 5 (eL o_GValue r6_0.L)]] : List (List C)) = eL o_GValue [r6_0] from (raw_cons (oeq_GValue r6_0) raw_nil))]; exact (A.uniO O_GValue)⟩, ⟨.app (eL o_GValue v14) ([[.int .i64 r6_0.Kind, .int .i64 r6_0.N, .own 1 (eL e_u8 r6_0.S), .own 1 (eL (o_sl 1 e_u8) r6_0.K), .own 5 (eL o_GValue r6_0.L)]] : List (List C)), .l (eL o_GValue (v14 ++ [r6_0])), by rw [(show ([[.int .i64 r6_0.Kind, .int .i64 r6_0.N, .own 1 (eL e_u8 r6_0.S), .own 1 (eL (o_sl 1 e_u8) r6_0.K), .own 5 (eL o_GValue r6_0.L)]] : List (List C)) = eL o_GValue [r6_0] from (raw_cons (oeq_GValue r6_0) raw_nil))]; exact A.app⟩, .ad v5 1] (by kernel_rfl) (ih r6_1 (w64 (v5 + 1)) (v13 ++ [r4_0]) (v14 ++ [r6_0]) o h)
      ·obtain ⟨⟨r4_0, r4_1⟩, hr4, h⟩ := bs h
       try dsimp only at h
       obtain ⟨n5, h⟩ := need_some h
       exact loop_nQ [.lT c1, .gT c2, .eF c3, .ad a2 1, .cl (H_impl_readValue a0 v1 (w64 (a2 + 1)) _ hr4), ⟨.room 88 (eL o_GValue v14) ([[.int .i64 r4_0.Kind, .int .i64 r4_0.N, .own 1 (eL e_u8 r4_0.S), .own 1 (eL (o_sl 1 e_u8) r4_0.K), .own 5 (eL o_GValue r4_0.L)]] : List (List C)), .b true, by rw [(show ([[.int .i64 r4_0.Kind, .int .i64 r4_0.N, .own 1 (eL e_u8 r4_0.S), .own 1 (eL (o_sl 1 e_u8) r4_0.K), .own 5 (eL o_GValue r4_0.L)]] : List (List C)) = eL o_GValue [r4_0] from (raw_cons (oeq_GValue r4_0) raw_nil))]; exact (A.room n5)⟩, ⟨.uni 5 ([[.int .i64 r4_0.Kind, .int .i64 r4_0.N, .own 1 (eL e_u8 r4_0.S), .own 1 (eL (o_sl 1 e_u8) r4_0.K), .own 5 (eL o_GValue r4_0.L)]] : List (List C)), .b true, by rw [(show ([[.int .i64 r4_0.Kind, .int .i64 r4_0.N, .own 1 (eL e_u8 r4_0.S), .own 1 (eL (o_sl 1 e_u8) r4_0.K), .own 5 (eL o_GValue r4_0.L)]] : List (List C)) = eL o_GValue [r4_0] from (raw_cons (oeq_GValue r4_0) raw_nil))]; exact (A.uniO O_GValue)⟩, ⟨.app (eL o_GValue v14) ([[.int .i64 r4_0.Kind, .int .i64 r4_0.N, .own 1 (eL e_u8 r4_0.S), .own 1 (eL (o_sl 1 e_u8) r4_0.K), .own 5 (eL o_GValue r4_0.L)]] : List (List C)), .l (eL o_GValue (v14 ++ [r4_0])), by rw [(show ([[.int .i64 r4_0.Kind, .int .i64 r4_0.N, .own 1 (eL e_u8 r4_0.S), .own 1 (eL (o_sl 1 e_u8) r4_0.K), .own 5 (eL o_GValue r4_0.L)]] : List (List C)) = eL o_GValue [r4_0] from (raw_cons (oeq_GValue r4_0) raw_nil))]; exact A.app⟩, .ad v5 1] (by kernel_rfl) (ih r4_1 (w64 (v5 + 1)) v13 (v14 ++ [r4_0]) o h)
     ·obtain rfl := Option.some.inj h
      exact loop_eQ [.lT c1, .gF c2] (by kernel_rfl) (by intro h; cases h)
    ·obtain rfl := Option.some.inj h
     exact loop_eQ [.lF c1] (by kernel_rfl) (by intro h; cases h)
def T_impl_readValue (G_impl_readValue : (List UInt8) → Int → Int → Option (GValue × Int)) (n : Nat) (a0 : (List UInt8)) (a1 : Int) (a2 : Int) : Option (GValue × Int) :=
  (S_impl_getNum a0 a1).bind fun ⟨r1_0, r1_1⟩ =>
  if r1_1 < 0 then
    some ((GValue.mk 0 0 [] [] []), (-1))
  else
    if 6 < r1_0 then
      some ((GValue.mk 0 0 [] [] []), (-1))
    else
      if 5 < a2 then
        some ((GValue.mk 0 0 [] [] []), (-1))
      else
        if r1_0 = 1 then
          (S_impl_getNum a0 r1_1).bind fun ⟨r6_0, r6_1⟩ =>
          if r6_1 < 0 then
            some ((GValue.mk 0 0 [] [] []), (-1))
          else
            some ((GValue.mk r1_0 r6_0 [] [] []), r6_1)
        else
          if r1_0 = 2 then
            (S_impl_getNum a0 r1_1).bind fun ⟨r7_0, r7_1⟩ =>
            (S_impl_getNum a0 r7_1).bind fun ⟨r8_0, r8_1⟩ =>
            (S_impl_getNum a0 r8_1).bind fun ⟨r9_0, r9_1⟩ =>
            if r7_0 = 1 then
              if r9_1 < 0 then
                some ((GValue.mk 0 0 [] [] []), (-1))
              else
                some ((GValue.mk r1_0 (w64 (0 - (w64 ((w64 (r8_0 * 1000000)) + r9_0)))) [] [] []), r9_1)
            else
              if r9_1 < 0 then
                some ((GValue.mk 0 0 [] [] []), (-1))
              else
                some ((GValue.mk r1_0 (w64 ((w64 (r8_0 * 1000000)) + r9_0)) [] [] []), r9_1)
          else
            if r1_0 = 3 then
              (S_impl_getText a0 r1_1).bind fun ⟨r8_0, r8_1⟩ =>
              if r8_1 < 0 then
                some ((GValue.mk 0 0 [] [] []), (-1))
              else
                some ((GValue.mk r1_0 0 r8_0 [] []), r8_1)
            else
              if r1_0 = 4 then
                (S_impl_getNum a0 r1_1).bind fun ⟨r9_0, r9_1⟩ =>
                (L_impl_readValue_l0 G_impl_readValue a0 a2 r1_0 r9_0 0 0 0 [] [] [] [] n r9_1 0 [] []).bind fun ⟨o10_0, o10_1, o10_2, o10_3⟩ =>
                if o10_0 < 0 then
                  some ((GValue.mk 0 0 [] [] []), (-1))
                else
                  some ((GValue.mk r1_0 0 [] o10_2 o10_3), o10_0)
              else
                if r1_0 = 5 then
                  (S_impl_getNum a0 r1_1).bind fun ⟨r10_0, r10_1⟩ =>
                  (L_impl_readValue_l0 G_impl_readValue a0 a2 r1_0 r10_0 0 0 0 [] [] [] [] n r10_1 0 [] []).bind fun ⟨o11_0, o11_1, o11_2, o11_3⟩ =>
                  if o11_0 < 0 then
                    some ((GValue.mk 0 0 [] [] []), (-1))
                  else
                    some ((GValue.mk r1_0 0 [] o11_2 o11_3), o11_0)
                else
                  some ((GValue.mk r1_0 0 [] [] []), r1_1)
set_option maxRecDepth 100000 in
theorem fd_37 : cfg.funcs 37 = some (bodyOf Tryz.f37, Tryz.f37.ntmps, Tryz.f37.results.toList) := fn_of Tryz.func37 (by kernel_rfl) (by kernel_rfl)
theorem g_impl_readValue (G_impl_readValue : (List UInt8) → Int → Int → Option (GValue × Int)) (H_impl_readValue : ∀ (a0 : (List UInt8)) (a1 : Int) (a2 : Int) (r : (GValue × Int)), G_impl_readValue a0 a1 a2 = some r → (mach cfg).call 37 [] [.val false [.seq (eL e_u8 a0)], .val false [.int .i64 a1], .val false [.int .i64 a2]] = some (.tup [(true, [.int .i64 r.1.Kind, .int .i64 r.1.N, .own 1 (eL e_u8 r.1.S), .own 1 (eL (o_sl 1 e_u8) r.1.K), .own 5 (eL o_GValue r.1.L)]), (false, [.int .i64 r.2])], [])) (n : Nat) (a0 : (List UInt8)) (a1 : Int) (a2 : Int) (r : (GValue × Int)) (h : T_impl_readValue G_impl_readValue n a0 a1 a2 = some r) : (mach cfg).call 37 [] [.val false [.seq (eL e_u8 a0)], .val false [.int .i64 a1], .val false [.int .i64 a2]] = some (.tup [(true, [.int .i64 r.1.Kind, .int .i64 r.1.N, .own 1 (eL e_u8 r.1.S), .own 1 (eL (o_sl 1 e_u8) r.1.K), .own 5 (eL o_GValue r.1.L)]), (false, [.int .i64 r.2])], []) := by
  unfold T_impl_readValue at h
  obtain ⟨⟨r1_0, r1_1⟩, hr1, h⟩ := bs h
  try dsimp only at h
  let p71 : List (Q cfg) := [.cl (ok_impl_getNum a0 a1 _ hr1)]
  rcases ite_some h with ⟨c2, h⟩ | ⟨c2, h⟩
  ·obtain rfl := Option.some.inj h
   exact call_wQ (p71 ++ [.lT c2]) rfl fd_37 (by kernel_rfl)
  ·let p72 : List (Q cfg) := p71 ++ [.lF c2]
   rcases ite_some h with ⟨c3, h⟩ | ⟨c3, h⟩
   ·obtain rfl := Option.some.inj h
    exact call_wQ (p72 ++ [.lT c3]) rfl fd_37 (by kernel_rfl)
   ·let p73 : List (Q cfg) := p72 ++ [.lF c3]
    rcases ite_some h with ⟨c4, h⟩ | ⟨c4, h⟩
    ·obtain rfl := Option.some.inj h
     exact call_wQ (p73 ++ [.lT c4]) rfl fd_37 (by kernel_rfl)
    ·let p74 : List (Q cfg) := p73 ++ [.lF c4]
     rcases ite_some h with ⟨c5, h⟩ | ⟨c5, h⟩
     ·obtain ⟨⟨r6_0, r6_1⟩, hr6, h⟩ := bs h
      try dsimp only at h
      rcases ite_some h with ⟨c7, h⟩ | ⟨c7, h⟩
      ·obtain rfl := Option.some.inj h
       exact call_wQ (p74 ++ [.eT c5, .cl (ok_impl_getNum a0 r1_1 _ hr6), .lT c7]) rfl fd_37 (by kernel_rfl)
      ·obtain rfl := Option.some.inj h
       exact call_wQ (p74 ++ [.eT c5, .cl (ok_impl_getNum a0 r1_1 _ hr6), .lF c7]) rfl fd_37 (by kernel_rfl)
     ·let p75 : List (Q cfg) := p74 ++ [.eF c5]
      rcases ite_some h with ⟨c6, h⟩ | ⟨c6, h⟩
      ·obtain ⟨⟨r7_0, r7_1⟩, hr7, h⟩ := bs h
       try dsimp only at h
       obtain ⟨⟨r8_0, r8_1⟩, hr8, h⟩ := bs h
       try dsimp only at h
       obtain ⟨⟨r9_0, r9_1⟩, hr9, h⟩ := bs h
       try dsimp only at h
       let p76 : List (Q cfg) := p75 ++ [.eT c6, .cl (ok_impl_getNum a0 r1_1 _ hr7), .cl (ok_impl_getNum a0 r7_1 _ hr8), .cl (ok_impl_getNum a0 r8_1 _ hr9), ⟨.mul .i64 r8_0 1000000, .i (w64 (r8_0 * 1000000)), rfl⟩, .ad (w64 (r8_0 * 1000000)) r9_0]
       rcases ite_some h with ⟨c10, h⟩ | ⟨c10, h⟩
       ·rcases ite_some h with ⟨c11, h⟩ | ⟨c11, h⟩
        ·obtain rfl := Option.some.inj h
         exact call_wQ (p76 ++ [.eT c10, ⟨.neg .i64 (w64 ((w64 (r8_0 * 1000000)) + r9_0)), .i (w64 (0 - (w64 ((w64 (r8_0 * 1000000)) + r9_0)))), rfl⟩, .lT c11]) rfl fd_37 (by kernel_rfl)
        ·obtain rfl := Option.some.inj h
         exact call_wQ (p76 ++ [.eT c10, ⟨.neg .i64 (w64 ((w64 (r8_0 * 1000000)) + r9_0)), .i (w64 (0 - (w64 ((w64 (r8_0 * 1000000)) + r9_0)))), rfl⟩, .lF c11]) rfl fd_37 (by kernel_rfl)
       ·rcases ite_some h with ⟨c11, h⟩ | ⟨c11, h⟩
        ·obtain rfl := Option.some.inj h
         exact call_wQ (p76 ++ [.eF c10, .lT c11]) rfl fd_37 (by kernel_rfl)
        ·obtain rfl := Option.some.inj h
         exact call_wQ (p76 ++ [.eF c10, .lF c11]) rfl fd_37 (by kernel_rfl)
      ·rcases ite_some h with ⟨c7, h⟩ | ⟨c7, h⟩
       ·obtain ⟨⟨r8_0, r8_1⟩, hr8, h⟩ := bs h
        try dsimp only at h
        rcases ite_some h with ⟨c9, h⟩ | ⟨c9, h⟩
        ·obtain rfl := Option.some.inj h
         exact call_wQ (p75 ++ [.eF c6, .eT c7, .cl (ok_impl_getText a0 r1_1 _ hr8), .lT c9]) rfl fd_37 (by kernel_rfl)
        ·obtain rfl := Option.some.inj h
         exact call_wQ (p75 ++ [.eF c6, .eT c7, .cl (ok_impl_getText a0 r1_1 _ hr8), .lF c9]) rfl fd_37 (by kernel_rfl)
       ·rcases ite_some h with ⟨c8, h⟩ | ⟨c8, h⟩
        ·obtain ⟨⟨r9_0, r9_1⟩, hr9, h⟩ := bs h
         try dsimp only at h
         obtain ⟨⟨o10_0, o10_1, o10_2, o10_3⟩, ho10, h⟩ := bs h
         try dsimp only at h
         rcases ite_some h with ⟨c11, h⟩ | ⟨c11, h⟩
         ·obtain rfl := Option.some.inj h
          exact call_wQ (p75 ++ [.eF c6, .eF c7, .eT c8, .cl (ok_impl_getNum a0 r1_1 _ hr9), .lp (gl_impl_readValue_l0 G_impl_readValue H_impl_readValue a0 a2 r1_0 r9_0 0 0 0 [] [] [] [] _ r9_1 0 [] [] _ ho10), .lT c11]) rfl fd_37 (by kernel_rfl)
         ·obtain rfl := Option.some.inj h
          exact call_wQ (p75 ++ [.eF c6, .eF c7, .eT c8, .cl (ok_impl_getNum a0 r1_1 _ hr9), .lp (gl_impl_readValue_l0 G_impl_readValue H_impl_readValue a0 a2 r1_0 r9_0 0 0 0 [] [] [] [] _ r9_1 0 [] [] _ ho10), .lF c11]) rfl fd_37 (by kernel_rfl)
        ·rcases ite_some h with ⟨c9, h⟩ | ⟨c9, h⟩
         ·obtain ⟨⟨r10_0, r10_1⟩, hr10, h⟩ := bs h
          try dsimp only at h
          obtain ⟨⟨o11_0, o11_1, o11_2, o11_3⟩, ho11, h⟩ := bs h
          try dsimp only at h
          let p77 : List (Q cfg) := p75 ++ [.eF c6, .eF c7, .eF c8, .eT c9, .cl (ok_impl_getNum a0 r1_1 _ hr10)]
          rcases ite_some h with ⟨c12, h⟩ | ⟨c12, h⟩
          ·obtain rfl := Option.some.inj h
           exact call_wQ (p77 ++ [.lp (gl_impl_readValue_l0 G_impl_readValue H_impl_readValue a0 a2 r1_0 r10_0 0 0 0 [] [] [] [] _ r10_1 0 [] [] _ ho11), .lT c12]) rfl fd_37 (by kernel_rfl)
          ·obtain rfl := Option.some.inj h
           exact call_wQ (p77 ++ [.lp (gl_impl_readValue_l0 G_impl_readValue H_impl_readValue a0 a2 r1_0 r10_0 0 0 0 [] [] [] [] _ r10_1 0 [] [] _ ho11), .lF c12]) rfl fd_37 (by kernel_rfl)
         ·obtain rfl := Option.some.inj h
          exact call_wQ (p75 ++ [.eF c6, .eF c7, .eF c8, .eF c9, .lF c2]) rfl fd_37 (by kernel_rfl)
def U_impl_readValue : Nat → (List UInt8) → Int → Int → Option (GValue × Int)
  | 0, _, _, _ => none
  | n + 1, a0, a1, a2 => T_impl_readValue (U_impl_readValue n) n a0 a1 a2
theorem rec_impl_readValue (n : Nat) : (∀ (a0 : (List UInt8)) (a1 : Int) (a2 : Int) (r : (GValue × Int)), U_impl_readValue n a0 a1 a2 = some r → (mach cfg).call 37 [] [.val false [.seq (eL e_u8 a0)], .val false [.int .i64 a1], .val false [.int .i64 a2]] = some (.tup [(true, [.int .i64 r.1.Kind, .int .i64 r.1.N, .own 1 (eL e_u8 r.1.S), .own 1 (eL (o_sl 1 e_u8) r.1.K), .own 5 (eL o_GValue r.1.L)]), (false, [.int .i64 r.2])], [])) := by
  induction n with
  | zero => exact fun _ _ _ _ h => (by rw [U_impl_readValue] at h; cases h)
  | succ n ih =>
    have ih_impl_readValue := ih
    exact fun a0 a1 a2 r h => g_impl_readValue (U_impl_readValue n) ih_impl_readValue n a0 a1 a2 r (by rw [U_impl_readValue] at h; exact h)
def S_impl_readValue (a0 : (List UInt8)) (a1 : Int) (a2 : Int) : Option (GValue × Int) := U_impl_readValue 1048700 a0 a1 a2
theorem spec_impl_readValue (a0 : (List UInt8)) (a1 : Int) (a2 : Int) (r : (GValue × Int)) (h : S_impl_readValue a0 a1 a2 = some r) : ∃ n, U_impl_readValue n a0 a1 a2 = some r := ⟨_, h⟩
theorem ok_impl_readValue (a0 : (List UInt8)) (a1 : Int) (a2 : Int) (r : (GValue × Int)) (h : S_impl_readValue a0 a1 a2 = some r) : (mach cfg).call 37 [] [.val false [.seq (eL e_u8 a0)], .val false [.int .i64 a1], .val false [.int .i64 a2]] = some (.tup [(true, [.int .i64 r.1.Kind, .int .i64 r.1.N, .own 1 (eL e_u8 r.1.S), .own 1 (eL (o_sl 1 e_u8) r.1.K), .own 5 (eL o_GValue r.1.L)]), (false, [.int .i64 r.2])], []) := by
  obtain ⟨n, hn⟩ := spec_impl_readValue a0 a1 a2 r h
  exact (rec_impl_readValue n) a0 a1 a2 r hn
def L_impl_eventRead_l0 (a0 : (List UInt8)) (v2 : Int) (v4 : Int) (v5 : Int) (v6 : Int) (v7 : Int) (v8 : Int) (v9 : Int) (v10 : Int) (v11 : Int) (v12 : (List UInt8)) (v13 : (List UInt8)) (v14 : (List (List UInt8))) (v15 : (List GValue)) (v16 : (List (List UInt8))) (v17 : (List UInt8)) (v18 : (List UInt8)) (v19 : (List (List UInt8))) (v20 : (List GValue)) : Nat → Int → Int → (List (List UInt8)) → Option (Int × Int × (List (List UInt8)))
  | 0, _, _, _ => none
  | m + 1, v1, v3, v21 =>
    if v3 < v2 then
      if 0 <= v1 then
        (S_impl_getText a0 v1).bind fun ⟨r3_0, r3_1⟩ =>
        if roomP 24 (v21.length + [r3_0].length) then
        L_impl_eventRead_l0 a0 v2 v4 v5 v6 v7 v8 v9 v10 v11 v12 v13 v14 v15 v16 v17 v18 v19 v20 m r3_1 (w64 (v3 + 1)) (v21 ++ [r3_0])
        else none
      else
        some (v1, v3, v21)
    else
      some (v1, v3, v21)
theorem gl_impl_eventRead_l0 (a0 : (List UInt8)) (v2 : Int) (v4 : Int) (v5 : Int) (v6 : Int) (v7 : Int) (v8 : Int) (v9 : Int) (v10 : Int) (v11 : Int) (v12 : (List UInt8)) (v13 : (List UInt8)) (v14 : (List (List UInt8))) (v15 : (List GValue)) (v16 : (List (List UInt8))) (v17 : (List UInt8)) (v18 : (List UInt8)) (v19 : (List (List UInt8))) (v20 : (List GValue)) (m : Nat) : ∀ (v1 : Int) (v3 : Int) (v21 : (List (List UInt8))) (o : (Int × Int × (List (List UInt8)))), L_impl_eventRead_l0 a0 v2 v4 v5 v6 v7 v8 v9 v10 v11 v12 v13 v14 v15 v16 v17 v18 v19 v20 m v1 v3 v21 = some o → (mach cfg).loop 17 (loopB Tryz.f17 0) ⟨[(0, .val false [.seq (eL e_u8 a0)]), (2, .val false [.ptr 0 0]), (5, .val false [.int .i64 v1]), (6, .val false [.ptr 1 0]), (7, .val false [.int .i64 v2]), (9, .val false [.int .i64 v3])], [.var [.int .i64 v4, .ref 2, .int .i64 v5, .int .i64 v6, .int .i64 v7, .ref 3, .ref 4, .ref 5, .ref 6], .var [.int .i64 v8, .ref 7, .int .i64 v9, .int .i64 v10, .int .i64 v11, .ref 8, .ref 9, .ref 10, .ref 11], .obj 1 (eL e_u8 v12), .obj 1 (eL e_u8 v13), .obj 1 (eL (o_sl 1 e_u8) v14), .obj 5 (eL o_GValue v15), .obj 1 (eL (o_sl 1 e_u8) v16), .obj 1 (eL e_u8 v17), .obj 1 (eL e_u8 v18), .obj 1 (eL (o_sl 1 e_u8) v19), .obj 5 (eL o_GValue v20), .obj 1 (eL (o_sl 1 e_u8) v21)], 0⟩ = some (match o with | ⟨o_0, o_1, o_2⟩ => (.exit 1, (⟨[(0, .val false [.seq (eL e_u8 a0)]), (2, .val false [.ptr 0 0]), (5, .val false [.int .i64 o_0]), (6, .val false [.ptr 1 0]), (7, .val false [.int .i64 v2]), (9, .val false [.int .i64 o_1]), (65, .val false [.bool false])], [.var [.int .i64 v4, .ref 2, .int .i64 v5, .int .i64 v6, .int .i64 v7, .ref 3, .ref 4, .ref 5, .ref 6], .var [.int .i64 v8, .ref 7, .int .i64 v9, .int .i64 v10, .int .i64 v11, .ref 8, .ref 9, .ref 10, .ref 11], .obj 1 (eL e_u8 v12), .obj 1 (eL e_u8 v13), .obj 1 (eL (o_sl 1 e_u8) v14), .obj 5 (eL o_GValue v15), .obj 1 (eL (o_sl 1 e_u8) v16), .obj 1 (eL e_u8 v17), .obj 1 (eL e_u8 v18), .obj 1 (eL (o_sl 1 e_u8) v19), .obj 5 (eL o_GValue v20), .obj 1 (eL (o_sl 1 e_u8) o_2)], 0⟩ : S))) := by
  induction m with
  | zero => intro v1 v3 v21 o h; cases h
  | succ m ih =>
    intro v1 v3 v21 o h
    rw [L_impl_eventRead_l0] at h
    rcases ite_some h with ⟨c1, h⟩ | ⟨c1, h⟩
    ·rcases ite_some h with ⟨c2, h⟩ | ⟨c2, h⟩
     ·obtain ⟨⟨r3_0, r3_1⟩, hr3, h⟩ := bs h
      try dsimp only at h
      obtain ⟨n4, h⟩ := need_some h
      exact loop_nQ [.lT c1, .gT c2, .cl (ok_impl_getText a0 v1 _ hr3), ⟨.room 24 (eL (o_sl 1 e_u8) v21) (eL (o_sl 1 e_u8) [r3_0]), .b true, (A.room n4)⟩, ⟨.uni 1 (eL (o_sl 1 e_u8) [r3_0]), .b true, (A.uniO (O_sl 1 O_u8))⟩, ⟨.app (eL (o_sl 1 e_u8) v21) (eL (o_sl 1 e_u8) [r3_0]), .l (eL (o_sl 1 e_u8) (v21 ++ [r3_0])), A.app⟩, .ad v3 1] (by kernel_rfl) (ih r3_1 (w64 (v3 + 1)) (v21 ++ [r3_0]) o h)
     ·obtain rfl := Option.some.inj h
      exact loop_eQ [.lT c1, .gF c2] (by kernel_rfl) (by intro h; cases h)
    ·obtain rfl := Option.some.inj h
     exact loop_eQ [.lF c1] (by kernel_rfl) (by intro h; cases h)
def T_impl_eventRead (n : Nat) (a0 : (List UInt8)) : Option (GEvent × Bool) :=
  (S_impl_getNum a0 0).bind fun ⟨r1_0, r1_1⟩ =>
  if r1_0 = 1 then
    (S_impl_getText a0 r1_1).bind fun ⟨r3_0, r3_1⟩ =>
    (S_impl_getNum a0 r3_1).bind fun ⟨r4_0, r4_1⟩ =>
    if r4_1 = ((a0.length : Nat) : Int) then
      (S_impl_isEvent (GEvent.mk r1_0 r3_0 r4_0 (GValue.mk 0 0 [] [] []) [])).bind fun r6 =>
      match r6 with
      | true =>
        (S_impl_eventBytes (GEvent.mk r1_0 r3_0 r4_0 (GValue.mk 0 0 [] [] []) [])).bind fun r8 =>
        (S_bytes_Equal r8 a0).bind fun r9 =>
        match r9 with
        | true =>
          some ((GEvent.mk r1_0 r3_0 r4_0 (GValue.mk 0 0 [] [] []) []), true)
        | false =>
          some ((GEvent.mk 0 [] 0 (GValue.mk 0 0 [] [] []) []), false)
      | false =>
        some ((GEvent.mk 0 [] 0 (GValue.mk 0 0 [] [] []) []), false)
    else
      some ((GEvent.mk 0 [] 0 (GValue.mk 0 0 [] [] []) []), false)
  else
    if r1_0 = 2 then
      (S_impl_getText a0 r1_1).bind fun ⟨r4_0, r4_1⟩ =>
      (S_impl_getNum a0 r4_1).bind fun ⟨r5_0, r5_1⟩ =>
      (L_impl_eventRead_l0 a0 r5_0 0 0 0 0 r1_0 0 0 0 [] [] [] [] [] r4_0 [] [] [] n r5_1 0 []).bind fun ⟨o6_0, o6_1, o6_2⟩ =>
      (S_impl_readValue a0 o6_0 1).bind fun ⟨r7_0, r7_1⟩ =>
      if r7_1 = ((a0.length : Nat) : Int) then
        (S_impl_isEvent (GEvent.mk r1_0 r4_0 0 r7_0 o6_2)).bind fun r9 =>
        match r9 with
        | true =>
          (S_impl_eventBytes (GEvent.mk r1_0 r4_0 0 r7_0 o6_2)).bind fun r11 =>
          (S_bytes_Equal r11 a0).bind fun r12 =>
          match r12 with
          | true =>
            some ((GEvent.mk r1_0 r4_0 0 r7_0 o6_2), true)
          | false =>
            some ((GEvent.mk 0 [] 0 (GValue.mk 0 0 [] [] []) []), false)
        | false =>
          some ((GEvent.mk 0 [] 0 (GValue.mk 0 0 [] [] []) []), false)
      else
        some ((GEvent.mk 0 [] 0 (GValue.mk 0 0 [] [] []) []), false)
    else
      if r1_0 = 3 then
        (S_impl_getText a0 r1_1).bind fun ⟨r5_0, r5_1⟩ =>
        if r5_1 = ((a0.length : Nat) : Int) then
          (S_impl_isEvent (GEvent.mk r1_0 r5_0 0 (GValue.mk 0 0 [] [] []) [])).bind fun r7 =>
          match r7 with
          | true =>
            (S_impl_eventBytes (GEvent.mk r1_0 r5_0 0 (GValue.mk 0 0 [] [] []) [])).bind fun r9 =>
            (S_bytes_Equal r9 a0).bind fun r10 =>
            match r10 with
            | true =>
              some ((GEvent.mk r1_0 r5_0 0 (GValue.mk 0 0 [] [] []) []), true)
            | false =>
              some ((GEvent.mk 0 [] 0 (GValue.mk 0 0 [] [] []) []), false)
          | false =>
            some ((GEvent.mk 0 [] 0 (GValue.mk 0 0 [] [] []) []), false)
        else
          some ((GEvent.mk 0 [] 0 (GValue.mk 0 0 [] [] []) []), false)
      else
        if r1_0 = 4 then
          (S_impl_getText a0 r1_1).bind fun ⟨r6_0, r6_1⟩ =>
          if r6_1 = ((a0.length : Nat) : Int) then
            (S_impl_isEvent (GEvent.mk r1_0 r6_0 0 (GValue.mk 0 0 [] [] []) [])).bind fun r8 =>
            match r8 with
            | true =>
              (S_impl_eventBytes (GEvent.mk r1_0 r6_0 0 (GValue.mk 0 0 [] [] []) [])).bind fun r10 =>
              (S_bytes_Equal r10 a0).bind fun r11 =>
              match r11 with
              | true =>
                some ((GEvent.mk r1_0 r6_0 0 (GValue.mk 0 0 [] [] []) []), true)
              | false =>
                some ((GEvent.mk 0 [] 0 (GValue.mk 0 0 [] [] []) []), false)
            | false =>
              some ((GEvent.mk 0 [] 0 (GValue.mk 0 0 [] [] []) []), false)
          else
            some ((GEvent.mk 0 [] 0 (GValue.mk 0 0 [] [] []) []), false)
        else
          if r1_1 = ((a0.length : Nat) : Int) then
            (S_impl_isEvent (GEvent.mk r1_0 [] 0 (GValue.mk 0 0 [] [] []) [])).bind fun r7 =>
            match r7 with
            | true =>
              (S_impl_eventBytes (GEvent.mk r1_0 [] 0 (GValue.mk 0 0 [] [] []) [])).bind fun r9 =>
              (S_bytes_Equal r9 a0).bind fun r10 =>
              match r10 with
              | true =>
                some ((GEvent.mk r1_0 [] 0 (GValue.mk 0 0 [] [] []) []), true)
              | false =>
                some ((GEvent.mk 0 [] 0 (GValue.mk 0 0 [] [] []) []), false)
            | false =>
              some ((GEvent.mk 0 [] 0 (GValue.mk 0 0 [] [] []) []), false)
          else
            some ((GEvent.mk 0 [] 0 (GValue.mk 0 0 [] [] []) []), false)
set_option maxRecDepth 100000 in
theorem fd_17 : cfg.funcs 17 = some (bodyOf Tryz.f17, Tryz.f17.ntmps, Tryz.f17.results.toList) := fn_of Tryz.func17 (by kernel_rfl) (by kernel_rfl)
theorem g_impl_eventRead (n : Nat) (a0 : (List UInt8)) (r : (GEvent × Bool)) (h : T_impl_eventRead n a0 = some r) : (mach cfg).call 17 [] [.val false [.seq (eL e_u8 a0)]] = some (.tup [(true, [.int .i64 r.1.Kind, .own 1 (eL e_u8 r.1.Addr), .int .i64 r.1.Act, .int .i64 r.1.Val.Kind, .int .i64 r.1.Val.N, .own 1 (eL e_u8 r.1.Val.S), .own 1 (eL (o_sl 1 e_u8) r.1.Val.K), .own 5 (eL o_GValue r.1.Val.L), .own 1 (eL (o_sl 1 e_u8) r.1.Deps)]), (false, [.bool r.2])], []) := by
  unfold T_impl_eventRead at h
  obtain ⟨⟨r1_0, r1_1⟩, hr1, h⟩ := bs h
  try dsimp only at h
  rcases ite_some h with ⟨c2, h⟩ | ⟨c2, h⟩
  ·obtain ⟨⟨r3_0, r3_1⟩, hr3, h⟩ := bs h
   try dsimp only at h
   obtain ⟨⟨r4_0, r4_1⟩, hr4, h⟩ := bs h
   try dsimp only at h
   rcases ite_some h with ⟨c5, h⟩ | ⟨c5, h⟩
   ·obtain ⟨r6, hr6, h⟩ := bs h
    let p78 : List (Q cfg) := [.cl (ok_impl_getNum a0 0 _ hr1), .eT c2, .cl (ok_impl_getText a0 r1_1 _ hr3), .eT c2, .cl (ok_impl_getNum a0 r3_1 _ hr4), .le e_u8 a0, .eT c5, .nt true, ⟨.view (eL e_u8 r3_0), .l (eL e_u8 r3_0), (A.view E_u8)⟩, ⟨.view (eL e_u8 []), .l (eL e_u8 []), (A.view E_u8)⟩, ⟨.view (eL (o_sl 1 e_u8) []), .l (eL (e_sl e_u8) []), (A.viewO (O_sl 1 O_u8))⟩, ⟨.view (eL o_GValue []), .l (eL e_GValue []), (A.viewO O_GValue)⟩, ⟨.view (eL (o_sl 1 e_u8) []), .l (eL (e_sl e_u8) []), (A.viewO (O_sl 1 O_u8))⟩, .cl (ok_impl_isEvent (GEvent.mk r1_0 r3_0 r4_0 (GValue.mk 0 0 [] [] []) []) _ hr6)]
    cases r6 with
    | true =>
     try dsimp only at h
     obtain ⟨r8, hr8, h⟩ := bs h
     obtain ⟨r9, hr9, h⟩ := bs h
     let p79 : List (Q cfg) := p78 ++ [.nt true, ⟨.view (eL e_u8 r3_0), .l (eL e_u8 r3_0), (A.view E_u8)⟩, ⟨.view (eL e_u8 []), .l (eL e_u8 []), (A.view E_u8)⟩, ⟨.view (eL (o_sl 1 e_u8) []), .l (eL (e_sl e_u8) []), (A.viewO (O_sl 1 O_u8))⟩, ⟨.view (eL o_GValue []), .l (eL e_GValue []), (A.viewO O_GValue)⟩, ⟨.view (eL (o_sl 1 e_u8) []), .l (eL (e_sl e_u8) []), (A.viewO (O_sl 1 O_u8))⟩, .cl (ok_impl_eventBytes (GEvent.mk r1_0 r3_0 r4_0 (GValue.mk 0 0 [] [] []) []) _ hr8), ⟨.cln (eL e_u8 r8), .b true, (A.cln O_u8)⟩, ⟨.view (eL e_u8 r8), .l (eL e_u8 r8), (A.view E_u8)⟩, .cl (ok_bytes_Equal r8 a0 _ hr9)]
     cases r9 with
     | true =>
      try dsimp only at h
      obtain rfl := Option.some.inj h
      exact call_wQ (p79 ++ [.nt true]) rfl fd_17 (by kernel_rfl)
     | false =>
      try dsimp only at h
      obtain rfl := Option.some.inj h
      exact call_wQ (p79 ++ [.nt false]) rfl fd_17 (by kernel_rfl)
    | false =>
     try dsimp only at h
     obtain rfl := Option.some.inj h
     exact call_wQ (p78 ++ [.nt false]) rfl fd_17 (by kernel_rfl)
   ·obtain rfl := Option.some.inj h
    exact call_wQ [.cl (ok_impl_getNum a0 0 _ hr1), .eT c2, .cl (ok_impl_getText a0 r1_1 _ hr3), .eT c2, .cl (ok_impl_getNum a0 r3_1 _ hr4), .le e_u8 a0, .eF c5, .nt false] rfl fd_17 (by kernel_rfl)
  ·rcases ite_some h with ⟨c3, h⟩ | ⟨c3, h⟩
   ·obtain ⟨⟨r4_0, r4_1⟩, hr4, h⟩ := bs h
    try dsimp only at h
    obtain ⟨⟨r5_0, r5_1⟩, hr5, h⟩ := bs h
    try dsimp only at h
    obtain ⟨⟨o6_0, o6_1, o6_2⟩, ho6, h⟩ := bs h
    try dsimp only at h
    obtain ⟨⟨r7_0, r7_1⟩, hr7, h⟩ := bs h
    try dsimp only at h
    rcases ite_some h with ⟨c8, h⟩ | ⟨c8, h⟩
    ·obtain ⟨r9, hr9, h⟩ := bs h
     let p80 : List (Q cfg) := [.cl (ok_impl_getNum a0 0 _ hr1), .eF c2, .eT c3, .cl (ok_impl_getText a0 r1_1 _ hr4), .eF c2, .eT c3, .cl (ok_impl_getNum a0 r4_1 _ hr5), .lp (gl_impl_eventRead_l0 a0 r5_0 0 0 0 0 r1_0 0 0 0 [] [] [] [] [] r4_0 [] [] [] _ r5_1 0 [] _ ho6), .cl (ok_impl_readValue a0 o6_0 1 _ hr7), .le e_u8 a0, .eT c8, .nt true, ⟨.view (eL e_u8 r4_0), .l (eL e_u8 r4_0), (A.view E_u8)⟩, ⟨.view (eL e_u8 r7_0.S), .l (eL e_u8 r7_0.S), (A.view E_u8)⟩, ⟨.view (eL (o_sl 1 e_u8) r7_0.K), .l (eL (e_sl e_u8) r7_0.K), (A.viewO (O_sl 1 O_u8))⟩, ⟨.view (eL o_GValue r7_0.L), .l (eL e_GValue r7_0.L), (A.viewO O_GValue)⟩, ⟨.view (eL (o_sl 1 e_u8) o6_2), .l (eL (e_sl e_u8) o6_2), (A.viewO (O_sl 1 O_u8))⟩, .cl (ok_impl_isEvent (GEvent.mk r1_0 r4_0 0 r7_0 o6_2) _ hr9)]
     cases r9 with
     | true =>
      try dsimp only at h
      obtain ⟨r11, hr11, h⟩ := bs h
      obtain ⟨r12, hr12, h⟩ := bs h
      let p81 : List (Q cfg) := p80 ++ [.nt true, ⟨.view (eL e_u8 r4_0), .l (eL e_u8 r4_0), (A.view E_u8)⟩, ⟨.view (eL e_u8 r7_0.S), .l (eL e_u8 r7_0.S), (A.view E_u8)⟩, ⟨.view (eL (o_sl 1 e_u8) r7_0.K), .l (eL (e_sl e_u8) r7_0.K), (A.viewO (O_sl 1 O_u8))⟩, ⟨.view (eL o_GValue r7_0.L), .l (eL e_GValue r7_0.L), (A.viewO O_GValue)⟩, ⟨.view (eL (o_sl 1 e_u8) o6_2), .l (eL (e_sl e_u8) o6_2), (A.viewO (O_sl 1 O_u8))⟩, .cl (ok_impl_eventBytes (GEvent.mk r1_0 r4_0 0 r7_0 o6_2) _ hr11), ⟨.cln (eL e_u8 r11), .b true, (A.cln O_u8)⟩, ⟨.view (eL e_u8 r11), .l (eL e_u8 r11), (A.view E_u8)⟩, .cl (ok_bytes_Equal r11 a0 _ hr12)]
      cases r12 with
      | true =>
       try dsimp only at h
       obtain rfl := Option.some.inj h
       exact call_wQ (p81 ++ [.nt true]) rfl fd_17 (by kernel_rfl)
      | false =>
       try dsimp only at h
       obtain rfl := Option.some.inj h
       exact call_wQ (p81 ++ [.nt false]) rfl fd_17 (by kernel_rfl)
     | false =>
      try dsimp only at h
      obtain rfl := Option.some.inj h
      exact call_wQ (p80 ++ [.nt false]) rfl fd_17 (by kernel_rfl)
    ·obtain rfl := Option.some.inj h
     exact call_wQ [.cl (ok_impl_getNum a0 0 _ hr1), .eF c2, .eT c3, .cl (ok_impl_getText a0 r1_1 _ hr4), .eF c2, .eT c3, .cl (ok_impl_getNum a0 r4_1 _ hr5), .lp (gl_impl_eventRead_l0 a0 r5_0 0 0 0 0 r1_0 0 0 0 [] [] [] [] [] r4_0 [] [] [] _ r5_1 0 [] _ ho6), .cl (ok_impl_readValue a0 o6_0 1 _ hr7), .le e_u8 a0, .eF c8, .nt false] rfl fd_17 (by kernel_rfl)
   ·rcases ite_some h with ⟨c4, h⟩ | ⟨c4, h⟩
    ·obtain ⟨⟨r5_0, r5_1⟩, hr5, h⟩ := bs h
     try dsimp only at h
     rcases ite_some h with ⟨c6, h⟩ | ⟨c6, h⟩
     ·obtain ⟨r7, hr7, h⟩ := bs h
      let p82 : List (Q cfg) := [.cl (ok_impl_getNum a0 0 _ hr1), .eF c2, .eF c3, .eT c4, .cl (ok_impl_getText a0 r1_1 _ hr5), .eF c2, .eF c3, .le e_u8 a0, .eT c6, .nt true, ⟨.view (eL e_u8 r5_0), .l (eL e_u8 r5_0), (A.view E_u8)⟩, ⟨.view (eL e_u8 []), .l (eL e_u8 []), (A.view E_u8)⟩, ⟨.view (eL (o_sl 1 e_u8) []), .l (eL (e_sl e_u8) []), (A.viewO (O_sl 1 O_u8))⟩, ⟨.view (eL o_GValue []), .l (eL e_GValue []), (A.viewO O_GValue)⟩, ⟨.view (eL (o_sl 1 e_u8) []), .l (eL (e_sl e_u8) []), (A.viewO (O_sl 1 O_u8))⟩, .cl (ok_impl_isEvent (GEvent.mk r1_0 r5_0 0 (GValue.mk 0 0 [] [] []) []) _ hr7)]
      cases r7 with
      | true =>
       try dsimp only at h
       obtain ⟨r9, hr9, h⟩ := bs h
       obtain ⟨r10, hr10, h⟩ := bs h
       let p83 : List (Q cfg) := p82 ++ [.nt true, ⟨.view (eL e_u8 r5_0), .l (eL e_u8 r5_0), (A.view E_u8)⟩, ⟨.view (eL e_u8 []), .l (eL e_u8 []), (A.view E_u8)⟩, ⟨.view (eL (o_sl 1 e_u8) []), .l (eL (e_sl e_u8) []), (A.viewO (O_sl 1 O_u8))⟩, ⟨.view (eL o_GValue []), .l (eL e_GValue []), (A.viewO O_GValue)⟩, ⟨.view (eL (o_sl 1 e_u8) []), .l (eL (e_sl e_u8) []), (A.viewO (O_sl 1 O_u8))⟩, .cl (ok_impl_eventBytes (GEvent.mk r1_0 r5_0 0 (GValue.mk 0 0 [] [] []) []) _ hr9), ⟨.cln (eL e_u8 r9), .b true, (A.cln O_u8)⟩, ⟨.view (eL e_u8 r9), .l (eL e_u8 r9), (A.view E_u8)⟩, .cl (ok_bytes_Equal r9 a0 _ hr10)]
       cases r10 with
       | true =>
        try dsimp only at h
        obtain rfl := Option.some.inj h
        exact call_wQ (p83 ++ [.nt true]) rfl fd_17 (by kernel_rfl)
       | false =>
        try dsimp only at h
        obtain rfl := Option.some.inj h
        exact call_wQ (p83 ++ [.nt false]) rfl fd_17 (by kernel_rfl)
      | false =>
       try dsimp only at h
       obtain rfl := Option.some.inj h
       exact call_wQ (p82 ++ [.nt false]) rfl fd_17 (by kernel_rfl)
     ·obtain rfl := Option.some.inj h
      exact call_wQ [.cl (ok_impl_getNum a0 0 _ hr1), .eF c2, .eF c3, .eT c4, .cl (ok_impl_getText a0 r1_1 _ hr5), .eF c2, .eF c3, .le e_u8 a0, .eF c6, .nt false] rfl fd_17 (by kernel_rfl)
    ·rcases ite_some h with ⟨c5, h⟩ | ⟨c5, h⟩
     ·obtain ⟨⟨r6_0, r6_1⟩, hr6, h⟩ := bs h
      try dsimp only at h
      rcases ite_some h with ⟨c7, h⟩ | ⟨c7, h⟩
      ·obtain ⟨r8, hr8, h⟩ := bs h
       let p84 : List (Q cfg) := [.cl (ok_impl_getNum a0 0 _ hr1), .eF c2, .eF c3, .eF c4, .eT c5, .cl (ok_impl_getText a0 r1_1 _ hr6), .eF c2, .eF c3, .le e_u8 a0, .eT c7, .nt true, ⟨.view (eL e_u8 r6_0), .l (eL e_u8 r6_0), (A.view E_u8)⟩, ⟨.view (eL e_u8 []), .l (eL e_u8 []), (A.view E_u8)⟩, ⟨.view (eL (o_sl 1 e_u8) []), .l (eL (e_sl e_u8) []), (A.viewO (O_sl 1 O_u8))⟩, ⟨.view (eL o_GValue []), .l (eL e_GValue []), (A.viewO O_GValue)⟩, ⟨.view (eL (o_sl 1 e_u8) []), .l (eL (e_sl e_u8) []), (A.viewO (O_sl 1 O_u8))⟩, .cl (ok_impl_isEvent (GEvent.mk r1_0 r6_0 0 (GValue.mk 0 0 [] [] []) []) _ hr8)]
       cases r8 with
       | true =>
        try dsimp only at h
        obtain ⟨r10, hr10, h⟩ := bs h
        obtain ⟨r11, hr11, h⟩ := bs h
        let p85 : List (Q cfg) := p84 ++ [.nt true, ⟨.view (eL e_u8 r6_0), .l (eL e_u8 r6_0), (A.view E_u8)⟩, ⟨.view (eL e_u8 []), .l (eL e_u8 []), (A.view E_u8)⟩, ⟨.view (eL (o_sl 1 e_u8) []), .l (eL (e_sl e_u8) []), (A.viewO (O_sl 1 O_u8))⟩, ⟨.view (eL o_GValue []), .l (eL e_GValue []), (A.viewO O_GValue)⟩, ⟨.view (eL (o_sl 1 e_u8) []), .l (eL (e_sl e_u8) []), (A.viewO (O_sl 1 O_u8))⟩, .cl (ok_impl_eventBytes (GEvent.mk r1_0 r6_0 0 (GValue.mk 0 0 [] [] []) []) _ hr10), ⟨.cln (eL e_u8 r10), .b true, (A.cln O_u8)⟩, ⟨.view (eL e_u8 r10), .l (eL e_u8 r10), (A.view E_u8)⟩, .cl (ok_bytes_Equal r10 a0 _ hr11)]
        cases r11 with
        | true =>
         try dsimp only at h
         obtain rfl := Option.some.inj h
         exact call_wQ (p85 ++ [.nt true]) rfl fd_17 (by kernel_rfl)
        | false =>
         try dsimp only at h
         obtain rfl := Option.some.inj h
         exact call_wQ (p85 ++ [.nt false]) rfl fd_17 (by kernel_rfl)
       | false =>
        try dsimp only at h
        obtain rfl := Option.some.inj h
        exact call_wQ (p84 ++ [.nt false]) rfl fd_17 (by kernel_rfl)
      ·obtain rfl := Option.some.inj h
       exact call_wQ [.cl (ok_impl_getNum a0 0 _ hr1), .eF c2, .eF c3, .eF c4, .eT c5, .cl (ok_impl_getText a0 r1_1 _ hr6), .eF c2, .eF c3, .le e_u8 a0, .eF c7, .nt false] rfl fd_17 (by kernel_rfl)
     ·rcases ite_some h with ⟨c6, h⟩ | ⟨c6, h⟩
      ·obtain ⟨r7, hr7, h⟩ := bs h
       let p86 : List (Q cfg) := [.cl (ok_impl_getNum a0 0 _ hr1), .eF c2, .eF c3, .eF c4, .eF c5, .eF c2, .eF c3, .le e_u8 a0, .eT c6, .nt true, ⟨.view (eL e_u8 []), .l (eL e_u8 []), (A.view E_u8)⟩, ⟨.view (eL e_u8 []), .l (eL e_u8 []), (A.view E_u8)⟩, ⟨.view (eL (o_sl 1 e_u8) []), .l (eL (e_sl e_u8) []), (A.viewO (O_sl 1 O_u8))⟩, ⟨.view (eL o_GValue []), .l (eL e_GValue []), (A.viewO O_GValue)⟩, ⟨.view (eL (o_sl 1 e_u8) []), .l (eL (e_sl e_u8) []), (A.viewO (O_sl 1 O_u8))⟩, .cl (ok_impl_isEvent (GEvent.mk r1_0 [] 0 (GValue.mk 0 0 [] [] []) []) _ hr7)]
       cases r7 with
       | true =>
        try dsimp only at h
        obtain ⟨r9, hr9, h⟩ := bs h
        obtain ⟨r10, hr10, h⟩ := bs h
        let p87 : List (Q cfg) := p86 ++ [.nt true, ⟨.view (eL e_u8 []), .l (eL e_u8 []), (A.view E_u8)⟩, ⟨.view (eL e_u8 []), .l (eL e_u8 []), (A.view E_u8)⟩, ⟨.view (eL (o_sl 1 e_u8) []), .l (eL (e_sl e_u8) []), (A.viewO (O_sl 1 O_u8))⟩, ⟨.view (eL o_GValue []), .l (eL e_GValue []), (A.viewO O_GValue)⟩, ⟨.view (eL (o_sl 1 e_u8) []), .l (eL (e_sl e_u8) []), (A.viewO (O_sl 1 O_u8))⟩, .cl (ok_impl_eventBytes (GEvent.mk r1_0 [] 0 (GValue.mk 0 0 [] [] []) []) _ hr9), ⟨.cln (eL e_u8 r9), .b true, (A.cln O_u8)⟩, ⟨.view (eL e_u8 r9), .l (eL e_u8 r9), (A.view E_u8)⟩, .cl (ok_bytes_Equal r9 a0 _ hr10)]
        cases r10 with
        | true =>
         try dsimp only at h
         obtain rfl := Option.some.inj h
         exact call_wQ (p87 ++ [.nt true]) rfl fd_17 (by kernel_rfl)
        | false =>
         try dsimp only at h
         obtain rfl := Option.some.inj h
         exact call_wQ (p87 ++ [.nt false]) rfl fd_17 (by kernel_rfl)
       | false =>
        try dsimp only at h
        obtain rfl := Option.some.inj h
        exact call_wQ (p86 ++ [.nt false]) rfl fd_17 (by kernel_rfl)
      ·obtain rfl := Option.some.inj h
       exact call_wQ [.cl (ok_impl_getNum a0 0 _ hr1), .eF c2, .eF c3, .eF c4, .eF c5, .eF c2, .eF c3, .le e_u8 a0, .eF c6, .nt false] rfl fd_17 (by kernel_rfl)
def S_impl_eventRead (a0 : (List UInt8)) : Option (GEvent × Bool) := T_impl_eventRead (a0.length + 10) a0
theorem spec_impl_eventRead (a0 : (List UInt8)) (r : (GEvent × Bool)) (h : S_impl_eventRead a0 = some r) : ∃ n, T_impl_eventRead n a0 = some r := ⟨_, h⟩
theorem ok_impl_eventRead (a0 : (List UInt8)) (r : (GEvent × Bool)) (h : S_impl_eventRead a0 = some r) : (mach cfg).call 17 [] [.val false [.seq (eL e_u8 a0)]] = some (.tup [(true, [.int .i64 r.1.Kind, .own 1 (eL e_u8 r.1.Addr), .int .i64 r.1.Act, .int .i64 r.1.Val.Kind, .int .i64 r.1.Val.N, .own 1 (eL e_u8 r.1.Val.S), .own 1 (eL (o_sl 1 e_u8) r.1.Val.K), .own 5 (eL o_GValue r.1.Val.L), .own 1 (eL (o_sl 1 e_u8) r.1.Deps)]), (false, [.bool r.2])], []) := by
  obtain ⟨n, hn⟩ := spec_impl_eventRead a0 r h
  exact g_impl_eventRead n a0 r hn
def S_impl_EventRead (a0 : (List UInt8)) : Option (GEvent × Bool) :=
  (S_impl_eventRead a0).bind fun ⟨r1_0, r1_1⟩ =>
  some (r1_0, r1_1)
set_option maxRecDepth 100000 in
theorem fd_6 : cfg.funcs 6 = some (bodyOf Tryz.f6, Tryz.f6.ntmps, Tryz.f6.results.toList) := fn_of Tryz.func6 (by kernel_rfl) (by kernel_rfl)
theorem ok_impl_EventRead (a0 : (List UInt8)) (r : (GEvent × Bool)) (h : S_impl_EventRead a0 = some r) : (mach cfg).call 6 [] [.val false [.seq (eL e_u8 a0)]] = some (.tup [(true, [.int .i64 r.1.Kind, .own 1 (eL e_u8 r.1.Addr), .int .i64 r.1.Act, .int .i64 r.1.Val.Kind, .int .i64 r.1.Val.N, .own 1 (eL e_u8 r.1.Val.S), .own 1 (eL (o_sl 1 e_u8) r.1.Val.K), .own 5 (eL o_GValue r.1.Val.L), .own 1 (eL (o_sl 1 e_u8) r.1.Deps)]), (false, [.bool r.2])], []) := by
  unfold S_impl_EventRead at h
  obtain ⟨⟨r1_0, r1_1⟩, hr1, h⟩ := bs h
  try dsimp only at h
  obtain rfl := Option.some.inj h
  exact call_wQ [.cl (ok_impl_eventRead a0 _ hr1)] rfl fd_6 (by kernel_rfl)
def L_laws_eqByteS_l0 (a0 : (List UInt8)) (a1 : (List UInt8)) : Nat → Int → Option (Bool ⊕ Int)
  | 0, _ => none
  | m + 1, v2 =>
    if v2 < ((a0.length : Nat) : Int) then
      (natO v2).bind fun i2 =>
      (a0[i2]?).bind fun x3 =>
      (a1[i2]?).bind fun x4 =>
      if ((x3.toNat : Nat) : Int) = ((x4.toNat : Nat) : Int) then
        L_laws_eqByteS_l0 a0 a1 m (w64 (v2 + 1))
      else
        some (.inl false)
    else
      some (.inr v2)
theorem gl_laws_eqByteS_l0 (a0 : (List UInt8)) (a1 : (List UInt8)) (m : Nat) : ∀ (v2 : Int) (o : (Bool ⊕ Int)), L_laws_eqByteS_l0 a0 a1 m v2 = some o → (mach cfg).loop 8 (loopB Tryz.f8 0) ⟨[(0, .val false [.seq (eL e_u8 a0)]), (1, .val false [.seq (eL e_u8 a1)]), (5, .val false [.int .i64 v2])], [], 0⟩ = some (match o with | .inl o_0 => (.ret, (⟨[(4, .val false [.bool o_0])], [], 0⟩ : S)) | .inr (o_1) => (.exit 0, (⟨[(0, .val false [.seq (eL e_u8 a0)]), (1, .val false [.seq (eL e_u8 a1)]), (5, .val false [.int .i64 o_1]), (14, .val false [.bool false])], [], 0⟩ : S))) := by
  induction m with
  | zero => intro v2 o h; cases h
  | succ m ih =>
    intro v2 o h
    rw [L_laws_eqByteS_l0] at h
    rcases ite_some h with ⟨c1, h⟩ | ⟨c1, h⟩
    ·obtain ⟨i2, hi2, h⟩ := bs h
     obtain ⟨x3, hx3, h⟩ := bs h
     obtain ⟨x4, hx4, h⟩ := bs h
     rcases ite_some h with ⟨c5, h⟩ | ⟨c5, h⟩
     ·exact loop_nQ [.le e_u8 a0, .lT c1, .na hi2, .ix0 e_u8 hx3, .na hi2, .ix0 e_u8 hx4, .eT c5, .nt true, .ad v2 1] (by kernel_rfl) (ih (w64 (v2 + 1)) o h)
     ·obtain rfl := Option.some.inj h
      exact loop_eQ [.le e_u8 a0, .lT c1, .na hi2, .ix0 e_u8 hx3, .na hi2, .ix0 e_u8 hx4, .eF c5, .nt false] (by kernel_rfl) (by intro h; cases h)
    ·obtain rfl := Option.some.inj h
     exact loop_eQ [.le e_u8 a0, .lF c1] (by kernel_rfl) (by intro h; cases h)
def T_laws_eqByteS (n : Nat) (a0 : (List UInt8)) (a1 : (List UInt8)) : Option Bool :=
  if ((a0.length : Nat) : Int) = ((a1.length : Nat) : Int) then
    (L_laws_eqByteS_l0 a0 a1 n 0).bind fun o2 =>
    match o2 with
    | .inl o2_0 =>
      some o2_0
    | .inr (o2_1) =>
      some true
  else
    some false
set_option maxRecDepth 100000 in
theorem fd_8 : cfg.funcs 8 = some (bodyOf Tryz.f8, Tryz.f8.ntmps, Tryz.f8.results.toList) := fn_of Tryz.func8 (by kernel_rfl) (by kernel_rfl)
theorem g_laws_eqByteS (n : Nat) (a0 : (List UInt8)) (a1 : (List UInt8)) (r : Bool) (h : T_laws_eqByteS n a0 a1 = some r) : (mach cfg).call 8 [] [.val false [.seq (eL e_u8 a0)], .val false [.seq (eL e_u8 a1)]] = some (.val false [.bool r], []) := by
  unfold T_laws_eqByteS at h
  rcases ite_some h with ⟨c1, h⟩ | ⟨c1, h⟩
  ·obtain ⟨o2, ho2, h⟩ := bs h
   let p88 : List (Q cfg) := [.le e_u8 a0, .le e_u8 a1, .eT c1, .nt true, .lp (gl_laws_eqByteS_l0 a0 a1 _ 0 _ ho2)]
   rcases o2 with o2_0 | o2_1
   · try dsimp only at h
     obtain rfl := Option.some.inj h
     exact call_wQ p88 rfl fd_8 (by kernel_rfl)
   · try dsimp only at h
     obtain rfl := Option.some.inj h
     exact call_wQ p88 rfl fd_8 (by kernel_rfl)
  ·obtain rfl := Option.some.inj h
   exact call_wQ [.le e_u8 a0, .le e_u8 a1, .eF c1, .nt false] rfl fd_8 (by kernel_rfl)
theorem eqByteS_loop {a : List UInt8} (ha : a.length <= 2 ^ 40) : ∀ (d i m : Nat), i + d = a.length → d < m → ∃ z, L_laws_eqByteS_l0 a a m (i : Int) = some (.inr z) := by
  intro d
  induction d with
  | zero =>
    intro i m hi hm
    obtain ⟨m, rfl, _⟩ := fuel hm
    exact ⟨_, by rw [L_laws_eqByteS_l0, if_neg (by omega)]⟩
  | succ d ih =>
    intro i m hi hm
    obtain ⟨m, rfl, hm'⟩ := fuel hm
    have hil : i < a.length := by omega
    rw [L_laws_eqByteS_l0, if_pos (by omega), natO_nat, Option.bind_some, get_some hil, Option.bind_some, Option.bind_some, if_pos rfl, w64_succ (by omega)]
    exact ih (i + 1) m (by omega) (by omega)
def S_laws_eqByteS (a0 : (List UInt8)) (a1 : (List UInt8)) : Option Bool := if a0 = a1 ∧ a0.length <= 2 ^ 40 then some true else none
theorem spec_laws_eqByteS (a0 : (List UInt8)) (a1 : (List UInt8)) (r : Bool) (h : S_laws_eqByteS a0 a1 = some r) : ∃ n, T_laws_eqByteS n a0 a1 = some r := by
  unfold S_laws_eqByteS at h
  obtain ⟨⟨he, ha⟩, h2⟩ := need_c h
  clear h
  subst he
  refine ⟨a0.length + 1, ?_⟩
  obtain ⟨z, hz⟩ := eqByteS_loop ha a0.length 0 (a0.length + 1) (by omega) (by omega)
  rw [show ((0 : Nat) : Int) = 0 from rfl] at hz
  unfold T_laws_eqByteS
  rw [if_pos rfl, hz]; exact h2
theorem ok_laws_eqByteS (a0 : (List UInt8)) (a1 : (List UInt8)) (r : Bool) (h : S_laws_eqByteS a0 a1 = some r) : (mach cfg).call 8 [] [.val false [.seq (eL e_u8 a0)], .val false [.seq (eL e_u8 a1)]] = some (.val false [.bool r], []) := by
  obtain ⟨n, hn⟩ := spec_laws_eqByteS a0 a1 r h
  exact g_laws_eqByteS n a0 a1 r hn
def L_laws_eqByteSS_l0 (a0 : (List (List UInt8))) (a1 : (List (List UInt8))) : Nat → Int → Option (Bool ⊕ Int)
  | 0, _ => none
  | m + 1, v2 =>
    if v2 < ((a0.length : Nat) : Int) then
      (natO v2).bind fun i2 =>
      (a0[i2]?).bind fun x3 =>
      (a1[i2]?).bind fun x4 =>
      (S_laws_eqByteS x3 x4).bind fun r5 =>
      match r5 with
      | true =>
        L_laws_eqByteSS_l0 a0 a1 m (w64 (v2 + 1))
      | false =>
        some (.inl false)
    else
      some (.inr v2)
theorem gl_laws_eqByteSS_l0 (a0 : (List (List UInt8))) (a1 : (List (List UInt8))) (m : Nat) : ∀ (v2 : Int) (o : (Bool ⊕ Int)), L_laws_eqByteSS_l0 a0 a1 m v2 = some o → (mach cfg).loop 19 (loopB Tryz.f19 0) ⟨[(0, .val false [.seq (eL (e_sl e_u8) a0)]), (1, .val false [.seq (eL (e_sl e_u8) a1)]), (5, .val false [.int .i64 v2])], [], 0⟩ = some (match o with | .inl o_0 => (.ret, (⟨[(4, .val false [.bool o_0])], [], 0⟩ : S)) | .inr (o_1) => (.exit 0, (⟨[(0, .val false [.seq (eL (e_sl e_u8) a0)]), (1, .val false [.seq (eL (e_sl e_u8) a1)]), (5, .val false [.int .i64 o_1]), (14, .val false [.bool false])], [], 0⟩ : S))) := by
  induction m with
  | zero => intro v2 o h; cases h
  | succ m ih =>
    intro v2 o h
    rw [L_laws_eqByteSS_l0] at h
    rcases ite_some h with ⟨c1, h⟩ | ⟨c1, h⟩
    ·obtain ⟨i2, hi2, h⟩ := bs h
     obtain ⟨x3, hx3, h⟩ := bs h
     obtain ⟨x4, hx4, h⟩ := bs h
     obtain ⟨r5, hr5, h⟩ := bs h
     let p89 : List (Q cfg) := [.le (e_sl e_u8) a0, .lT c1, .na hi2, .ix0 (e_sl e_u8) hx3, .na hi2, .ix0 (e_sl e_u8) hx4, .cl (ok_laws_eqByteS x3 x4 _ hr5)]
     cases r5 with
     | true =>
      try dsimp only at h
      exact loop_nQ (p89 ++ [.nt true, .ad v2 1]) (by kernel_rfl) (ih (w64 (v2 + 1)) o h)
     | false =>
      try dsimp only at h
      obtain rfl := Option.some.inj h
      exact loop_eQ (p89 ++ [.nt false]) (by kernel_rfl) (by intro h; cases h)
    ·obtain rfl := Option.some.inj h
     exact loop_eQ [.le (e_sl e_u8) a0, .lF c1] (by kernel_rfl) (by intro h; cases h)
def T_laws_eqByteSS (n : Nat) (a0 : (List (List UInt8))) (a1 : (List (List UInt8))) : Option Bool :=
  if ((a0.length : Nat) : Int) = ((a1.length : Nat) : Int) then
    (L_laws_eqByteSS_l0 a0 a1 n 0).bind fun o2 =>
    match o2 with
    | .inl o2_0 =>
      some o2_0
    | .inr (o2_1) =>
      some true
  else
    some false
set_option maxRecDepth 100000 in
theorem fd_19 : cfg.funcs 19 = some (bodyOf Tryz.f19, Tryz.f19.ntmps, Tryz.f19.results.toList) := fn_of Tryz.func19 (by kernel_rfl) (by kernel_rfl)
theorem g_laws_eqByteSS (n : Nat) (a0 : (List (List UInt8))) (a1 : (List (List UInt8))) (r : Bool) (h : T_laws_eqByteSS n a0 a1 = some r) : (mach cfg).call 19 [] [.val false [.seq (eL (e_sl e_u8) a0)], .val false [.seq (eL (e_sl e_u8) a1)]] = some (.val false [.bool r], []) := by
  unfold T_laws_eqByteSS at h
  rcases ite_some h with ⟨c1, h⟩ | ⟨c1, h⟩
  ·obtain ⟨o2, ho2, h⟩ := bs h
   let p90 : List (Q cfg) := [.le (e_sl e_u8) a0, .le (e_sl e_u8) a1, .eT c1, .nt true, .lp (gl_laws_eqByteSS_l0 a0 a1 _ 0 _ ho2)]
   rcases o2 with o2_0 | o2_1
   · try dsimp only at h
     obtain rfl := Option.some.inj h
     exact call_wQ p90 rfl fd_19 (by kernel_rfl)
   · try dsimp only at h
     obtain rfl := Option.some.inj h
     exact call_wQ p90 rfl fd_19 (by kernel_rfl)
  ·obtain rfl := Option.some.inj h
   exact call_wQ [.le (e_sl e_u8) a0, .le (e_sl e_u8) a1, .eF c1, .nt false] rfl fd_19 (by kernel_rfl)
theorem eqByteSS_loop {a : List (List UInt8)} (ha : bsz a <= 2 ^ 40) : ∀ (d i m : Nat), i + d = a.length → d < m → ∃ z, L_laws_eqByteSS_l0 a a m (i : Int) = some (.inr z) := by
  have hl := bsz_len a
  intro d
  induction d with
  | zero =>
    intro i m hi hm
    obtain ⟨m, rfl, _⟩ := fuel hm
    exact ⟨_, by rw [L_laws_eqByteSS_l0, if_neg (by omega)]⟩
  | succ d ih =>
    intro i m hi hm
    obtain ⟨m, rfl, hm'⟩ := fuel hm
    have hil : i < a.length := by omega
    have hx := bsz_mem (List.getElem_mem hil)
    rw [L_laws_eqByteSS_l0, if_pos (by omega), natO_nat, Option.bind_some, get_some hil, Option.bind_some, Option.bind_some]
    unfold S_laws_eqByteS
    rw [if_pos ⟨rfl, by omega⟩, Option.bind_some, w64_succ (by omega)]
    exact ih (i + 1) m (by omega) (by omega)
def S_laws_eqByteSS (a0 : (List (List UInt8))) (a1 : (List (List UInt8))) : Option Bool := if a0 = a1 ∧ bsz a0 <= 2 ^ 40 then some true else none
theorem spec_laws_eqByteSS (a0 : (List (List UInt8))) (a1 : (List (List UInt8))) (r : Bool) (h : S_laws_eqByteSS a0 a1 = some r) : ∃ n, T_laws_eqByteSS n a0 a1 = some r := by
  unfold S_laws_eqByteSS at h
  obtain ⟨⟨he, ha⟩, h2⟩ := need_c h
  clear h
  subst he
  have hl := bsz_len a0
  refine ⟨a0.length + 1, ?_⟩
  obtain ⟨z, hz⟩ := eqByteSS_loop ha a0.length 0 (a0.length + 1) (by omega) (by omega)
  rw [show ((0 : Nat) : Int) = 0 from rfl] at hz
  unfold T_laws_eqByteSS
  rw [if_pos rfl, hz]; exact h2
theorem ok_laws_eqByteSS (a0 : (List (List UInt8))) (a1 : (List (List UInt8))) (r : Bool) (h : S_laws_eqByteSS a0 a1 = some r) : (mach cfg).call 19 [] [.val false [.seq (eL (e_sl e_u8) a0)], .val false [.seq (eL (e_sl e_u8) a1)]] = some (.val false [.bool r], []) := by
  obtain ⟨n, hn⟩ := spec_laws_eqByteSS a0 a1 r h
  exact g_laws_eqByteSS n a0 a1 r hn
def L_laws_eqValueS_l0 (G_laws_eqValue : GValue → GValue → Option Bool) (a0 : (List GValue)) (a1 : (List GValue)) : Nat → Int → Option (Bool ⊕ Int)
  | 0, _ => none
  | m + 1, v2 =>
    if v2 < ((a0.length : Nat) : Int) then
      (natO v2).bind fun i2 =>
      (a0[i2]?).bind fun x3 =>
      (a1[i2]?).bind fun x4 =>
      (G_laws_eqValue x3 x4).bind fun r5 =>
      match r5 with
      | true =>
        L_laws_eqValueS_l0 G_laws_eqValue a0 a1 m (w64 (v2 + 1))
      | false =>
        some (.inl false)
    else
      some (.inr v2)
theorem gl_laws_eqValueS_l0 (G_laws_eqValue : GValue → GValue → Option Bool) (H_laws_eqValue : ∀ (a0 : GValue) (a1 : GValue) (r : Bool), G_laws_eqValue a0 a1 = some r → (mach cfg).call 18 [] [.val true [.int .i64 a0.Kind, .int .i64 a0.N, .seq (eL e_u8 a0.S), .seq (eL (e_sl e_u8) a0.K), .seq (eL e_GValue a0.L)], .val true [.int .i64 a1.Kind, .int .i64 a1.N, .seq (eL e_u8 a1.S), .seq (eL (e_sl e_u8) a1.K), .seq (eL e_GValue a1.L)]] = some (.val false [.bool r], [])) (a0 : (List GValue)) (a1 : (List GValue)) (m : Nat) : ∀ (v2 : Int) (o : (Bool ⊕ Int)), L_laws_eqValueS_l0 G_laws_eqValue a0 a1 m v2 = some o → (mach cfg).loop 41 (loopB Tryz.f41 0) ⟨[(0, .val false [.seq (eL e_GValue a0)]), (1, .val false [.seq (eL e_GValue a1)]), (5, .val false [.int .i64 v2])], [], 0⟩ = some (match o with | .inl o_0 => (.ret, (⟨[(4, .val false [.bool o_0])], [], 0⟩ : S)) | .inr (o_1) => (.exit 0, (⟨[(0, .val false [.seq (eL e_GValue a0)]), (1, .val false [.seq (eL e_GValue a1)]), (5, .val false [.int .i64 o_1]), (14, .val false [.bool false])], [], 0⟩ : S))) := by
  induction m with
  | zero => intro v2 o h; cases h
  | succ m ih =>
    intro v2 o h
    rw [L_laws_eqValueS_l0] at h
    rcases ite_some h with ⟨c1, h⟩ | ⟨c1, h⟩
    ·obtain ⟨i2, hi2, h⟩ := bs h
     obtain ⟨x3, hx3, h⟩ := bs h
     obtain ⟨x4, hx4, h⟩ := bs h
     obtain ⟨r5, hr5, h⟩ := bs h
     let p91 : List (Q cfg) := [.le e_GValue a0, .lT c1, .na hi2, .ix hx3 (eq_GValue x3), .na hi2, .ix hx4 (eq_GValue x4), .cl (H_laws_eqValue x3 x4 _ hr5)]
     cases r5 with
     | true =>
      try dsimp only at h
      exact loop_nQ (p91 ++ [.nt true, .ad v2 1]) (by kernel_rfl) (ih (w64 (v2 + 1)) o h)
     | false =>
      try dsimp only at h
      obtain rfl := Option.some.inj h
      exact loop_eQ (p91 ++ [.nt false]) (by kernel_rfl) (by intro h; cases h)
    ·obtain rfl := Option.some.inj h
     exact loop_eQ [.le e_GValue a0, .lF c1] (by kernel_rfl) (by intro h; cases h)
def T_laws_eqValueS (G_laws_eqValue : GValue → GValue → Option Bool) (n : Nat) (a0 : (List GValue)) (a1 : (List GValue)) : Option Bool :=
  if ((a0.length : Nat) : Int) = ((a1.length : Nat) : Int) then
    (L_laws_eqValueS_l0 G_laws_eqValue a0 a1 n 0).bind fun o2 =>
    match o2 with
    | .inl o2_0 =>
      some o2_0
    | .inr (o2_1) =>
      some true
  else
    some false
set_option maxRecDepth 100000 in
theorem fd_41 : cfg.funcs 41 = some (bodyOf Tryz.f41, Tryz.f41.ntmps, Tryz.f41.results.toList) := fn_of Tryz.func41 (by kernel_rfl) (by kernel_rfl)
theorem g_laws_eqValueS (G_laws_eqValue : GValue → GValue → Option Bool) (H_laws_eqValue : ∀ (a0 : GValue) (a1 : GValue) (r : Bool), G_laws_eqValue a0 a1 = some r → (mach cfg).call 18 [] [.val true [.int .i64 a0.Kind, .int .i64 a0.N, .seq (eL e_u8 a0.S), .seq (eL (e_sl e_u8) a0.K), .seq (eL e_GValue a0.L)], .val true [.int .i64 a1.Kind, .int .i64 a1.N, .seq (eL e_u8 a1.S), .seq (eL (e_sl e_u8) a1.K), .seq (eL e_GValue a1.L)]] = some (.val false [.bool r], [])) (n : Nat) (a0 : (List GValue)) (a1 : (List GValue)) (r : Bool) (h : T_laws_eqValueS G_laws_eqValue n a0 a1 = some r) : (mach cfg).call 41 [] [.val false [.seq (eL e_GValue a0)], .val false [.seq (eL e_GValue a1)]] = some (.val false [.bool r], []) := by
  unfold T_laws_eqValueS at h
  rcases ite_some h with ⟨c1, h⟩ | ⟨c1, h⟩
  ·obtain ⟨o2, ho2, h⟩ := bs h
   let p92 : List (Q cfg) := [.le e_GValue a0, .le e_GValue a1, .eT c1, .nt true, .lp (gl_laws_eqValueS_l0 G_laws_eqValue H_laws_eqValue a0 a1 _ 0 _ ho2)]
   rcases o2 with o2_0 | o2_1
   · try dsimp only at h
     obtain rfl := Option.some.inj h
     exact call_wQ p92 rfl fd_41 (by kernel_rfl)
   · try dsimp only at h
     obtain rfl := Option.some.inj h
     exact call_wQ p92 rfl fd_41 (by kernel_rfl)
  ·obtain rfl := Option.some.inj h
   exact call_wQ [.le e_GValue a0, .le e_GValue a1, .eF c1, .nt false] rfl fd_41 (by kernel_rfl)
def T_laws_eqValue (G_laws_eqValueS : (List GValue) → (List GValue) → Option Bool) (a0 : GValue) (a1 : GValue) : Option Bool :=
  if a0.Kind = a1.Kind then
    if a0.N = a1.N then
      (S_laws_eqByteS a0.S a1.S).bind fun r3 =>
      match r3 with
      | true =>
        (S_laws_eqByteSS a0.K a1.K).bind fun r5 =>
        match r5 with
        | true =>
          (G_laws_eqValueS a0.L a1.L).bind fun r7 =>
          match r7 with
          | true =>
            some true
          | false =>
            some false
        | false =>
          some false
      | false =>
        some false
    else
      some false
  else
    some false
set_option maxRecDepth 100000 in
theorem fd_18 : cfg.funcs 18 = some (bodyOf Tryz.f18, Tryz.f18.ntmps, Tryz.f18.results.toList) := fn_of Tryz.func18 (by kernel_rfl) (by kernel_rfl)
theorem g_laws_eqValue (G_laws_eqValueS : (List GValue) → (List GValue) → Option Bool) (H_laws_eqValueS : ∀ (a0 : (List GValue)) (a1 : (List GValue)) (r : Bool), G_laws_eqValueS a0 a1 = some r → (mach cfg).call 41 [] [.val false [.seq (eL e_GValue a0)], .val false [.seq (eL e_GValue a1)]] = some (.val false [.bool r], [])) (a0 : GValue) (a1 : GValue) (r : Bool) (h : T_laws_eqValue G_laws_eqValueS a0 a1 = some r) : (mach cfg).call 18 [] [.val true [.int .i64 a0.Kind, .int .i64 a0.N, .seq (eL e_u8 a0.S), .seq (eL (e_sl e_u8) a0.K), .seq (eL e_GValue a0.L)], .val true [.int .i64 a1.Kind, .int .i64 a1.N, .seq (eL e_u8 a1.S), .seq (eL (e_sl e_u8) a1.K), .seq (eL e_GValue a1.L)]] = some (.val false [.bool r], []) := by
  unfold T_laws_eqValue at h
  rcases ite_some h with ⟨c1, h⟩ | ⟨c1, h⟩
  ·rcases ite_some h with ⟨c2, h⟩ | ⟨c2, h⟩
   ·obtain ⟨r3, hr3, h⟩ := bs h
    let p93 : List (Q cfg) := [.eT c1, .nt true, .eT c2, .nt true, .cl (ok_laws_eqByteS a0.S a1.S _ hr3)]
    cases r3 with
    | true =>
     try dsimp only at h
     obtain ⟨r5, hr5, h⟩ := bs h
     let p94 : List (Q cfg) := p93 ++ [.nt true, .cl (ok_laws_eqByteSS a0.K a1.K _ hr5)]
     cases r5 with
     | true =>
      try dsimp only at h
      obtain ⟨r7, hr7, h⟩ := bs h
      cases r7 with
      | true =>
       try dsimp only at h
       obtain rfl := Option.some.inj h
       exact call_wQ (p94 ++ [.nt true, .cl (H_laws_eqValueS a0.L a1.L _ hr7), .nt true]) rfl fd_18 (by kernel_rfl)
      | false =>
       try dsimp only at h
       obtain rfl := Option.some.inj h
       exact call_wQ (p94 ++ [.nt true, .cl (H_laws_eqValueS a0.L a1.L _ hr7), .nt false]) rfl fd_18 (by kernel_rfl)
     | false =>
      try dsimp only at h
      obtain rfl := Option.some.inj h
      exact call_wQ (p94 ++ [.nt false]) rfl fd_18 (by kernel_rfl)
    | false =>
     try dsimp only at h
     obtain rfl := Option.some.inj h
     exact call_wQ (p93 ++ [.nt false]) rfl fd_18 (by kernel_rfl)
   ·obtain rfl := Option.some.inj h
    exact call_wQ [.eT c1, .nt true, .eF c2, .nt false] rfl fd_18 (by kernel_rfl)
  ·obtain rfl := Option.some.inj h
   exact call_wQ [.eF c1, .nt false] rfl fd_18 (by kernel_rfl)
mutual
def U_laws_eqValueS : Nat → (List GValue) → (List GValue) → Option Bool
  | 0, _, _ => none
  | n + 1, a0, a1 => T_laws_eqValueS (U_laws_eqValue n) n a0 a1
def U_laws_eqValue : Nat → GValue → GValue → Option Bool
  | 0, _, _ => none
  | n + 1, a0, a1 => T_laws_eqValue (U_laws_eqValueS n) a0 a1
end
theorem rec_laws_eqValueS (n : Nat) : (∀ (a0 : (List GValue)) (a1 : (List GValue)) (r : Bool), U_laws_eqValueS n a0 a1 = some r → (mach cfg).call 41 [] [.val false [.seq (eL e_GValue a0)], .val false [.seq (eL e_GValue a1)]] = some (.val false [.bool r], [])) ∧ (∀ (a0 : GValue) (a1 : GValue) (r : Bool), U_laws_eqValue n a0 a1 = some r → (mach cfg).call 18 [] [.val true [.int .i64 a0.Kind, .int .i64 a0.N, .seq (eL e_u8 a0.S), .seq (eL (e_sl e_u8) a0.K), .seq (eL e_GValue a0.L)], .val true [.int .i64 a1.Kind, .int .i64 a1.N, .seq (eL e_u8 a1.S), .seq (eL (e_sl e_u8) a1.K), .seq (eL e_GValue a1.L)]] = some (.val false [.bool r], [])) := by
  induction n with
  | zero => exact ⟨fun _ _ _ h => (by rw [U_laws_eqValueS] at h; cases h), fun _ _ _ h => (by rw [U_laws_eqValue] at h; cases h)⟩
  | succ n ih =>
    obtain ⟨ih_laws_eqValueS, ih_laws_eqValue⟩ := ih
    exact ⟨fun a0 a1 r h => g_laws_eqValueS (U_laws_eqValue n) ih_laws_eqValue n a0 a1 r (by rw [U_laws_eqValueS] at h; exact h),
      fun a0 a1 r h => g_laws_eqValue (U_laws_eqValueS n) ih_laws_eqValueS a0 a1 r (by rw [U_laws_eqValue] at h; exact h)⟩
theorem eqValueS_T {G : GValue → GValue → Option Bool} {a : List GValue} {f : Nat} (ha : a.length <= 2 ^ 40) (hf : a.length < f) (hG : ∀ v ∈ a, G v v = some true) : T_laws_eqValueS G f a a = some true := by
  have loop : ∀ (d i m : Nat), i + d = a.length → d < m → ∃ z, L_laws_eqValueS_l0 G a a m (i : Int) = some (.inr z) := by
    intro d
    induction d with
    | zero =>
      intro i m hi hm
      obtain ⟨m, rfl, _⟩ := fuel hm
      exact ⟨_, by rw [L_laws_eqValueS_l0, if_neg (by omega)]⟩
    | succ d ih =>
      intro i m hi hm
      obtain ⟨m, rfl, hm'⟩ := fuel hm
      have hil : i < a.length := by omega
      rw [L_laws_eqValueS_l0, if_pos (by omega), natO_nat, Option.bind_some, get_some hil, Option.bind_some, Option.bind_some, hG _ (List.getElem_mem hil), Option.bind_some, w64_succ (by omega)]
      exact ih (i + 1) m (by omega) (by omega)
  obtain ⟨z, hz⟩ := loop a.length 0 f (by omega) (by omega)
  rw [show ((0 : Nat) : Int) = 0 from rfl] at hz
  unfold T_laws_eqValueS
  rw [if_pos rfl, hz]; rfl
theorem eqValue_U : ∀ (N : Nat) (v : GValue), vsz v < N → vsz v <= 2 ^ 40 → ∀ f : Nat, 2 * vsz v + 3 <= f → U_laws_eqValue f v v = some true := by
  intro N
  induction N with
  | zero => intro v hv; omega
  | succ N ih =>
    intro v hv hs f hf
    obtain ⟨f, rfl, _⟩ := fuel (show 0 < f by omega)
    obtain ⟨f, rfl, _⟩ := fuel (show 0 < f by omega)
    have he := vsz_eq v
    have hl := vszs_len v.L
    rw [U_laws_eqValue]
    unfold T_laws_eqValue S_laws_eqByteS S_laws_eqByteSS
    rw [if_pos rfl, if_pos rfl, if_pos (show v.S = v.S ∧ v.S.length <= 2 ^ 40 from ⟨rfl, by omega⟩), Option.bind_some]
    dsimp only
    rw [if_pos (show v.K = v.K ∧ bsz v.K <= 2 ^ 40 from ⟨rfl, by omega⟩), Option.bind_some]
    dsimp only
    rw [U_laws_eqValueS, eqValueS_T (by omega) (by omega) fun x hx => ?_]
    · rfl
    · have := vszs_mem hx
      exact ih x (by omega) (by omega) f (by omega)
open Classical in
noncomputable def S_laws_eqValueS (a0 : (List GValue)) (a1 : (List GValue)) : Option Bool := if a0 = a1 ∧ vszs a0 <= 2 ^ 40 then some true else none
theorem spec_laws_eqValueS (a0 : (List GValue)) (a1 : (List GValue)) (r : Bool) (h : S_laws_eqValueS a0 a1 = some r) : ∃ n, U_laws_eqValueS n a0 a1 = some r := by
  unfold S_laws_eqValueS at h
  obtain ⟨⟨he, ha⟩, h2⟩ := need_c h
  clear h
  subst he
  have hl := vszs_len a0
  refine ⟨2 * vszs a0 + 5, ?_⟩
  rw [U_laws_eqValueS, eqValueS_T (by omega) (by omega) fun x hx => ?_, h2]
  have := vszs_mem hx
  exact eqValue_U _ x (Nat.lt_succ_self _) (by omega) _ (by omega)
open Classical in
noncomputable def S_laws_eqValue (a0 : GValue) (a1 : GValue) : Option Bool := if a0 = a1 ∧ vsz a0 <= 2 ^ 40 then some true else none
theorem spec_laws_eqValue (a0 : GValue) (a1 : GValue) (r : Bool) (h : S_laws_eqValue a0 a1 = some r) : ∃ n, U_laws_eqValue n a0 a1 = some r := by
  unfold S_laws_eqValue at h
  obtain ⟨⟨he, ha⟩, h2⟩ := need_c h
  clear h
  subst he
  exact ⟨2 * vsz a0 + 3, by rw [<- h2]; exact eqValue_U _ a0 (Nat.lt_succ_self _) ha _ (Nat.le_refl _)⟩
theorem ok_laws_eqValueS (a0 : (List GValue)) (a1 : (List GValue)) (r : Bool) (h : S_laws_eqValueS a0 a1 = some r) : (mach cfg).call 41 [] [.val false [.seq (eL e_GValue a0)], .val false [.seq (eL e_GValue a1)]] = some (.val false [.bool r], []) := by
  obtain ⟨n, hn⟩ := spec_laws_eqValueS a0 a1 r h
  exact (rec_laws_eqValueS n).1 a0 a1 r hn
theorem ok_laws_eqValue (a0 : GValue) (a1 : GValue) (r : Bool) (h : S_laws_eqValue a0 a1 = some r) : (mach cfg).call 18 [] [.val true [.int .i64 a0.Kind, .int .i64 a0.N, .seq (eL e_u8 a0.S), .seq (eL (e_sl e_u8) a0.K), .seq (eL e_GValue a0.L)], .val true [.int .i64 a1.Kind, .int .i64 a1.N, .seq (eL e_u8 a1.S), .seq (eL (e_sl e_u8) a1.K), .seq (eL e_GValue a1.L)]] = some (.val false [.bool r], []) := by
  obtain ⟨n, hn⟩ := spec_laws_eqValue a0 a1 r h
  exact (rec_laws_eqValueS n).2 a0 a1 r hn
end
end Go.Am.Try
