/- The functions of the program in plain Lean, and that the machine answers as they do; conditions at each theorem. -/
import Derived.Test.YtabecknjhcjpfaaGreatDoorEG3
set_option linter.unusedVariables false
set_option linter.unusedSimpArgs false
namespace Go.Am.Try
open Go.Am Go.Proofs
set_option linter.unusedVariables false
set_option maxRecDepth 20000
set_option maxHeartbeats 2000000
noncomputable section
def L_impl_areAddrs_l0 (a0 : (List (List UInt8))) (v1 : Int) : Nat → Int → Option (Bool ⊕ Int)
  | 0, _ => none
  | m + 1, v2 =>
    if v2 < v1 then
      (natO v2).bind fun i2 =>
      (a0[i2]?).bind fun x3 =>
      (S_impl_isAddr x3).bind fun r4 =>
      match r4 with
      | true =>
        if 0 < v2 then
          (natO (w64 (v2 - 1))).bind fun i7 =>
          (a0[i7]?).bind fun x8 =>
          (S_bytes_Compare x8 x3).bind fun r9 =>
          if 0 <= r9 then
            some (.inl false)
          else
            L_impl_areAddrs_l0 a0 v1 m (w64 (v2 + 1))
        else
          L_impl_areAddrs_l0 a0 v1 m (w64 (v2 + 1))
      | false =>
        some (.inl false)
    else
      some (.inr v2)
theorem gl_impl_areAddrs_l0 (a0 : (List (List UInt8))) (v1 : Int) (m : Nat) : ∀ (v2 : Int) (o : (Bool ⊕ Int)), L_impl_areAddrs_l0 a0 v1 m v2 = some o → (mach cfg).loop 113 (loopB Tryz.f113 0) ⟨[(0, .val false [.seq (eL (e_sl e_u8) a0)]), (5, .val false [.seq (eL (e_sl e_u8) a0)]), (6, .val false [.int .i64 v1]), (7, .val false [.int .i64 v2])], [], 0⟩ = some (match o with | .inl o_0 => (.ret, (⟨[(2, .val false [.bool o_0])], [], 0⟩ : S)) | .inr (o_1) => (.exit 0, (⟨[(0, .val false [.seq (eL (e_sl e_u8) a0)]), (5, .val false [.seq (eL (e_sl e_u8) a0)]), (6, .val false [.int .i64 v1]), (7, .val false [.int .i64 o_1]), (8, .val false [.bool false])], [], 0⟩ : S))) := by
  induction m with
  | zero => intro v2 o h; cases h
  | succ m ih =>
    intro v2 o h
    rw [L_impl_areAddrs_l0] at h
    rcases ite_some h with ⟨c1, h⟩ | ⟨c1, h⟩
    ·obtain ⟨i2, hi2, h⟩ := bs h
     obtain ⟨x3, hx3, h⟩ := bs h
     obtain ⟨r4, hr4, h⟩ := bs h
     let p60 : List (Q cfg) := [.lT c1, .na hi2, .ix0 (e_sl e_u8) hx3, .cl (ok_impl_isAddr x3 _ hr4)]
     cases r4 with
     | true =>
      try dsimp only at h
      rcases ite_some h with ⟨c6, h⟩ | ⟨c6, h⟩
      ·obtain ⟨i7, hi7, h⟩ := bs h
       obtain ⟨x8, hx8, h⟩ := bs h
       obtain ⟨r9, hr9, h⟩ := bs h
       let p61 : List (Q cfg) := p60 ++ [.nt true, .lT c6, .su v2 1, .na hi7, .ix0 (e_sl e_u8) hx8, .cl (ok_bytes_Compare x8 x3 _ hr9)]
       rcases ite_some h with ⟨c10, h⟩ | ⟨c10, h⟩
       ·obtain rfl := Option.some.inj h
        exact loop_eQ (p61 ++ [.gT c10]) (by kernel_rfl) (by intro h; cases h)
       ·exact loop_nQ (p61 ++ [.gF c10, .ad v2 1]) (by kernel_rfl) (ih (w64 (v2 + 1)) o h)
      ·exact loop_nQ (p60 ++ [.nt true, .lF c6, .ad v2 1]) (by kernel_rfl) (ih (w64 (v2 + 1)) o h)
     | false =>
      try dsimp only at h
      obtain rfl := Option.some.inj h
      exact loop_eQ (p60 ++ [.nt false]) (by kernel_rfl) (by intro h; cases h)
    ·obtain rfl := Option.some.inj h
     exact loop_eQ [.lF c1] (by kernel_rfl) (by intro h; cases h)
def T_impl_areAddrs (n : Nat) (a0 : (List (List UInt8))) : Option Bool :=
  (L_impl_areAddrs_l0 a0 ((a0.length : Nat) : Int) n 0).bind fun o1 =>
  match o1 with
  | .inl o1_0 =>
    some o1_0
  | .inr (o1_1) =>
    some (decide (((a0.length : Nat) : Int) <= 8))
set_option maxRecDepth 100000 in
theorem fd_113 : cfg.funcs 113 = some (bodyOf Tryz.f113, Tryz.f113.ntmps, Tryz.f113.results.toList) := fn_of Tryz.func113 (by kernel_rfl) (by kernel_rfl)
theorem g_impl_areAddrs (n : Nat) (a0 : (List (List UInt8))) (r : Bool) (h : T_impl_areAddrs n a0 = some r) : (mach cfg).call 113 [] [.val false [.seq (eL (e_sl e_u8) a0)]] = some (.val false [.bool r], []) := by
  unfold T_impl_areAddrs at h
  obtain ⟨o1, ho1, h⟩ := bs h
  let p62 : List (Q cfg) := [.le (e_sl e_u8) a0, .lp (gl_impl_areAddrs_l0 a0 ((a0.length : Nat) : Int) _ 0 _ ho1)]
  rcases o1 with o1_0 | o1_1
  · try dsimp only at h
    obtain rfl := Option.some.inj h
    exact call_wQ p62 rfl fd_113 (by kernel_rfl)
  · try dsimp only at h
    obtain rfl := Option.some.inj h
    exact call_wQ (p62 ++ [.le (e_sl e_u8) a0, .gD ((a0.length : Nat) : Int) 8]) rfl fd_113 (by kernel_rfl)
theorem idx_tw (c : UInt8) : ∀ b : List UInt8, Lib.indexByte b c = if b.dropWhile (fun x => decide (x ≠ c)) = [] then -1 else (((b.takeWhile fun x => decide (x ≠ c)).length : Nat) : Int)
  | [] => rfl
  | x :: b => by
    have ih := idx_tw c b
    rw [Lib.indexByte, List.dropWhile_cons, List.takeWhile_cons]
    by_cases h : x = c
    · subst h; simp
    · have hb : (x == c) = false := by simpa using h
      have hd : decide (x ≠ c) = true := decide_eq_true h
      rw [hb, if_neg (by simp), if_pos hd, if_pos hd, ih]
      by_cases hd : b.dropWhile (fun x => decide (x ≠ c)) = []
      · rw [if_pos hd, if_pos hd]; rfl
      · rw [if_neg hd, if_neg hd, if_neg (by simp), List.length_cons]; omega
theorem bIndex_eq (a : List UInt8) (c : UInt8) : S_bytes_Index a [c] = some (Lib.indexByte a c) := by
  unfold S_bytes_Index S_bytes_IndexByte S_internal_bytealg_IndexByte
  rw [if_neg (by simp), if_pos (by simp)]
  rfl
theorem cut91 {a : List UInt8} (h : a.length <= 2 ^ 20) : S_bytes_Cut a [91] = some (nm91 a, (rs91 a).drop 1, decide (rs91 a ≠ [])) := by
  have hix : S_bytes_Index a [91] = some (if rs91 a = [] then -1 else (((nm91 a).length : Nat) : Int)) := by rw [bIndex_eq, idx_tw]; rfl
  unfold S_bytes_Cut
  have hlen := nm_len a
  by_cases hr : rs91 a = []
  · have hn := nm_rs a
    rw [hr, List.append_nil] at hn
    rw [hix, if_pos hr, Option.bind_some, if_neg (by omega), hr, hn]; rfl
  · obtain ⟨t, ht⟩ := rs_head hr
    have e : w64 ((((nm91 a).length : Nat) : Int) + ((([91] : List UInt8).length : Nat) : Int)) = (((nm91 a).length + 1 : Nat) : Int) := by
      show w64 ((((nm91 a).length : Nat) : Int) + 1) = _
      exact w64_succ (by omega)
    have hl2 := hlen
    rw [ht, List.length_cons] at hl2
    rw [hix, if_neg hr, Option.bind_some, if_pos (by omega), natO_nat, Option.bind_some, cut_to (by omega), Option.bind_some, nm_take, e, natO_nat, Option.bind_some, cut_from (by omega), Option.bind_some, decide_eq_true hr, <- List.drop_drop, nm_drop]
theorem hasSuf (s : List UInt8) (c : UInt8) (h : s.length <= 2 ^ 20) : S_bytes_HasSuffix s [c] = some (decide (s.getLast? = some c)) := by
  unfold S_bytes_HasSuffix
  rw [show ((([c] : List UInt8).length : Nat) : Int) = 1 from rfl]
  rcases List.eq_nil_or_concat s with rfl | ⟨l, x, rfl⟩
  · rw [if_neg (by simp)]; rfl
  · simp only [List.concat_eq_append, List.length_append, List.length_cons, List.length_nil] at h ⊢
    rw [if_pos (by omega), show w64 (((l.length + (0 + 1) : Nat) : Int) - 1) = ((l.length : Nat) : Int) by rw [w64_id (by omega) (by omega)]; omega, natO_nat, Option.bind_some, cut_from (by simp), Option.bind_some, List.drop_left]
    unfold S_bytes_Equal
    rw [Option.bind_some, List.getLast?_concat]
    congr 1
    exact decide_eq_decide.2 (by simp)
theorem cutSuf (s : List UInt8) (c : UInt8) (h : s.length <= 2 ^ 20) : S_bytes_CutSuffix s [c] = some (if s.getLast? = some c then (s.dropLast, true) else (s, false)) := by
  unfold S_bytes_CutSuffix
  rw [hasSuf s c h, Option.bind_some]
  by_cases hc : s.getLast? = some c
  · rw [decide_eq_true hc, if_pos hc]
    dsimp only
    have h0 : 0 < s.length := by
      cases s with
      | nil => simp at hc
      | cons x s => simp
    rw [show ((([c] : List UInt8).length : Nat) : Int) = 1 from rfl, w64_pred (by omega) h0, natO_nat, Option.bind_some, cut_to (by omega), Option.bind_some, List.dropLast_eq_take]
  · rw [decide_eq_false hc, if_neg hc]
theorem cutPre (s : List UInt8) (c : UInt8) : S_bytes_CutPrefix s [c] = some (if s[0]? = some c then (s.drop 1, true) else (s, false)) := by
  unfold S_bytes_CutPrefix S_bytes_HasPrefix S_bytes_Equal
  rw [show ((([c] : List UInt8).length : Nat) : Int) = ((1 : Nat) : Int) from rfl]
  cases s with
  | nil => rw [if_neg (by simp)]; rfl
  | cons x s =>
    rw [if_pos (by simp; omega), natO_nat, Option.bind_some, cut_to (by simp), Option.bind_some, Option.bind_some, Option.bind_some]
    show (match decide ([x] = [c]) with | true => _ | false => _) = _
    by_cases hc : x = c
    · subst hc
      rw [decide_eq_true rfl]
      dsimp only
      rw [Option.bind_some, cut_from (by simp), Option.bind_some]
      simp
    · rw [decide_eq_false (by simpa using hc), if_neg (by simpa using hc)]
theorem itoa_ok : ∀ n : Fin 100, S_strconv_Itoa ((n.val : Nat) : Int) = some (itoaL n.val) := by
  have h1 : ∀ n : Fin 100, S_internal_strconv_small ((n.val : Nat) : Int) = some (itoaL n.val) := by decide +kernel
  intro n
  unfold S_strconv_Itoa S_internal_strconv_Itoa S_internal_strconv_FormatInt
  rw [if_pos rfl, if_pos (by omega), if_pos (by omega), h1]; rfl
theorem atoi_itoa : ∀ n : Fin 100, Lib.atoiAll (itoaL n.val) = .ok ((n.val : Nat) : Int) := by decide +kernel
theorem dig_itoa : ∀ n : Fin 100, digB (itoaL n.val) = true := by decide +kernel
theorem digB_itoa {l : List UInt8} (h : digB l = true) : ∃ n : Fin 100, l = itoaL n.val := by
  unfold digB at h
  simp only [Bool.and_eq_true, Bool.not_eq_true', decide_eq_true_eq] at h
  obtain ⟨⟨⟨h1, h2⟩, h3⟩, h4⟩ := h
  match l, h1, h2 with
  | [x], _, _ =>
    simp only [List.all_cons, List.all_nil, Bool.and_true, inB, Bool.and_eq_true, decide_eq_true_eq] at h4
    refine ⟨⟨x.toNat - 48, by omega⟩, ?_⟩
    unfold itoaL
    rw [if_pos (by simp only; omega)]
    simp only [List.cons.injEq, and_true]
    refine UInt8.toNat_inj.1 ?_
    rw [UInt8.toNat_ofNat_of_lt' (by show _ < 256; omega)]; omega
  | [x, y], _, _ =>
    simp only [List.all_cons, List.all_nil, Bool.and_true, inB, Bool.and_eq_true, decide_eq_true_eq] at h4
    have hx : x.toNat ≠ 48 := fun e => by
      have : x = 48 := UInt8.toNat_inj.1 e
      subst this
      simp at h3
    refine ⟨⟨(x.toNat - 48) * 10 + (y.toNat - 48), by omega⟩, ?_⟩
    unfold itoaL
    rw [if_neg (by simp only; omega)]
    simp only [List.cons.injEq, and_true]
    constructor
    · refine UInt8.toNat_inj.1 ?_
      rw [UInt8.toNat_ofNat_of_lt' (by show _ < 256; omega)]; omega
    · refine UInt8.toNat_inj.1 ?_
      rw [UInt8.toNat_ofNat_of_lt' (by show _ < 256; omega)]; omega
theorem isNm_eq {a : List UInt8} (h : a.length <= 2 ^ 20) : S_impl_isName a = some (nameB a) := if_pos h
theorem isAddr_num {l : List UInt8} (hl : l.length <= 2 ^ 20) : ((S_strconv_Atoi l).bind fun ⟨n, e⟩ =>
    match e with
    | true => some false
    | false => (S_impl_in n 0 99).bind fun r13 =>
      match r13 with
      | true => (S_strconv_Itoa n).bind fun r15 => some (decide (r15 = l))
      | false => some false) = some (digB l) := by
  unfold S_strconv_Atoi
  rw [if_pos (by omega), Option.bind_some]
  cases hd : digB l with
  | true =>
    obtain ⟨n, rfl⟩ := digB_itoa hd
    have hr : atoiR (itoaL n.val) = (((n.val : Nat) : Int), false) := by unfold atoiR; rw [atoi_itoa n]
    have hn := n.isLt
    rw [hr]
    dsimp only
    rw [in_eq, Option.bind_some, decide_eq_true (show (0 : Int) <= ((n.val : Nat) : Int) ∧ ((n.val : Nat) : Int) <= 99 by omega)]
    dsimp only
    rw [itoa_ok n, Option.bind_some, decide_eq_true rfl]
  | false =>
    obtain ⟨n, e⟩ := atoiR l
    cases e with
    | true => rfl
    | false =>
      dsimp only
      rw [in_eq, Option.bind_some]
      by_cases hn : (0 : Int) <= n ∧ n <= 99
      · rw [decide_eq_true hn]
        dsimp only
        have := itoa_ok ⟨n.toNat, by omega⟩
        rw [show (((⟨n.toNat, by omega⟩ : Fin 100).val : Nat) : Int) = n by simp only; omega] at this
        rw [this, Option.bind_some]
        congr 1
        refine decide_eq_false fun e => ?_
        rw [<- e, dig_itoa] at hd; cases hd
      · rw [decide_eq_false hn]
theorem implAd_eq {a : List UInt8} (h : a.length <= 2 ^ 20) : S_impl_isAddr a = some (addrB a) := by
  unfold S_impl_isAddr
  have hlen := nm_len a
  rw [cut91 h, Option.bind_some]
  dsimp only
  rw [isNm_eq (by omega), Option.bind_some]
  unfold addrB
  cases hn : nameB (nm91 a) with
  | false => rfl
  | true =>
    dsimp only
    by_cases hr : rs91 a = []
    · rw [decide_eq_false (fun h => h hr), if_pos hr]; rfl
    rw [decide_eq_true hr, if_neg hr]
    dsimp only
    have ht : ((rs91 a).drop 1).length <= 2 ^ 20 := by rw [List.length_drop]; omega
    generalize (rs91 a).drop 1 = t at ht ⊢
    rw [cutSuf t 93 ht, Option.bind_some]
    by_cases h93 : t.getLast? = some 93
    · rw [if_pos h93, if_pos h93]
      dsimp only
      have hl : t.dropLast.length <= 2 ^ 20 := by rw [List.length_dropLast]; omega
      generalize t.dropLast = l at hl ⊢
      rw [cutPre, Option.bind_some]
      unfold insB
      by_cases h34 : l[0]? = some 34
      · rw [if_pos h34, if_pos h34]
        dsimp only
        rw [cutSuf _ 34 (by rw [List.length_drop]; omega), Option.bind_some]
        by_cases h2 : (l.drop 1).getLast? = some 34
        · rw [if_pos h2, if_pos h2]
          dsimp only
          rw [isNm_eq (by rw [List.length_dropLast, List.length_drop]; omega), Option.bind_some]; rfl
        · rw [if_neg h2, if_neg h2]; rfl
      · rw [if_neg h34, if_neg h34]
        dsimp only
        rw [cutSuf _ 34 hl, Option.bind_some]
        by_cases h2 : l.getLast? = some 34
        · rw [if_pos h2]
          dsimp only
          have hd : digB l = false := by
            unfold digB
            have : l.all (inB 48 57) = false := by
              rcases List.eq_nil_or_concat l with rfl | ⟨k, x, rfl⟩
              · simp at h2
              · rw [List.concat_eq_append, List.getLast?_concat] at h2
                injection h2 with h2
                subst h2
                simp [inB]
            rw [this, Bool.and_false]
          rw [hd]; rfl
        · rw [if_neg h2]
          dsimp only
          exact isAddr_num hl
    · rw [if_neg h93, if_neg h93]
      dsimp only
      rw [cutPre, Option.bind_some]
      by_cases h34 : t[0]? = some 34
      · rw [if_pos h34]
        dsimp only
        rw [cutSuf _ 34 (by rw [List.length_drop]; omega), Option.bind_some]
        rfl
      · rw [if_neg h34]
        dsimp only
        rw [cutSuf _ 34 ht, Option.bind_some]
        by_cases h2 : t.getLast? = some 34
        · rw [if_pos h2]; rfl
        · rw [if_neg h2]
          dsimp only
          unfold S_strconv_Atoi
          rw [if_pos (by omega), Option.bind_some]
          obtain ⟨n, e⟩ := atoiR t
          cases e <;> rfl
theorem areAddrs_loop {a : List (List UInt8)} (hs : ∀ x ∈ a, x.length <= 2 ^ 20) (ha : a.length <= 2 ^ 40) : ∀ (d i m : Nat), i + d = a.length → d < m → ∃ z, L_impl_areAddrs_l0 a ((a.length : Nat) : Int) m (i : Int) = some (if gAll addrB id a i d = true then .inr z else .inl false) := by
  intro d
  induction d with
  | zero =>
    intro i m hi hm
    obtain ⟨m, rfl, _⟩ := fuel hm
    exact ⟨_, by rw [L_impl_areAddrs_l0, if_neg (by omega)]; rfl⟩
  | succ d ih =>
    intro i m hi hm
    obtain ⟨m, rfl, hm'⟩ := fuel hm
    have hil : i < a.length := by omega
    rw [L_impl_areAddrs_l0, if_pos (by omega), natO_nat, Option.bind_some, get_some hil, Option.bind_some, implAd_eq (hs _ (List.getElem_mem hil)), Option.bind_some, gAll_succ]
    obtain ⟨z, hz⟩ := ih (i + 1) m (by omega) (by omega)
    cases hx : addrB a[i] with
    | false =>
      refine ⟨0, ?_⟩
      have : gOk addrB id a i = false := by
        unfold gOk; rw [get_some hil]; simp [hx]
      rw [this]; rfl
    | true =>
      dsimp only
      by_cases h0 : 0 < i
      · rw [if_pos (by omega), w64_pred (by omega) h0, natO_nat, Option.bind_some, get_some (show i - 1 < a.length by omega), Option.bind_some, gOk_eq hil h0, hx, Bool.true_and, w64_succ (by omega), hz]
        unfold S_bytes_Compare S_internal_bytealg_Compare
        simp only [Option.bind_some]
        by_cases hl : Op.bytesLess a[i - 1] a[i] = true
        · rw [if_neg (by rw [less_cmp]; exact fun h => h hl), show Op.bytesLess (id a[i - 1]) (id a[i]) = true from hl, Bool.true_and]; exact ⟨z, rfl⟩
        · rw [if_pos (by rw [less_cmp]; exact hl), show Op.bytesLess (id a[i - 1]) (id a[i]) = false from Bool.eq_false_iff.2 hl]; exact ⟨z, rfl⟩
      · obtain rfl : i = 0 := by omega
        rw [if_neg (by omega), gOk_zero hil, hx, Bool.true_and, w64_succ (by omega), hz]
        exact ⟨z, rfl⟩
def S_impl_areAddrs (a0 : (List (List UInt8))) : Option Bool := if bsz a0 <= 2 ^ 20 then some (addrsB a0) else none
theorem spec_impl_areAddrs (a0 : (List (List UInt8))) (r : Bool) (h : S_impl_areAddrs a0 = some r) : ∃ n, T_impl_areAddrs n a0 = some r := by
  unfold S_impl_areAddrs at h
  obtain ⟨ha, h⟩ := need_c h
  have hl := bsz_len a0
  obtain ⟨z, hz⟩ := areAddrs_loop (a := a0) (fun x hx => by have := bsz_mem hx; omega) (by omega) a0.length 0 (a0.length + 1) (by omega) (by omega)
  refine ⟨a0.length + 1, ?_⟩
  unfold T_impl_areAddrs
  rw [show ((0 : Nat) : Int) = 0 from rfl] at hz
  rw [<- h, hz, Option.bind_some]
  unfold addrsB
  cases gAll addrB id a0 0 a0.length
  · rw [Bool.and_false]; rfl
  · rw [Bool.and_true]
    show some (decide (((a0.length : Nat) : Int) <= 8)) = _
    congr 1
    exact decide_eq_decide.2 (by omega)
theorem ok_impl_areAddrs (a0 : (List (List UInt8))) (r : Bool) (h : S_impl_areAddrs a0 = some r) : (mach cfg).call 113 [] [.val false [.seq (eL (e_sl e_u8) a0)]] = some (.val false [.bool r], []) := by
  obtain ⟨n, hn⟩ := spec_impl_areAddrs a0 r h
  exact g_impl_areAddrs n a0 r hn
def L_impl_isState_l0 (v0 : (List GEntry)) (v1 : Int) (a0 : GState) : Nat → Int → Option (Bool ⊕ Int)
  | 0, _ => none
  | m + 1, v2 =>
    if v2 < v1 then
      (natO v2).bind fun i2 =>
      (v0[i2]?).bind fun x3 =>
      (S_impl_isAddr x3.Addr).bind fun r4 =>
      match r4 with
      | true =>
        if 0 < v2 then
          (natO (w64 (v2 - 1))).bind fun i7 =>
          (a0.Entries[i7]?).bind fun x8 =>
          (S_bytes_Compare x8.Addr x3.Addr).bind fun r9 =>
          if 0 <= r9 then
            some (.inl false)
          else
            (S_impl_isKnownMap x3.Val).bind fun r11 =>
            match r11 with
            | true =>
              (S_impl_areAddrs x3.Deps).bind fun r13 =>
              match r13 with
              | true =>
                (S_impl_in x3.Turned 1 a0.Serial).bind fun r15 =>
                match r15 with
                | true =>
                  L_impl_isState_l0 v0 v1 a0 m (w64 (v2 + 1))
                | false =>
                  some (.inl false)
              | false =>
                some (.inl false)
            | false =>
              some (.inl false)
        else
          (S_impl_isKnownMap x3.Val).bind fun r7 =>
          match r7 with
          | true =>
            (S_impl_areAddrs x3.Deps).bind fun r9 =>
            match r9 with
            | true =>
              (S_impl_in x3.Turned 1 a0.Serial).bind fun r11 =>
              match r11 with
              | true =>
                L_impl_isState_l0 v0 v1 a0 m (w64 (v2 + 1))
              | false =>
                some (.inl false)
            | false =>
              some (.inl false)
          | false =>
            some (.inl false)
      | false =>
        some (.inl false)
    else
      some (.inr v2)
theorem gl_impl_isState_l0 (v0 : (List GEntry)) (v1 : Int) (a0 : GState) (m : Nat) : ∀ (v2 : Int) (o : (Bool ⊕ Int)), L_impl_isState_l0 v0 v1 a0 m v2 = some o → (mach cfg).loop 66 (loopB Tryz.f66 0) ⟨[(1, .val false [.ptr 0 0]), (18, .val false [.seq (eL e_GEntry v0)]), (19, .val false [.int .i64 v1]), (20, .val false [.int .i64 v2])], [.var [.int .i64 a0.Serial, .bool a0.Open, .seq (eL e_u8 a0.Pending), .int .i64 a0.Act, .seq (eL e_GEntry a0.Entries)]], 0⟩ = some (match o with | .inl o_0 => (.ret, (⟨[(2, .val false [.bool o_0])], [], 0⟩ : S)) | .inr (o_1) => (.exit 0, (⟨[(1, .val false [.ptr 0 0]), (18, .val false [.seq (eL e_GEntry v0)]), (19, .val false [.int .i64 v1]), (20, .val false [.int .i64 o_1]), (21, .val false [.bool false])], [.var [.int .i64 a0.Serial, .bool a0.Open, .seq (eL e_u8 a0.Pending), .int .i64 a0.Act, .seq (eL e_GEntry a0.Entries)]], 0⟩ : S))) := by
  induction m with
  | zero => intro v2 o h; cases h
  | succ m ih =>
    intro v2 o h
    rw [L_impl_isState_l0] at h
    rcases ite_some h with ⟨c1, h⟩ | ⟨c1, h⟩
    ·obtain ⟨i2, hi2, h⟩ := bs h
     obtain ⟨x3, hx3, h⟩ := bs h
     obtain ⟨r4, hr4, h⟩ := bs h
     let p63 : List (Q cfg) := [.lT c1, .na hi2, .ix hx3 (eq_GEntry x3), .cl (ok_impl_isAddr x3.Addr _ hr4)]
     cases r4 with
     | true =>
      try dsimp only at h
      let p64 : List (Q cfg) := p63 ++ [.nt true]
      rcases ite_some h with ⟨c6, h⟩ | ⟨c6, h⟩
      ·obtain ⟨i7, hi7, h⟩ := bs h
       obtain ⟨x8, hx8, h⟩ := bs h
       obtain ⟨r9, hr9, h⟩ := bs h
       let p65 : List (Q cfg) := p64 ++ [.lT c6, .su v2 1, .na hi7, .ix hx8 (eq_GEntry x8), .cl (ok_bytes_Compare x8.Addr x3.Addr _ hr9)]
       rcases ite_some h with ⟨c10, h⟩ | ⟨c10, h⟩
       ·obtain rfl := Option.some.inj h
        exact loop_eQ (p65 ++ [.gT c10]) (by kernel_rfl) (by intro h; cases h)
       ·obtain ⟨r11, hr11, h⟩ := bs h
        let p66 : List (Q cfg) := p65 ++ [.gF c10, .cl (ok_impl_isKnownMap x3.Val _ hr11)]
        cases r11 with
        | true =>
         try dsimp only at h
         obtain ⟨r13, hr13, h⟩ := bs h
         let p67 : List (Q cfg) := p66 ++ [.nt true, .cl (ok_impl_areAddrs x3.Deps _ hr13)]
         cases r13 with
         | true =>
          try dsimp only at h
          obtain ⟨r15, hr15, h⟩ := bs h
          cases r15 with
          | true =>
           try dsimp only at h
           exact loop_nQ (p67 ++ [.nt true, .cl (ok_impl_in x3.Turned 1 a0.Serial _ hr15), .nt true, .ad v2 1]) (by kernel_rfl) (ih (w64 (v2 + 1)) o h)
          | false =>
           try dsimp only at h
           obtain rfl := Option.some.inj h
           exact loop_eQ (p67 ++ [.nt true, .cl (ok_impl_in x3.Turned 1 a0.Serial _ hr15), .nt false]) (by kernel_rfl) (by intro h; cases h)
         | false =>
          try dsimp only at h
          obtain rfl := Option.some.inj h
          exact loop_eQ (p67 ++ [.nt false]) (by kernel_rfl) (by intro h; cases h)
        | false =>
         try dsimp only at h
         obtain rfl := Option.some.inj h
         exact loop_eQ (p66 ++ [.nt false]) (by kernel_rfl) (by intro h; cases h)
      ·obtain ⟨r7, hr7, h⟩ := bs h
       let p68 : List (Q cfg) := p64 ++ [.lF c6, .cl (ok_impl_isKnownMap x3.Val _ hr7)]
       cases r7 with
       | true =>
        try dsimp only at h
        obtain ⟨r9, hr9, h⟩ := bs h
        let p69 : List (Q cfg) := p68 ++ [.nt true, .cl (ok_impl_areAddrs x3.Deps _ hr9)]
        cases r9 with
        | true =>
         try dsimp only at h
         obtain ⟨r11, hr11, h⟩ := bs h
         cases r11 with
         | true =>
          try dsimp only at h
          exact loop_nQ (p69 ++ [.nt true, .cl (ok_impl_in x3.Turned 1 a0.Serial _ hr11), .nt true, .ad v2 1]) (by kernel_rfl) (ih (w64 (v2 + 1)) o h)
         | false =>
          try dsimp only at h
          obtain rfl := Option.some.inj h
          exact loop_eQ (p69 ++ [.nt true, .cl (ok_impl_in x3.Turned 1 a0.Serial _ hr11), .nt false]) (by kernel_rfl) (by intro h; cases h)
        | false =>
         try dsimp only at h
         obtain rfl := Option.some.inj h
         exact loop_eQ (p69 ++ [.nt false]) (by kernel_rfl) (by intro h; cases h)
       | false =>
        try dsimp only at h
        obtain rfl := Option.some.inj h
        exact loop_eQ (p68 ++ [.nt false]) (by kernel_rfl) (by intro h; cases h)
     | false =>
      try dsimp only at h
      obtain rfl := Option.some.inj h
      exact loop_eQ (p63 ++ [.nt false]) (by kernel_rfl) (by intro h; cases h)
    ·obtain rfl := Option.some.inj h
     exact loop_eQ [.lF c1] (by kernel_rfl) (by intro h; cases h)
def T_impl_isState (n : Nat) (a0 : GState) : Option Bool :=
  (S_impl_in a0.Serial 0 1000000).bind fun r1 =>
  match r1 with
  | true =>
    if 16 < ((a0.Entries.length : Nat) : Int) then
      some false
    else
      (L_impl_isState_l0 a0.Entries ((a0.Entries.length : Nat) : Int) a0 n 0).bind fun o4 =>
      match o4 with
      | .inl o4_0 =>
        some o4_0
      | .inr (o4_1) =>
        if ((a0.Pending.length : Nat) : Int) = 0 then
          some (decide (a0.Act = 0))
        else
          (S_impl_State_entryAt a0 a0.Pending).bind fun ⟨r6_0, r6_1⟩ =>
          match a0.Open with
          | true =>
            (S_impl_isAddr a0.Pending).bind fun r8 =>
            match r8 with
            | true =>
              (S_impl_in a0.Act 1 4).bind fun r10 =>
              match r10 with
              | true =>
                match r6_1 with
                | true =>
                  if a0.Act = 1 then
                    some false
                  else
                    some true
                | false =>
                  if a0.Act = 1 then
                    some true
                  else
                    some false
              | false =>
                some false
            | false =>
              some false
          | false =>
            some false
  | false =>
    some false
set_option maxRecDepth 100000 in
theorem fd_66 : cfg.funcs 66 = some (bodyOf Tryz.f66, Tryz.f66.ntmps, Tryz.f66.results.toList) := fn_of Tryz.func66 (by kernel_rfl) (by kernel_rfl)
theorem g_impl_isState (n : Nat) (a0 : GState) (r : Bool) (h : T_impl_isState n a0 = some r) : (mach cfg).call 66 [] [.val true [.int .i64 a0.Serial, .bool a0.Open, .seq (eL e_u8 a0.Pending), .int .i64 a0.Act, .seq (eL e_GEntry a0.Entries)]] = some (.val false [.bool r], []) := by
  unfold T_impl_isState at h
  obtain ⟨r1, hr1, h⟩ := bs h
  cases r1 with
  | true =>
   try dsimp only at h
   rcases ite_some h with ⟨c3, h⟩ | ⟨c3, h⟩
   ·obtain rfl := Option.some.inj h
    exact call_wQ [.cl (ok_impl_in a0.Serial 0 1000000 _ hr1), .nt true, .le e_GEntry a0.Entries, .lT c3] rfl fd_66 (by kernel_rfl)
   ·obtain ⟨o4, ho4, h⟩ := bs h
    rcases o4 with o4_0 | o4_1
    · try dsimp only at h
      obtain rfl := Option.some.inj h
      exact call_wQ [.cl (ok_impl_in a0.Serial 0 1000000 _ hr1), .nt true, .le e_GEntry a0.Entries, .lF c3, .le e_GEntry a0.Entries, .lp (gl_impl_isState_l0 a0.Entries ((a0.Entries.length : Nat) : Int) a0 _ 0 _ ho4)] rfl fd_66 (by kernel_rfl)
    · try dsimp only at h
      rcases ite_some h with ⟨c5, h⟩ | ⟨c5, h⟩
      ·obtain rfl := Option.some.inj h
       exact call_wQ [.cl (ok_impl_in a0.Serial 0 1000000 _ hr1), .nt true, .le e_GEntry a0.Entries, .lF c3, .le e_GEntry a0.Entries, .lp (gl_impl_isState_l0 a0.Entries ((a0.Entries.length : Nat) : Int) a0 _ 0 _ ho4), .le e_u8 a0.Pending, .eT c5, .eD a0.Act 0] rfl fd_66 (by kernel_rfl)
      ·obtain ⟨⟨r6_0, r6_1⟩, hr6, h⟩ := bs h
       try dsimp only at h
       cases c7 : a0.Open with
       | true =>
        rw [c7] at h
        try dsimp only at h
        obtain ⟨r8, hr8, h⟩ := bs h
        cases r8 with
        | true =>
         try dsimp only at h
         obtain ⟨r10, hr10, h⟩ := bs h
         cases r10 with
         | true =>
          try dsimp only at h
          cases r6_1 with
          | true =>
           try dsimp only at h
           rcases ite_some h with ⟨c13, h⟩ | ⟨c13, h⟩
           ·obtain rfl := Option.some.inj h
            exact call_wQ [.cl (ok_impl_in a0.Serial 0 1000000 _ hr1), .nt true, .le e_GEntry a0.Entries, .lF c3, .le e_GEntry a0.Entries, ⟨.loop 66 (loopB Tryz.f66 0) ⟨[(1, .val false [.ptr 0 0]), (18, .val false [.seq (eL e_GEntry a0.Entries)]), (19, .val false [.int .i64 ((a0.Entries.length : Nat) : Int)]), (20, .val false [.int .i64 0])], [.var [.int .i64 a0.Serial, .bool true, .seq (eL e_u8 a0.Pending), .int .i64 a0.Act, .seq (eL e_GEntry a0.Entries)]], 0⟩, .x (.exit 0) ⟨[(1, .val false [.ptr 0 0]), (18, .val false [.seq (eL e_GEntry a0.Entries)]), (19, .val false [.int .i64 ((a0.Entries.length : Nat) : Int)]), (20, .val false [.int .i64 o4_1]), (21, .val false [.bool false])], [.var [.int .i64 a0.Serial, .bool true, .seq (eL e_u8 a0.Pending), .int .i64 a0.Act, .seq (eL e_GEntry a0.Entries)]], 0⟩, (A.loop (by have q := gl_impl_isState_l0 a0.Entries ((a0.Entries.length : Nat) : Int) a0 _ 0 _ ho4; rw [c7] at q; exact q))⟩, .le e_u8 a0.Pending, .eF c5, ⟨.call 74 [] [.val true [.int .i64 a0.Serial, .bool true, .seq (eL e_u8 a0.Pending), .int .i64 a0.Act, .seq (eL e_GEntry a0.Entries)], .val false [.seq (eL e_u8 a0.Pending)]], .r (.tup [(false, [.int .i64 r6_0]), (false, [.bool true])]) [], (A.call (by have q := ok_impl_State_entryAt a0 a0.Pending _ hr6; rw [c7] at q; exact q))⟩, .cl (ok_impl_isAddr a0.Pending _ hr8), .cl (ok_impl_in a0.Act 1 4 _ hr10), .eT c13, .nt true, ⟨.eqB true false, .b false, rfl⟩] rfl fd_66 (by kernel_rfl)
           ·obtain rfl := Option.some.inj h
            exact call_wQ [.cl (ok_impl_in a0.Serial 0 1000000 _ hr1), .nt true, .le e_GEntry a0.Entries, .lF c3, .le e_GEntry a0.Entries, ⟨.loop 66 (loopB Tryz.f66 0) ⟨[(1, .val false [.ptr 0 0]), (18, .val false [.seq (eL e_GEntry a0.Entries)]), (19, .val false [.int .i64 ((a0.Entries.length : Nat) : Int)]), (20, .val false [.int .i64 0])], [.var [.int .i64 a0.Serial, .bool true, .seq (eL e_u8 a0.Pending), .int .i64 a0.Act, .seq (eL e_GEntry a0.Entries)]], 0⟩, .x (.exit 0) ⟨[(1, .val false [.ptr 0 0]), (18, .val false [.seq (eL e_GEntry a0.Entries)]), (19, .val false [.int .i64 ((a0.Entries.length : Nat) : Int)]), (20, .val false [.int .i64 o4_1]), (21, .val false [.bool false])], [.var [.int .i64 a0.Serial, .bool true, .seq (eL e_u8 a0.Pending), .int .i64 a0.Act, .seq (eL e_GEntry a0.Entries)]], 0⟩, (A.loop (by have q := gl_impl_isState_l0 a0.Entries ((a0.Entries.length : Nat) : Int) a0 _ 0 _ ho4; rw [c7] at q; exact q))⟩, .le e_u8 a0.Pending, .eF c5, ⟨.call 74 [] [.val true [.int .i64 a0.Serial, .bool true, .seq (eL e_u8 a0.Pending), .int .i64 a0.Act, .seq (eL e_GEntry a0.Entries)], .val false [.seq (eL e_u8 a0.Pending)]], .r (.tup [(false, [.int .i64 r6_0]), (false, [.bool true])]) [], (A.call (by have q := ok_impl_State_entryAt a0 a0.Pending _ hr6; rw [c7] at q; exact q))⟩, .cl (ok_impl_isAddr a0.Pending _ hr8), .cl (ok_impl_in a0.Act 1 4 _ hr10), .eF c13, .nt false, ⟨.eqB true true, .b true, rfl⟩] rfl fd_66 (by kernel_rfl)
          | false =>
           try dsimp only at h
           rcases ite_some h with ⟨c13, h⟩ | ⟨c13, h⟩
           ·obtain rfl := Option.some.inj h
            exact call_wQ [.cl (ok_impl_in a0.Serial 0 1000000 _ hr1), .nt true, .le e_GEntry a0.Entries, .lF c3, .le e_GEntry a0.Entries, ⟨.loop 66 (loopB Tryz.f66 0) ⟨[(1, .val false [.ptr 0 0]), (18, .val false [.seq (eL e_GEntry a0.Entries)]), (19, .val false [.int .i64 ((a0.Entries.length : Nat) : Int)]), (20, .val false [.int .i64 0])], [.var [.int .i64 a0.Serial, .bool true, .seq (eL e_u8 a0.Pending), .int .i64 a0.Act, .seq (eL e_GEntry a0.Entries)]], 0⟩, .x (.exit 0) ⟨[(1, .val false [.ptr 0 0]), (18, .val false [.seq (eL e_GEntry a0.Entries)]), (19, .val false [.int .i64 ((a0.Entries.length : Nat) : Int)]), (20, .val false [.int .i64 o4_1]), (21, .val false [.bool false])], [.var [.int .i64 a0.Serial, .bool true, .seq (eL e_u8 a0.Pending), .int .i64 a0.Act, .seq (eL e_GEntry a0.Entries)]], 0⟩, (A.loop (by have q := gl_impl_isState_l0 a0.Entries ((a0.Entries.length : Nat) : Int) a0 _ 0 _ ho4; rw [c7] at q; exact q))⟩, .le e_u8 a0.Pending, .eF c5, ⟨.call 74 [] [.val true [.int .i64 a0.Serial, .bool true, .seq (eL e_u8 a0.Pending), .int .i64 a0.Act, .seq (eL e_GEntry a0.Entries)], .val false [.seq (eL e_u8 a0.Pending)]], .r (.tup [(false, [.int .i64 r6_0]), (false, [.bool false])]) [], (A.call (by have q := ok_impl_State_entryAt a0 a0.Pending _ hr6; rw [c7] at q; exact q))⟩, .cl (ok_impl_isAddr a0.Pending _ hr8), .cl (ok_impl_in a0.Act 1 4 _ hr10), .eT c13, .nt true, ⟨.eqB false false, .b true, rfl⟩] rfl fd_66 (by kernel_rfl)
           ·obtain rfl := Option.some.inj h
            exact call_wQ [.cl (ok_impl_in a0.Serial 0 1000000 _ hr1), .nt true, .le e_GEntry a0.Entries, .lF c3, .le e_GEntry a0.Entries, ⟨.loop 66 (loopB Tryz.f66 0) ⟨[(1, .val false [.ptr 0 0]), (18, .val false [.seq (eL e_GEntry a0.Entries)]), (19, .val false [.int .i64 ((a0.Entries.length : Nat) : Int)]), (20, .val false [.int .i64 0])], [.var [.int .i64 a0.Serial, .bool true, .seq (eL e_u8 a0.Pending), .int .i64 a0.Act, .seq (eL e_GEntry a0.Entries)]], 0⟩, .x (.exit 0) ⟨[(1, .val false [.ptr 0 0]), (18, .val false [.seq (eL e_GEntry a0.Entries)]), (19, .val false [.int .i64 ((a0.Entries.length : Nat) : Int)]), (20, .val false [.int .i64 o4_1]), (21, .val false [.bool false])], [.var [.int .i64 a0.Serial, .bool true, .seq (eL e_u8 a0.Pending), .int .i64 a0.Act, .seq (eL e_GEntry a0.Entries)]], 0⟩, (A.loop (by have q := gl_impl_isState_l0 a0.Entries ((a0.Entries.length : Nat) : Int) a0 _ 0 _ ho4; rw [c7] at q; exact q))⟩, .le e_u8 a0.Pending, .eF c5, ⟨.call 74 [] [.val true [.int .i64 a0.Serial, .bool true, .seq (eL e_u8 a0.Pending), .int .i64 a0.Act, .seq (eL e_GEntry a0.Entries)], .val false [.seq (eL e_u8 a0.Pending)]], .r (.tup [(false, [.int .i64 r6_0]), (false, [.bool false])]) [], (A.call (by have q := ok_impl_State_entryAt a0 a0.Pending _ hr6; rw [c7] at q; exact q))⟩, .cl (ok_impl_isAddr a0.Pending _ hr8), .cl (ok_impl_in a0.Act 1 4 _ hr10), .eF c13, .nt false, ⟨.eqB false true, .b false, rfl⟩] rfl fd_66 (by kernel_rfl)
         | false =>
          try dsimp only at h
          obtain rfl := Option.some.inj h
          exact call_wQ [.cl (ok_impl_in a0.Serial 0 1000000 _ hr1), .nt true, .le e_GEntry a0.Entries, .lF c3, .le e_GEntry a0.Entries, ⟨.loop 66 (loopB Tryz.f66 0) ⟨[(1, .val false [.ptr 0 0]), (18, .val false [.seq (eL e_GEntry a0.Entries)]), (19, .val false [.int .i64 ((a0.Entries.length : Nat) : Int)]), (20, .val false [.int .i64 0])], [.var [.int .i64 a0.Serial, .bool true, .seq (eL e_u8 a0.Pending), .int .i64 a0.Act, .seq (eL e_GEntry a0.Entries)]], 0⟩, .x (.exit 0) ⟨[(1, .val false [.ptr 0 0]), (18, .val false [.seq (eL e_GEntry a0.Entries)]), (19, .val false [.int .i64 ((a0.Entries.length : Nat) : Int)]), (20, .val false [.int .i64 o4_1]), (21, .val false [.bool false])], [.var [.int .i64 a0.Serial, .bool true, .seq (eL e_u8 a0.Pending), .int .i64 a0.Act, .seq (eL e_GEntry a0.Entries)]], 0⟩, (A.loop (by have q := gl_impl_isState_l0 a0.Entries ((a0.Entries.length : Nat) : Int) a0 _ 0 _ ho4; rw [c7] at q; exact q))⟩, .le e_u8 a0.Pending, .eF c5, ⟨.call 74 [] [.val true [.int .i64 a0.Serial, .bool true, .seq (eL e_u8 a0.Pending), .int .i64 a0.Act, .seq (eL e_GEntry a0.Entries)], .val false [.seq (eL e_u8 a0.Pending)]], .r (.tup [(false, [.int .i64 r6_0]), (false, [.bool r6_1])]) [], (A.call (by have q := ok_impl_State_entryAt a0 a0.Pending _ hr6; rw [c7] at q; exact q))⟩, .cl (ok_impl_isAddr a0.Pending _ hr8), .cl (ok_impl_in a0.Act 1 4 _ hr10)] rfl fd_66 (by kernel_rfl)
        | false =>
         try dsimp only at h
         obtain rfl := Option.some.inj h
         exact call_wQ [.cl (ok_impl_in a0.Serial 0 1000000 _ hr1), .nt true, .le e_GEntry a0.Entries, .lF c3, .le e_GEntry a0.Entries, ⟨.loop 66 (loopB Tryz.f66 0) ⟨[(1, .val false [.ptr 0 0]), (18, .val false [.seq (eL e_GEntry a0.Entries)]), (19, .val false [.int .i64 ((a0.Entries.length : Nat) : Int)]), (20, .val false [.int .i64 0])], [.var [.int .i64 a0.Serial, .bool true, .seq (eL e_u8 a0.Pending), .int .i64 a0.Act, .seq (eL e_GEntry a0.Entries)]], 0⟩, .x (.exit 0) ⟨[(1, .val false [.ptr 0 0]), (18, .val false [.seq (eL e_GEntry a0.Entries)]), (19, .val false [.int .i64 ((a0.Entries.length : Nat) : Int)]), (20, .val false [.int .i64 o4_1]), (21, .val false [.bool false])], [.var [.int .i64 a0.Serial, .bool true, .seq (eL e_u8 a0.Pending), .int .i64 a0.Act, .seq (eL e_GEntry a0.Entries)]], 0⟩, (A.loop (by have q := gl_impl_isState_l0 a0.Entries ((a0.Entries.length : Nat) : Int) a0 _ 0 _ ho4; rw [c7] at q; exact q))⟩, .le e_u8 a0.Pending, .eF c5, ⟨.call 74 [] [.val true [.int .i64 a0.Serial, .bool true, .seq (eL e_u8 a0.Pending), .int .i64 a0.Act, .seq (eL e_GEntry a0.Entries)], .val false [.seq (eL e_u8 a0.Pending)]], .r (.tup [(false, [.int .i64 r6_0]), (false, [.bool r6_1])]) [], (A.call (by have q := ok_impl_State_entryAt a0 a0.Pending _ hr6; rw [c7] at q; exact q))⟩, .cl (ok_impl_isAddr a0.Pending _ hr8)] rfl fd_66 (by kernel_rfl)
       | false =>
        rw [c7] at h
        try dsimp only at h
        obtain rfl := Option.some.inj h
        exact call_wQ [.cl (ok_impl_in a0.Serial 0 1000000 _ hr1), .nt true, .le e_GEntry a0.Entries, .lF c3, .le e_GEntry a0.Entries, ⟨.loop 66 (loopB Tryz.f66 0) ⟨[(1, .val false [.ptr 0 0]), (18, .val false [.seq (eL e_GEntry a0.Entries)]), (19, .val false [.int .i64 ((a0.Entries.length : Nat) : Int)]), (20, .val false [.int .i64 0])], [.var [.int .i64 a0.Serial, .bool false, .seq (eL e_u8 a0.Pending), .int .i64 a0.Act, .seq (eL e_GEntry a0.Entries)]], 0⟩, .x (.exit 0) ⟨[(1, .val false [.ptr 0 0]), (18, .val false [.seq (eL e_GEntry a0.Entries)]), (19, .val false [.int .i64 ((a0.Entries.length : Nat) : Int)]), (20, .val false [.int .i64 o4_1]), (21, .val false [.bool false])], [.var [.int .i64 a0.Serial, .bool false, .seq (eL e_u8 a0.Pending), .int .i64 a0.Act, .seq (eL e_GEntry a0.Entries)]], 0⟩, (A.loop (by have q := gl_impl_isState_l0 a0.Entries ((a0.Entries.length : Nat) : Int) a0 _ 0 _ ho4; rw [c7] at q; exact q))⟩, .le e_u8 a0.Pending, .eF c5, ⟨.call 74 [] [.val true [.int .i64 a0.Serial, .bool false, .seq (eL e_u8 a0.Pending), .int .i64 a0.Act, .seq (eL e_GEntry a0.Entries)], .val false [.seq (eL e_u8 a0.Pending)]], .r (.tup [(false, [.int .i64 r6_0]), (false, [.bool r6_1])]) [], (A.call (by have q := ok_impl_State_entryAt a0 a0.Pending _ hr6; rw [c7] at q; exact q))⟩] rfl fd_66 (by kernel_rfl)
  | false =>
   try dsimp only at h
   obtain rfl := Option.some.inj h
   exact call_wQ [.cl (ok_impl_in a0.Serial 0 1000000 _ hr1), .nt false] rfl fd_66 (by kernel_rfl)
theorem kV_eq {v : GValue} (h : vsz v <= 2 ^ 20) : S_impl_isValue v = some (valB v) := by
  unfold S_impl_isValue S_impl_isShaped S_impl_Value_parts valB
  rw [if_pos ⟨h, by decide, by decide⟩, Option.bind_some]
  rw [show (5 : Int).toNat = 5 from rfl]
  cases hs : shV 5 v
  · simp
  · dsimp only
    rw [if_pos h, Option.bind_some]
    simp
theorem implKm_eq {v : GValue} (h : vsz v <= 2 ^ 20) : S_impl_isKnownMap v = some (kmapB v) := by
  unfold S_impl_isKnownMap S_impl_isMap kmapB
  by_cases h5 : v.Kind = 5
  · rw [if_pos h5, kV_eq h, Option.bind_some, decide_eq_true h5, Bool.true_and]
    cases hv : valB v with
    | false => rfl
    | true =>
      simp only [Bool.true_and]
      unfold S_impl_Value_known
      rw [if_pos (by omega)]; rfl
  · rw [if_neg h5, decide_eq_false h5]; rfl
theorem implAds_eq {l : List (List UInt8)} (h : bsz l <= 2 ^ 20) : S_impl_areAddrs l = some (addrsB l) := if_pos h
theorem isState_loop {s : GState} (hs : eszs s.Entries <= 2 ^ 20) : ∀ (d i m : Nat), i + d = s.Entries.length → d < m → ∃ z, L_impl_isState_l0 s.Entries ((s.Entries.length : Nat) : Int) s m (i : Int) = some (if gAll (entB s.Serial) GEntry.Addr s.Entries i d = true then .inr z else .inl false) := by
  have hlen := eszs_len s.Entries
  intro d
  induction d with
  | zero =>
    intro i m hi hm
    obtain ⟨m, rfl, _⟩ := fuel hm
    exact ⟨_, by rw [L_impl_isState_l0, if_neg (by omega)]; rfl⟩
  | succ d ih =>
    intro i m hi hm
    obtain ⟨m, rfl, hm'⟩ := fuel hm
    have hil : i < s.Entries.length := by omega
    have hz0 := eszs_mem (List.getElem_mem hil)
    obtain ⟨z, hz⟩ := ih (i + 1) m (by omega) (by omega)
    rw [L_impl_isState_l0, if_pos (by omega), natO_nat, Option.bind_some, get_some hil, Option.bind_some, gAll_succ]
    unfold esz at hz0
    rw [implAd_eq (by omega), Option.bind_some, implKm_eq (by omega), Option.bind_some, implAds_eq (by omega), Option.bind_some, in_eq, Option.bind_some, w64_succ (by omega), hz]
    generalize gAll _ GEntry.Addr s.Entries (i + 1) d = g
    by_cases h0 : 0 < i
    · rw [gOk_eq hil h0]
      unfold entB
      cases addrB s.Entries[i].Addr with
      | false => exact ⟨0, rfl⟩
      | true =>
        dsimp only
        rw [if_pos (by omega), w64_pred (by omega) h0, natO_nat, Option.bind_some, get_some (show i - 1 < s.Entries.length by omega), Option.bind_some]
        unfold S_bytes_Compare S_internal_bytealg_Compare
        simp only [Option.bind_some]
        have hc := less_cmp s.Entries[i - 1].Addr s.Entries[i].Addr
        generalize Lib.compareBytes s.Entries[i - 1].Addr s.Entries[i].Addr = q at hc ⊢
        generalize Op.bytesLess s.Entries[i - 1].Addr s.Entries[i].Addr = b at hc ⊢
        refine ⟨z, ?_⟩
        cases b with
        | true =>
          rw [if_neg (by rw [hc]; exact fun h => h rfl)]
          cases kmapB s.Entries[i].Val <;> cases addrsB s.Entries[i].Deps <;> cases decide (1 <= s.Entries[i].Turned ∧ s.Entries[i].Turned <= s.Serial) <;> simp
        | false =>
          rw [if_pos (by rw [hc]; simp)]
          simp
    · obtain rfl : i = 0 := by omega
      rw [gOk_zero hil]
      unfold entB
      cases addrB s.Entries[0].Addr with
      | false => exact ⟨0, rfl⟩
      | true =>
        dsimp only
        rw [if_neg (by omega)]
        refine ⟨z, ?_⟩
        cases kmapB s.Entries[0].Val <;> cases addrsB s.Entries[0].Deps <;> cases decide (1 <= s.Entries[0].Turned ∧ s.Entries[0].Turned <= s.Serial) <;> simp
def S_impl_isState (a0 : GState) : Option Bool := if ssz a0 <= 2 ^ 20 then some (stB a0) else none
theorem implSt_eq {s : GState} (h : ssz s <= 2 ^ 20) : S_impl_isState s = some (stB s) := if_pos h
theorem isState_val {s : GState} (h : ssz s <= 2 ^ 20) : T_impl_isState (s.Entries.length + 1) s = some (stB s) := by
  have hlen := eszs_len s.Entries
  unfold ssz at h
  obtain ⟨z, hz⟩ := isState_loop (s := s) (by omega) s.Entries.length 0 (s.Entries.length + 1) (by omega) (by omega)
  rw [show ((0 : Nat) : Int) = 0 from rfl] at hz
  unfold T_impl_isState
  rw [in_eq, Option.bind_some]
  unfold stB
  by_cases h1 : (0 : Int) <= s.Serial ∧ s.Serial <= 1000000
  · rw [decide_eq_true h1]
    dsimp only
    by_cases h2 : (16 : Int) < ((s.Entries.length : Nat) : Int)
    · rw [if_pos h2, decide_eq_false (p := 0 <= s.Serial ∧ s.Serial <= 1000000 ∧ s.Entries.length <= 16) (by omega)]; rfl
    rw [if_neg h2, hz, decide_eq_true (p := 0 <= s.Serial ∧ s.Serial <= 1000000 ∧ s.Entries.length <= 16) (by omega), Bool.true_and]
    have he : entsB s = gAll (entB s.Serial) GEntry.Addr s.Entries 0 s.Entries.length := rfl
    cases hg : gAll (entB s.Serial) GEntry.Addr s.Entries 0 s.Entries.length with
    | false => rw [he, hg]; rfl
    | true =>
      rw [he, hg, Bool.true_and]
      simp only [if_true, Option.bind_some]
      unfold pendB
      by_cases hp : s.Pending = []
      · rw [if_pos (by rw [hp]; rfl), if_pos hp]
      · have hp0 : ¬ ((s.Pending.length : Nat) : Int) = 0 := fun e => hp (List.eq_nil_of_length_eq_zero (by omega))
        rw [if_neg hp0, if_neg hp]
        unfold S_impl_State_entryAt
        obtain ⟨c, _, hc⟩ := eat_eq (x := s.Pending) (a := s.Entries) (by omega) (gAll_asc hg)
        rw [hc, Option.bind_some, Option.bind_some]
        dsimp only
        rw [implAd_eq (by omega), Option.bind_some, in_eq, Option.bind_some]
        cases s.Open
        · rfl
        cases addrB s.Pending
        · rfl
        by_cases ha : (1 : Int) <= s.Act ∧ s.Act <= 4
        · rw [decide_eq_true ha]
          by_cases h1 : s.Act = 1 <;> cases hasB s.Entries s.Pending <;> simp [h1]
        · rw [decide_eq_false ha]; rfl
  · rw [decide_eq_false h1, decide_eq_false (p := 0 <= s.Serial ∧ s.Serial <= 1000000 ∧ s.Entries.length <= 16) (fun h => h1 ⟨h.1, h.2.1⟩)]; rfl
theorem spec_impl_isState (a0 : GState) (r : Bool) (h : S_impl_isState a0 = some r) : ∃ n, T_impl_isState n a0 = some r := by
  unfold S_impl_isState at h
  obtain ⟨ha, h⟩ := need_c h
  exact ⟨_, by rw [<- h]; exact isState_val ha⟩
theorem ok_impl_isState (a0 : GState) (r : Bool) (h : S_impl_isState a0 = some r) : (mach cfg).call 66 [] [.val true [.int .i64 a0.Serial, .bool a0.Open, .seq (eL e_u8 a0.Pending), .int .i64 a0.Act, .seq (eL e_GEntry a0.Entries)]] = some (.val false [.bool r], []) := by
  obtain ⟨n, hn⟩ := spec_impl_isState a0 r h
  exact g_impl_isState n a0 r hn
def S_impl_copyBytes (a0 : (List UInt8)) : Option (List UInt8) :=
  if roomP 1 (0 + a0.length) then
  some a0
  else none
set_option maxRecDepth 100000 in
theorem fd_68 : cfg.funcs 68 = some (bodyOf Tryz.f68, Tryz.f68.ntmps, Tryz.f68.results.toList) := fn_of Tryz.func68 (by kernel_rfl) (by kernel_rfl)
theorem ok_impl_copyBytes (a0 : (List UInt8)) (r : (List UInt8)) (h : S_impl_copyBytes a0 = some r) : (mach cfg).call 68 [] [.val false [.seq (eL e_u8 a0)]] = some (.val false [.own 1 (eL e_u8 r)], []) := by
  unfold S_impl_copyBytes at h
  obtain ⟨n1, h⟩ := need_some h
  obtain rfl := Option.some.inj h
  exact call_wQ [⟨.room 1 (eL e_u8 []) (eL e_u8 a0), .b true, (A.room n1)⟩, ⟨.uni 1 (eL e_u8 a0), .b true, (A.uni E_u8)⟩, ⟨.app (eL e_u8 []) (eL e_u8 a0), .l (eL e_u8 a0), A.app0⟩] rfl fd_68 (by kernel_rfl)
def L_impl_copyTexts_l0 (a0 : (List (List UInt8))) (v1 : Int) : Nat → Int → (List (List UInt8)) → Option (Int × (List (List UInt8)))
  | 0, _, _ => none
  | m + 1, v2, v3 =>
    if v2 < v1 then
      (natO v2).bind fun i2 =>
      (a0[i2]?).bind fun x3 =>
      (S_impl_copyBytes x3).bind fun r4 =>
      if roomP 24 (v3.length + [r4].length) then
      L_impl_copyTexts_l0 a0 v1 m (w64 (v2 + 1)) (v3 ++ [r4])
      else none
    else
      some (v2, v3)
theorem gl_impl_copyTexts_l0 (a0 : (List (List UInt8))) (v1 : Int) (m : Nat) : ∀ (v2 : Int) (v3 : (List (List UInt8))) (o : (Int × (List (List UInt8)))), L_impl_copyTexts_l0 a0 v1 m v2 v3 = some o → (mach cfg).loop 120 (loopB Tryz.f120 0) ⟨[(3, .val false [.ref 0]), (7, .val false [.seq (eL (e_sl e_u8) a0)]), (8, .val false [.int .i64 v1]), (9, .val false [.int .i64 v2])], [.obj 1 (eL (o_sl 1 e_u8) v3)], 0⟩ = some (match o with | ⟨o_0, o_1⟩ => (.exit 0, (⟨[(3, .val false [.ref 0]), (7, .val false [.seq (eL (e_sl e_u8) a0)]), (8, .val false [.int .i64 v1]), (9, .val false [.int .i64 o_0]), (10, .val false [.bool false])], [.obj 1 (eL (o_sl 1 e_u8) o_1)], 0⟩ : S))) := by
  induction m with
  | zero => intro v2 v3 o h; cases h
  | succ m ih =>
    intro v2 v3 o h
    rw [L_impl_copyTexts_l0] at h
    rcases ite_some h with ⟨c1, h⟩ | ⟨c1, h⟩
    ·obtain ⟨i2, hi2, h⟩ := bs h
     obtain ⟨x3, hx3, h⟩ := bs h
     obtain ⟨r4, hr4, h⟩ := bs h
     obtain ⟨n5, h⟩ := need_some h
     exact loop_nQ [.lT c1, .na hi2, .ix0 (e_sl e_u8) hx3, .cl (ok_impl_copyBytes x3 _ hr4), ⟨.room 24 (eL (o_sl 1 e_u8) v3) (eL (o_sl 1 e_u8) [r4]), .b true, (A.room n5)⟩, ⟨.uni 1 (eL (o_sl 1 e_u8) [r4]), .b true, (A.uniO (O_sl 1 O_u8))⟩, ⟨.app (eL (o_sl 1 e_u8) v3) (eL (o_sl 1 e_u8) [r4]), .l (eL (o_sl 1 e_u8) (v3 ++ [r4])), A.app⟩, .ad v2 1] (by kernel_rfl) (ih (w64 (v2 + 1)) (v3 ++ [r4]) o h)
    ·obtain rfl := Option.some.inj h
     exact loop_eQ [.lF c1] (by kernel_rfl) (by intro h; cases h)
def T_impl_copyTexts (n : Nat) (a0 : (List (List UInt8))) : Option (List (List UInt8)) :=
  (L_impl_copyTexts_l0 a0 ((a0.length : Nat) : Int) n 0 []).bind fun ⟨o1_0, o1_1⟩ =>
  some o1_1
set_option maxRecDepth 100000 in
theorem fd_120 : cfg.funcs 120 = some (bodyOf Tryz.f120, Tryz.f120.ntmps, Tryz.f120.results.toList) := fn_of Tryz.func120 (by kernel_rfl) (by kernel_rfl)
theorem g_impl_copyTexts (n : Nat) (a0 : (List (List UInt8))) (r : (List (List UInt8))) (h : T_impl_copyTexts n a0 = some r) : (mach cfg).call 120 [] [.val false [.seq (eL (e_sl e_u8) a0)]] = some (.val false [.own 1 (eL (o_sl 1 e_u8) r)], []) := by
  unfold T_impl_copyTexts at h
  obtain ⟨⟨o1_0, o1_1⟩, ho1, h⟩ := bs h
  try dsimp only at h
  obtain rfl := Option.some.inj h
  exact call_wQ [.le (e_sl e_u8) a0, .lp (gl_impl_copyTexts_l0 a0 ((a0.length : Nat) : Int) _ 0 [] _ ho1)] rfl fd_120 (by kernel_rfl)
theorem copyBytes_eq {a : List UInt8} (h : a.length <= 2 ^ 39) : S_impl_copyBytes a = some a := if_pos (room_ok (by decide) (by omega))
theorem copyTexts_loop {a : List (List UInt8)} (ha : bsz a <= 2 ^ 39) : ∀ (l p : List (List UInt8)) (m : Nat), a = p ++ l → l.length < m → ∃ z, L_impl_copyTexts_l0 a ((a.length : Nat) : Int) m ((p.length : Nat) : Int) p = some (z, a) := by
  have hl := bsz_len a
  intro l
  induction l with
  | nil =>
    intro p m he hm
    subst he
    obtain ⟨m, rfl, _⟩ := fuel hm
    exact ⟨_, by rw [L_impl_copyTexts_l0, if_neg (nlt_end p)]; simp; rfl⟩
  | cons x l ih =>
    intro p m he hm
    obtain ⟨m, rfl, hm'⟩ := fuel hm
    have hx : 1 + x.length <= bsz a := bsz_mem (by rw [he]; simp)
    have hlen : a.length = p.length + (l.length + 1) := by rw [he]; simp
    obtain ⟨z, hz⟩ := ih (p ++ [x]) m (by rw [he]; simp) (by simp only [List.length_cons] at hm'; omega)
    refine ⟨z, ?_⟩
    rw [L_impl_copyTexts_l0, if_pos (by omega), natO_nat, Option.bind_some, show a[p.length]? = some x by rw [he]; exact get_mid p x l, Option.bind_some, copyBytes_eq (by omega), Option.bind_some, if_pos (room_ok (by decide) (by simp only [List.length_cons, List.length_nil]; omega)), w64_len p x (by omega), hz]
def S_impl_copyTexts (a0 : (List (List UInt8))) : Option (List (List UInt8)) := if bsz a0 <= 2 ^ 39 then some a0 else none
theorem copyTexts_eq {a : List (List UInt8)} (h : bsz a <= 2 ^ 39) : S_impl_copyTexts a = some a := if_pos h
theorem spec_impl_copyTexts (a0 : (List (List UInt8))) (r : (List (List UInt8))) (h : S_impl_copyTexts a0 = some r) : ∃ n, T_impl_copyTexts n a0 = some r := by
  unfold S_impl_copyTexts at h
  obtain ⟨ha, h⟩ := need_c h
  obtain ⟨z, hz⟩ := copyTexts_loop ha a0 [] (a0.length + 1) rfl (by omega)
  refine ⟨a0.length + 1, ?_⟩
  unfold T_impl_copyTexts
  simp only [List.length_nil, Int.natCast_zero] at hz
  rw [hz]; exact h
theorem ok_impl_copyTexts (a0 : (List (List UInt8))) (r : (List (List UInt8))) (h : S_impl_copyTexts a0 = some r) : (mach cfg).call 120 [] [.val false [.seq (eL (e_sl e_u8) a0)]] = some (.val false [.own 1 (eL (o_sl 1 e_u8) r)], []) := by
  obtain ⟨n, hn⟩ := spec_impl_copyTexts a0 r h
  exact g_impl_copyTexts n a0 r hn
def L_impl_copyValue_l0 (G_impl_copyValue : GValue → Option GValue) (v0 : (List GValue)) (v1 : Int) (v3 : Int) (v4 : Int) (v5 : Int) (v6 : Int) (v7 : (List UInt8)) (v8 : (List (List UInt8))) (v9 : (List GValue)) (v10 : (List UInt8)) (v11 : (List (List UInt8))) : Nat → Int → (List GValue) → Option (Int × (List GValue))
  | 0, _, _ => none
  | m + 1, v2, v12 =>
    if v2 < v1 then
      (natO v2).bind fun i2 =>
      (v0[i2]?).bind fun x3 =>
      (G_impl_copyValue x3).bind fun r4 =>
      if roomP 88 (v12.length + [r4].length) then
      L_impl_copyValue_l0 G_impl_copyValue v0 v1 v3 v4 v5 v6 v7 v8 v9 v10 v11 m (w64 (v2 + 1)) (v12 ++ [r4])
      else none
    else
      some (v2, v12)
theorem gl_impl_copyValue_l0 (G_impl_copyValue : GValue → Option GValue) (H_impl_copyValue : ∀ (a0 : GValue) (r : GValue), G_impl_copyValue a0 = some r → (mach cfg).call 119 [] [.val true [.int .i64 a0.Kind, .int .i64 a0.N, .seq (eL e_u8 a0.S), .seq (eL (e_sl e_u8) a0.K), .seq (eL e_GValue a0.L)]] = some (.val true [.int .i64 r.Kind, .int .i64 r.N, .own 1 (eL e_u8 r.S), .own 1 (eL (o_sl 1 e_u8) r.K), .own 5 (eL o_GValue r.L)], [])) (v0 : (List GValue)) (v1 : Int) (v3 : Int) (v4 : Int) (v5 : Int) (v6 : Int) (v7 : (List UInt8)) (v8 : (List (List UInt8))) (v9 : (List GValue)) (v10 : (List UInt8)) (v11 : (List (List UInt8))) (m : Nat) : ∀ (v2 : Int) (v12 : (List GValue)) (o : (Int × (List GValue))), L_impl_copyValue_l0 G_impl_copyValue v0 v1 v3 v4 v5 v6 v7 v8 v9 v10 v11 m v2 v12 = some o → (mach cfg).loop 119 (loopB Tryz.f119 0) ⟨[(2, .val false [.ptr 0 0]), (3, .val false [.ptr 1 0]), (18, .val false [.seq (eL e_GValue v0)]), (19, .val false [.int .i64 v1]), (20, .val false [.int .i64 v2])], [.var [.int .i64 v3, .int .i64 v4, .ref 2, .ref 3, .ref 4], .var [.int .i64 v5, .int .i64 v6, .ref 5, .ref 6, .ref 7], .obj 1 (eL e_u8 v7), .obj 1 (eL (o_sl 1 e_u8) v8), .obj 5 (eL o_GValue v9), .obj 1 (eL e_u8 v10), .obj 1 (eL (o_sl 1 e_u8) v11), .obj 5 (eL o_GValue v12)], 0⟩ = some (match o with | ⟨o_0, o_1⟩ => (.exit 0, (⟨[(2, .val false [.ptr 0 0]), (3, .val false [.ptr 1 0]), (18, .val false [.seq (eL e_GValue v0)]), (19, .val false [.int .i64 v1]), (20, .val false [.int .i64 o_0]), (21, .val false [.bool false])], [.var [.int .i64 v3, .int .i64 v4, .ref 2, .ref 3, .ref 4], .var [.int .i64 v5, .int .i64 v6, .ref 5, .ref 6, .ref 7], .obj 1 (eL e_u8 v7), .obj 1 (eL (o_sl 1 e_u8) v8), .obj 5 (eL o_GValue v9), .obj 1 (eL e_u8 v10), .obj 1 (eL (o_sl 1 e_u8) v11), .obj 5 (eL o_GValue o_1)], 0⟩ : S))) := by
  induction m with
  | zero => intro v2 v12 o h; cases h
  | succ m ih =>
    intro v2 v12 o h
    rw [L_impl_copyValue_l0] at h
    rcases ite_some h with ⟨c1, h⟩ | ⟨c1, h⟩
    ·obtain ⟨i2, hi2, h⟩ := bs h
     obtain ⟨x3, hx3, h⟩ := bs h
     obtain ⟨r4, hr4, h⟩ := bs h
     obtain ⟨n5, h⟩ := need_some h
     exact loop_nQ [.lT c1, .na hi2, .ix hx3 (eq_GValue x3), .cl (H_impl_copyValue x3 _ hr4), ⟨.room 88 (eL o_GValue v12) ([[.int .i64 r4.Kind, .int .i64 r4.N, .own 1 (eL e_u8 r4.S), .own 1 (eL (o_sl 1 e_u8) r4.K), .own 5 (eL o_GValue r4.L)]] : List (List C)), .b true, by rw [(show ([[.int .i64 r4.Kind, .int .i64 r4.N, .own 1 (eL e_u8 r4.S), .own 1 (eL (o_sl 1 e_u8) r4.K), .own 5 (eL o_GValue r4.L)]] : List (List C)) = eL o_GValue [r4] from (raw_cons (oeq_GValue r4) raw_nil))]; exact (A.room n5)⟩, ⟨.uni 5 ([[.int .i64 r4.Kind, .int .i64 r4.N, .own 1 (eL e_u8 r4.S), .own 1 (eL (o_sl 1 e_u8) r4.K), .own 5 (eL o_GValue r4.L)]] : List (List C)), .b true, by rw [(show ([[.int .i64 r4.Kind, .int .i64 r4.N, .own 1 (eL e_u8 r4.S), .own 1 (eL (o_sl 1 e_u8) r4.K), .own 5 (eL o_GValue r4.L)]] : List (List C)) = eL o_GValue [r4] from (raw_cons (oeq_GValue r4) raw_nil))]; exact (A.uniO O_GValue)⟩, ⟨.app (eL o_GValue v12) ([[.int .i64 r4.Kind, .int .i64 r4.N, .own 1 (eL e_u8 r4.S), .own 1 (eL (o_sl 1 e_u8) r4.K), .own 5 (eL o_GValue r4.L)]] : List (List C)), .l (eL o_GValue (v12 ++ [r4])), by rw [(show ([[.int .i64 r4.Kind, .int .i64 r4.N, .own 1 (eL e_u8 r4.S), .own 1 (eL (o_sl 1 e_u8) r4.K), .own 5 (eL o_GValue r4.L)]] : List (List C)) = eL o_GValue [r4] from (raw_cons (oeq_GValue r4) raw_nil))]; exact A.app⟩, .ad v2 1] (by kernel_rfl) (ih (w64 (v2 + 1)) (v12 ++ [r4]) o h)
    ·obtain rfl := Option.some.inj h
     exact loop_eQ [.lF c1] (by kernel_rfl) (by intro h; cases h)
def T_impl_copyValue (G_impl_copyValue : GValue → Option GValue) (n : Nat) (a0 : GValue) : Option GValue :=
  (S_impl_copyBytes a0.S).bind fun r1 =>
  (S_impl_copyTexts a0.K).bind fun r2 =>
  (L_impl_copyValue_l0 G_impl_copyValue a0.L ((a0.L.length : Nat) : Int) 0 0 a0.Kind a0.N [] [] [] r1 r2 n 0 []).bind fun ⟨o3_0, o3_1⟩ =>
  some (GValue.mk a0.Kind a0.N r1 r2 o3_1)
set_option maxRecDepth 100000 in
theorem fd_119 : cfg.funcs 119 = some (bodyOf Tryz.f119, Tryz.f119.ntmps, Tryz.f119.results.toList) := fn_of Tryz.func119 (by kernel_rfl) (by kernel_rfl)
theorem g_impl_copyValue (G_impl_copyValue : GValue → Option GValue) (H_impl_copyValue : ∀ (a0 : GValue) (r : GValue), G_impl_copyValue a0 = some r → (mach cfg).call 119 [] [.val true [.int .i64 a0.Kind, .int .i64 a0.N, .seq (eL e_u8 a0.S), .seq (eL (e_sl e_u8) a0.K), .seq (eL e_GValue a0.L)]] = some (.val true [.int .i64 r.Kind, .int .i64 r.N, .own 1 (eL e_u8 r.S), .own 1 (eL (o_sl 1 e_u8) r.K), .own 5 (eL o_GValue r.L)], [])) (n : Nat) (a0 : GValue) (r : GValue) (h : T_impl_copyValue G_impl_copyValue n a0 = some r) : (mach cfg).call 119 [] [.val true [.int .i64 a0.Kind, .int .i64 a0.N, .seq (eL e_u8 a0.S), .seq (eL (e_sl e_u8) a0.K), .seq (eL e_GValue a0.L)]] = some (.val true [.int .i64 r.Kind, .int .i64 r.N, .own 1 (eL e_u8 r.S), .own 1 (eL (o_sl 1 e_u8) r.K), .own 5 (eL o_GValue r.L)], []) := by
  unfold T_impl_copyValue at h
  obtain ⟨r1, hr1, h⟩ := bs h
  obtain ⟨r2, hr2, h⟩ := bs h
  obtain ⟨⟨o3_0, o3_1⟩, ho3, h⟩ := bs h
  try dsimp only at h
  obtain rfl := Option.some.inj h
  exact call_wQ [.cl (ok_impl_copyBytes a0.S _ hr1), .cl (ok_impl_copyTexts a0.K _ hr2), .le e_GValue a0.L, .lp (gl_impl_copyValue_l0 G_impl_copyValue H_impl_copyValue a0.L ((a0.L.length : Nat) : Int) 0 0 a0.Kind a0.N [] [] [] r1 r2 _ 0 [] _ ho3)] rfl fd_119 (by kernel_rfl)
def U_impl_copyValue : Nat → GValue → Option GValue
  | 0, _ => none
  | n + 1, a0 => T_impl_copyValue (U_impl_copyValue n) n a0
theorem rec_impl_copyValue (n : Nat) : (∀ (a0 : GValue) (r : GValue), U_impl_copyValue n a0 = some r → (mach cfg).call 119 [] [.val true [.int .i64 a0.Kind, .int .i64 a0.N, .seq (eL e_u8 a0.S), .seq (eL (e_sl e_u8) a0.K), .seq (eL e_GValue a0.L)]] = some (.val true [.int .i64 r.Kind, .int .i64 r.N, .own 1 (eL e_u8 r.S), .own 1 (eL (o_sl 1 e_u8) r.K), .own 5 (eL o_GValue r.L)], [])) := by
  induction n with
  | zero => exact fun _ _ h => (by rw [U_impl_copyValue] at h; cases h)
  | succ n ih =>
    have ih_impl_copyValue := ih
    exact fun a0 r h => g_impl_copyValue (U_impl_copyValue n) ih_impl_copyValue n a0 r (by rw [U_impl_copyValue] at h; exact h)
theorem copyValue_loop {G : GValue → Option GValue} {a : List GValue} {v3 v4 v5 v6 : Int} {v7 : List UInt8} {v8 : List (List UInt8)} {v9 : List GValue} {v10 : List UInt8} {v11 : List (List UInt8)} (ha : a.length <= 2 ^ 39) : ∀ (l p : List GValue) (m : Nat), a = p ++ l → (∀ x ∈ l, G x = some x) → l.length < m → ∃ z, L_impl_copyValue_l0 G a ((a.length : Nat) : Int) v3 v4 v5 v6 v7 v8 v9 v10 v11 m ((p.length : Nat) : Int) p = some (z, a) := by
  intro l
  induction l with
  | nil =>
    intro p m he _ hm
    subst he
    obtain ⟨m, rfl, _⟩ := fuel hm
    exact ⟨_, by rw [L_impl_copyValue_l0, if_neg (nlt_end p)]; simp; rfl⟩
  | cons x l ih =>
    intro p m he hG hm
    obtain ⟨m, rfl, hm'⟩ := fuel hm
    have hlen : a.length = p.length + (l.length + 1) := by rw [he]; simp
    obtain ⟨z, hz⟩ := ih (p ++ [x]) m (by rw [he]; simp) (fun y hy => hG y (List.mem_cons_of_mem _ hy)) (by simp only [List.length_cons] at hm'; omega)
    refine ⟨z, ?_⟩
    rw [L_impl_copyValue_l0, if_pos (by omega), natO_nat, Option.bind_some, show a[p.length]? = some x by rw [he]; exact get_mid p x l, Option.bind_some, hG x List.mem_cons_self, Option.bind_some, if_pos (room_ok (by decide) (by simp only [List.length_cons, List.length_nil]; omega)), w64_len p x (by omega), hz]
theorem copyValue_U : ∀ (N : Nat) (v : GValue), vsz v < N → vsz v <= 2 ^ 39 → ∀ f : Nat, vsz v + 2 <= f → U_impl_copyValue f v = some v := by
  intro N
  induction N with
  | zero => intro v hv; omega
  | succ N ih =>
    intro v hv hs f hf
    obtain ⟨f, rfl, _⟩ := fuel (show 0 < f by omega)
    have he := vsz_eq v
    have hl := vszs_len v.L
    rw [U_impl_copyValue]
    unfold T_impl_copyValue
    rw [copyBytes_eq (by omega), copyTexts_eq (by omega)]
    simp only [Option.bind_some]
    obtain ⟨z, hz⟩ := copyValue_loop (G := U_impl_copyValue f) (a := v.L) (v3 := 0) (v4 := 0) (v5 := v.Kind) (v6 := v.N) (v7 := []) (v8 := []) (v9 := []) (v10 := v.S) (v11 := v.K) (by omega) v.L [] f rfl (fun x hx => by
      have := vszs_mem hx
      exact ih x (by omega) (by omega) f (by omega)) (by omega)
    simp only [List.length_nil, Int.natCast_zero] at hz
    rw [hz]
    exact congrArg some (GValue.eta v)
def S_impl_copyValue (a0 : GValue) : Option GValue := if vsz a0 <= 2 ^ 39 then some a0 else none
theorem spec_impl_copyValue (a0 : GValue) (r : GValue) (h : S_impl_copyValue a0 = some r) : ∃ n, U_impl_copyValue n a0 = some r := by
  unfold S_impl_copyValue at h
  obtain ⟨ha, h⟩ := need_c h
  exact ⟨vsz a0 + 2, by rw [<- h]; exact copyValue_U _ a0 (Nat.lt_succ_self _) ha _ (Nat.le_refl _)⟩
theorem ok_impl_copyValue (a0 : GValue) (r : GValue) (h : S_impl_copyValue a0 = some r) : (mach cfg).call 119 [] [.val true [.int .i64 a0.Kind, .int .i64 a0.N, .seq (eL e_u8 a0.S), .seq (eL (e_sl e_u8) a0.K), .seq (eL e_GValue a0.L)]] = some (.val true [.int .i64 r.Kind, .int .i64 r.N, .own 1 (eL e_u8 r.S), .own 1 (eL (o_sl 1 e_u8) r.K), .own 5 (eL o_GValue r.L)], []) := by
  obtain ⟨n, hn⟩ := spec_impl_copyValue a0 r h
  exact (rec_impl_copyValue n) a0 r hn
def S_impl_copyEntry (a0 : GEntry) : Option GEntry :=
  (S_impl_copyBytes a0.Addr).bind fun r1 =>
  (S_impl_copyValue a0.Val).bind fun r2 =>
  (S_impl_copyTexts a0.Deps).bind fun r3 =>
  some (GEntry.mk r1 r2 r3 a0.Taint a0.Turned)
set_option maxRecDepth 100000 in
theorem fd_75 : cfg.funcs 75 = some (bodyOf Tryz.f75, Tryz.f75.ntmps, Tryz.f75.results.toList) := fn_of Tryz.func75 (by kernel_rfl) (by kernel_rfl)
theorem ok_impl_copyEntry (a0 : GEntry) (r : GEntry) (h : S_impl_copyEntry a0 = some r) : (mach cfg).call 75 [] [.val true [.seq (eL e_u8 a0.Addr), .int .i64 a0.Val.Kind, .int .i64 a0.Val.N, .seq (eL e_u8 a0.Val.S), .seq (eL (e_sl e_u8) a0.Val.K), .seq (eL e_GValue a0.Val.L), .seq (eL (e_sl e_u8) a0.Deps), .bool a0.Taint, .int .i64 a0.Turned]] = some (.val true [.own 1 (eL e_u8 r.Addr), .int .i64 r.Val.Kind, .int .i64 r.Val.N, .own 1 (eL e_u8 r.Val.S), .own 1 (eL (o_sl 1 e_u8) r.Val.K), .own 5 (eL o_GValue r.Val.L), .own 1 (eL (o_sl 1 e_u8) r.Deps), .bool r.Taint, .int .i64 r.Turned], []) := by
  unfold S_impl_copyEntry at h
  obtain ⟨r1, hr1, h⟩ := bs h
  obtain ⟨r2, hr2, h⟩ := bs h
  obtain ⟨r3, hr3, h⟩ := bs h
  obtain rfl := Option.some.inj h
  exact call_wQ [.cl (ok_impl_copyBytes a0.Addr _ hr1), .cl (ok_impl_copyValue a0.Val _ hr2), .cl (ok_impl_copyTexts a0.Deps _ hr3)] rfl fd_75 (by kernel_rfl)
def S_impl_EntryOf (a0 : GState) (a1 : (List UInt8)) : Option (GEntry × Bool) :=
  (S_impl_State_entryAt a0 a1).bind fun ⟨r1_0, r1_1⟩ =>
  (S_impl_isState a0).bind fun r2 =>
  match r2 with
  | true =>
    match r1_1 with
    | true =>
      (natO r1_0).bind fun i5 =>
      (a0.Entries[i5]?).bind fun x6 =>
      (S_impl_copyEntry x6).bind fun r7 =>
      some (r7, true)
    | false =>
      some ((GEntry.mk [] (GValue.mk 0 0 [] [] []) [] false 0), false)
  | false =>
    some ((GEntry.mk [] (GValue.mk 0 0 [] [] []) [] false 0), false)
set_option maxRecDepth 100000 in
theorem fd_30 : cfg.funcs 30 = some (bodyOf Tryz.f30, Tryz.f30.ntmps, Tryz.f30.results.toList) := fn_of Tryz.func30 (by kernel_rfl) (by kernel_rfl)
theorem ok_impl_EntryOf (a0 : GState) (a1 : (List UInt8)) (r : (GEntry × Bool)) (h : S_impl_EntryOf a0 a1 = some r) : (mach cfg).call 30 [] [.val true [.int .i64 a0.Serial, .bool a0.Open, .seq (eL e_u8 a0.Pending), .int .i64 a0.Act, .seq (eL e_GEntry a0.Entries)], .val false [.seq (eL e_u8 a1)]] = some (.tup [(true, [.own 1 (eL e_u8 r.1.Addr), .int .i64 r.1.Val.Kind, .int .i64 r.1.Val.N, .own 1 (eL e_u8 r.1.Val.S), .own 1 (eL (o_sl 1 e_u8) r.1.Val.K), .own 5 (eL o_GValue r.1.Val.L), .own 1 (eL (o_sl 1 e_u8) r.1.Deps), .bool r.1.Taint, .int .i64 r.1.Turned]), (false, [.bool r.2])], []) := by
  unfold S_impl_EntryOf at h
  obtain ⟨⟨r1_0, r1_1⟩, hr1, h⟩ := bs h
  try dsimp only at h
  obtain ⟨r2, hr2, h⟩ := bs h
  let p70 : List (Q cfg) := [.cl (ok_impl_State_entryAt a0 a1 _ hr1), .cl (ok_impl_isState a0 _ hr2)]
  cases r2 with
  | true =>
   try dsimp only at h
   cases r1_1 with
   | true =>
    try dsimp only at h
    obtain ⟨i5, hi5, h⟩ := bs h
    obtain ⟨x6, hx6, h⟩ := bs h
    obtain ⟨r7, hr7, h⟩ := bs h
    obtain rfl := Option.some.inj h
    exact call_wQ (p70 ++ [.nt true, .nt true, .na hi5, .ix hx6 (eq_GEntry x6), .cl (ok_impl_copyEntry x6 _ hr7)]) rfl fd_30 (by kernel_rfl)
   | false =>
    try dsimp only at h
    obtain rfl := Option.some.inj h
    exact call_wQ (p70 ++ [.nt true, .nt false]) rfl fd_30 (by kernel_rfl)
  | false =>
   try dsimp only at h
   obtain rfl := Option.some.inj h
   exact call_wQ (p70 ++ [.nt false]) rfl fd_30 (by kernel_rfl)
def L_laws_eqByteS_l0 (a0 : (List UInt8)) (a1 : (List UInt8)) : Nat → Int → Option (Bool ⊕ Int)
  | 0, _ => none
  | m + 1, v2 =>
    if v2 < ((a0.length : Nat) : Int) then
      (natO v2).bind fun i2 =>
      (a0[i2]?).bind fun x3 =>
      (a1[i2]?).bind fun x4 =>
      if ((x3.toNat : Nat) : Int) = ((x4.toNat : Nat) : Int) then
        L_laws_eqByteS_l0 a0 a1 m (w64 (v2 + 1))
      else
        some (.inl false)
    else
      some (.inr v2)
theorem gl_laws_eqByteS_l0 (a0 : (List UInt8)) (a1 : (List UInt8)) (m : Nat) : ∀ (v2 : Int) (o : (Bool ⊕ Int)), L_laws_eqByteS_l0 a0 a1 m v2 = some o → (mach cfg).loop 27 (loopB Tryz.f27 0) ⟨[(0, .val false [.seq (eL e_u8 a0)]), (1, .val false [.seq (eL e_u8 a1)]), (5, .val false [.int .i64 v2])], [], 0⟩ = some (match o with | .inl o_0 => (.ret, (⟨[(4, .val false [.bool o_0])], [], 0⟩ : S)) | .inr (o_1) => (.exit 0, (⟨[(0, .val false [.seq (eL e_u8 a0)]), (1, .val false [.seq (eL e_u8 a1)]), (5, .val false [.int .i64 o_1]), (14, .val false [.bool false])], [], 0⟩ : S))) := by
  induction m with
  | zero => intro v2 o h; cases h
  | succ m ih =>
    intro v2 o h
    rw [L_laws_eqByteS_l0] at h
    rcases ite_some h with ⟨c1, h⟩ | ⟨c1, h⟩
    ·obtain ⟨i2, hi2, h⟩ := bs h
     obtain ⟨x3, hx3, h⟩ := bs h
     obtain ⟨x4, hx4, h⟩ := bs h
     rcases ite_some h with ⟨c5, h⟩ | ⟨c5, h⟩
     ·exact loop_nQ [.le e_u8 a0, .lT c1, .na hi2, .ix0 e_u8 hx3, .na hi2, .ix0 e_u8 hx4, .eT c5, .nt true, .ad v2 1] (by kernel_rfl) (ih (w64 (v2 + 1)) o h)
     ·obtain rfl := Option.some.inj h
      exact loop_eQ [.le e_u8 a0, .lT c1, .na hi2, .ix0 e_u8 hx3, .na hi2, .ix0 e_u8 hx4, .eF c5, .nt false] (by kernel_rfl) (by intro h; cases h)
    ·obtain rfl := Option.some.inj h
     exact loop_eQ [.le e_u8 a0, .lF c1] (by kernel_rfl) (by intro h; cases h)
def T_laws_eqByteS (n : Nat) (a0 : (List UInt8)) (a1 : (List UInt8)) : Option Bool :=
  if ((a0.length : Nat) : Int) = ((a1.length : Nat) : Int) then
    (L_laws_eqByteS_l0 a0 a1 n 0).bind fun o2 =>
    match o2 with
    | .inl o2_0 =>
      some o2_0
    | .inr (o2_1) =>
      some true
  else
    some false
set_option maxRecDepth 100000 in
theorem fd_27 : cfg.funcs 27 = some (bodyOf Tryz.f27, Tryz.f27.ntmps, Tryz.f27.results.toList) := fn_of Tryz.func27 (by kernel_rfl) (by kernel_rfl)
theorem g_laws_eqByteS (n : Nat) (a0 : (List UInt8)) (a1 : (List UInt8)) (r : Bool) (h : T_laws_eqByteS n a0 a1 = some r) : (mach cfg).call 27 [] [.val false [.seq (eL e_u8 a0)], .val false [.seq (eL e_u8 a1)]] = some (.val false [.bool r], []) := by
  unfold T_laws_eqByteS at h
  rcases ite_some h with ⟨c1, h⟩ | ⟨c1, h⟩
  ·obtain ⟨o2, ho2, h⟩ := bs h
   let p71 : List (Q cfg) := [.le e_u8 a0, .le e_u8 a1, .eT c1, .nt true, .lp (gl_laws_eqByteS_l0 a0 a1 _ 0 _ ho2)]
   rcases o2 with o2_0 | o2_1
   · try dsimp only at h
     obtain rfl := Option.some.inj h
     exact call_wQ p71 rfl fd_27 (by kernel_rfl)
   · try dsimp only at h
     obtain rfl := Option.some.inj h
     exact call_wQ p71 rfl fd_27 (by kernel_rfl)
  ·obtain rfl := Option.some.inj h
   exact call_wQ [.le e_u8 a0, .le e_u8 a1, .eF c1, .nt false] rfl fd_27 (by kernel_rfl)
theorem eqByteS_loop {a : List UInt8} (ha : a.length <= 2 ^ 40) : ∀ (d i m : Nat), i + d = a.length → d < m → ∃ z, L_laws_eqByteS_l0 a a m (i : Int) = some (.inr z) := by
  intro d
  induction d with
  | zero =>
    intro i m hi hm
    obtain ⟨m, rfl, _⟩ := fuel hm
    exact ⟨_, by rw [L_laws_eqByteS_l0, if_neg (by omega)]⟩
  | succ d ih =>
    intro i m hi hm
    obtain ⟨m, rfl, hm'⟩ := fuel hm
    have hil : i < a.length := by omega
    rw [L_laws_eqByteS_l0, if_pos (by omega), natO_nat, Option.bind_some, get_some hil, Option.bind_some, Option.bind_some, if_pos rfl, w64_succ (by omega)]
    exact ih (i + 1) m (by omega) (by omega)
def S_laws_eqByteS (a0 : (List UInt8)) (a1 : (List UInt8)) : Option Bool := if a0 = a1 ∧ a0.length <= 2 ^ 40 then some true else none
theorem spec_laws_eqByteS (a0 : (List UInt8)) (a1 : (List UInt8)) (r : Bool) (h : S_laws_eqByteS a0 a1 = some r) : ∃ n, T_laws_eqByteS n a0 a1 = some r := by
  unfold S_laws_eqByteS at h
  obtain ⟨⟨he, ha⟩, h2⟩ := need_c h
  clear h
  subst he
  refine ⟨a0.length + 1, ?_⟩
  obtain ⟨z, hz⟩ := eqByteS_loop ha a0.length 0 (a0.length + 1) (by omega) (by omega)
  rw [show ((0 : Nat) : Int) = 0 from rfl] at hz
  unfold T_laws_eqByteS
  rw [if_pos rfl, hz]; exact h2
theorem ok_laws_eqByteS (a0 : (List UInt8)) (a1 : (List UInt8)) (r : Bool) (h : S_laws_eqByteS a0 a1 = some r) : (mach cfg).call 27 [] [.val false [.seq (eL e_u8 a0)], .val false [.seq (eL e_u8 a1)]] = some (.val false [.bool r], []) := by
  obtain ⟨n, hn⟩ := spec_laws_eqByteS a0 a1 r h
  exact g_laws_eqByteS n a0 a1 r hn
def L_laws_eqByteSS_l0 (a0 : (List (List UInt8))) (a1 : (List (List UInt8))) : Nat → Int → Option (Bool ⊕ Int)
  | 0, _ => none
  | m + 1, v2 =>
    if v2 < ((a0.length : Nat) : Int) then
      (natO v2).bind fun i2 =>
      (a0[i2]?).bind fun x3 =>
      (a1[i2]?).bind fun x4 =>
      (S_laws_eqByteS x3 x4).bind fun r5 =>
      match r5 with
      | true =>
        L_laws_eqByteSS_l0 a0 a1 m (w64 (v2 + 1))
      | false =>
        some (.inl false)
    else
      some (.inr v2)
theorem gl_laws_eqByteSS_l0 (a0 : (List (List UInt8))) (a1 : (List (List UInt8))) (m : Nat) : ∀ (v2 : Int) (o : (Bool ⊕ Int)), L_laws_eqByteSS_l0 a0 a1 m v2 = some o → (mach cfg).loop 20 (loopB Tryz.f20 0) ⟨[(0, .val false [.seq (eL (e_sl e_u8) a0)]), (1, .val false [.seq (eL (e_sl e_u8) a1)]), (5, .val false [.int .i64 v2])], [], 0⟩ = some (match o with | .inl o_0 => (.ret, (⟨[(4, .val false [.bool o_0])], [], 0⟩ : S)) | .inr (o_1) => (.exit 0, (⟨[(0, .val false [.seq (eL (e_sl e_u8) a0)]), (1, .val false [.seq (eL (e_sl e_u8) a1)]), (5, .val false [.int .i64 o_1]), (14, .val false [.bool false])], [], 0⟩ : S))) := by
  induction m with
  | zero => intro v2 o h; cases h
  | succ m ih =>
    intro v2 o h
    rw [L_laws_eqByteSS_l0] at h
    rcases ite_some h with ⟨c1, h⟩ | ⟨c1, h⟩
    ·obtain ⟨i2, hi2, h⟩ := bs h
     obtain ⟨x3, hx3, h⟩ := bs h
     obtain ⟨x4, hx4, h⟩ := bs h
     obtain ⟨r5, hr5, h⟩ := bs h
     let p72 : List (Q cfg) := [.le (e_sl e_u8) a0, .lT c1, .na hi2, .ix0 (e_sl e_u8) hx3, .na hi2, .ix0 (e_sl e_u8) hx4, .cl (ok_laws_eqByteS x3 x4 _ hr5)]
     cases r5 with
     | true =>
      try dsimp only at h
      exact loop_nQ (p72 ++ [.nt true, .ad v2 1]) (by kernel_rfl) (ih (w64 (v2 + 1)) o h)
     | false =>
      try dsimp only at h
      obtain rfl := Option.some.inj h
      exact loop_eQ (p72 ++ [.nt false]) (by kernel_rfl) (by intro h; cases h)
    ·obtain rfl := Option.some.inj h
     exact loop_eQ [.le (e_sl e_u8) a0, .lF c1] (by kernel_rfl) (by intro h; cases h)
def T_laws_eqByteSS (n : Nat) (a0 : (List (List UInt8))) (a1 : (List (List UInt8))) : Option Bool :=
  if ((a0.length : Nat) : Int) = ((a1.length : Nat) : Int) then
    (L_laws_eqByteSS_l0 a0 a1 n 0).bind fun o2 =>
    match o2 with
    | .inl o2_0 =>
      some o2_0
    | .inr (o2_1) =>
      some true
  else
    some false
set_option maxRecDepth 100000 in
theorem fd_20 : cfg.funcs 20 = some (bodyOf Tryz.f20, Tryz.f20.ntmps, Tryz.f20.results.toList) := fn_of Tryz.func20 (by kernel_rfl) (by kernel_rfl)
theorem g_laws_eqByteSS (n : Nat) (a0 : (List (List UInt8))) (a1 : (List (List UInt8))) (r : Bool) (h : T_laws_eqByteSS n a0 a1 = some r) : (mach cfg).call 20 [] [.val false [.seq (eL (e_sl e_u8) a0)], .val false [.seq (eL (e_sl e_u8) a1)]] = some (.val false [.bool r], []) := by
  unfold T_laws_eqByteSS at h
  rcases ite_some h with ⟨c1, h⟩ | ⟨c1, h⟩
  ·obtain ⟨o2, ho2, h⟩ := bs h
   let p73 : List (Q cfg) := [.le (e_sl e_u8) a0, .le (e_sl e_u8) a1, .eT c1, .nt true, .lp (gl_laws_eqByteSS_l0 a0 a1 _ 0 _ ho2)]
   rcases o2 with o2_0 | o2_1
   · try dsimp only at h
     obtain rfl := Option.some.inj h
     exact call_wQ p73 rfl fd_20 (by kernel_rfl)
   · try dsimp only at h
     obtain rfl := Option.some.inj h
     exact call_wQ p73 rfl fd_20 (by kernel_rfl)
  ·obtain rfl := Option.some.inj h
   exact call_wQ [.le (e_sl e_u8) a0, .le (e_sl e_u8) a1, .eF c1, .nt false] rfl fd_20 (by kernel_rfl)
theorem eqByteSS_loop {a : List (List UInt8)} (ha : bsz a <= 2 ^ 40) : ∀ (d i m : Nat), i + d = a.length → d < m → ∃ z, L_laws_eqByteSS_l0 a a m (i : Int) = some (.inr z) := by
  have hl := bsz_len a
  intro d
  induction d with
  | zero =>
    intro i m hi hm
    obtain ⟨m, rfl, _⟩ := fuel hm
    exact ⟨_, by rw [L_laws_eqByteSS_l0, if_neg (by omega)]⟩
  | succ d ih =>
    intro i m hi hm
    obtain ⟨m, rfl, hm'⟩ := fuel hm
    have hil : i < a.length := by omega
    have hx := bsz_mem (List.getElem_mem hil)
    rw [L_laws_eqByteSS_l0, if_pos (by omega), natO_nat, Option.bind_some, get_some hil, Option.bind_some, Option.bind_some]
    unfold S_laws_eqByteS
    rw [if_pos ⟨rfl, by omega⟩, Option.bind_some, w64_succ (by omega)]
    exact ih (i + 1) m (by omega) (by omega)
def S_laws_eqByteSS (a0 : (List (List UInt8))) (a1 : (List (List UInt8))) : Option Bool := if a0 = a1 ∧ bsz a0 <= 2 ^ 40 then some true else none
theorem spec_laws_eqByteSS (a0 : (List (List UInt8))) (a1 : (List (List UInt8))) (r : Bool) (h : S_laws_eqByteSS a0 a1 = some r) : ∃ n, T_laws_eqByteSS n a0 a1 = some r := by
  unfold S_laws_eqByteSS at h
  obtain ⟨⟨he, ha⟩, h2⟩ := need_c h
  clear h
  subst he
  have hl := bsz_len a0
  refine ⟨a0.length + 1, ?_⟩
  obtain ⟨z, hz⟩ := eqByteSS_loop ha a0.length 0 (a0.length + 1) (by omega) (by omega)
  rw [show ((0 : Nat) : Int) = 0 from rfl] at hz
  unfold T_laws_eqByteSS
  rw [if_pos rfl, hz]; exact h2
theorem ok_laws_eqByteSS (a0 : (List (List UInt8))) (a1 : (List (List UInt8))) (r : Bool) (h : S_laws_eqByteSS a0 a1 = some r) : (mach cfg).call 20 [] [.val false [.seq (eL (e_sl e_u8) a0)], .val false [.seq (eL (e_sl e_u8) a1)]] = some (.val false [.bool r], []) := by
  obtain ⟨n, hn⟩ := spec_laws_eqByteSS a0 a1 r h
  exact g_laws_eqByteSS n a0 a1 r hn
def L_laws_eqValueS_l0 (G_laws_eqValue : GValue → GValue → Option Bool) (a0 : (List GValue)) (a1 : (List GValue)) : Nat → Int → Option (Bool ⊕ Int)
  | 0, _ => none
  | m + 1, v2 =>
    if v2 < ((a0.length : Nat) : Int) then
      (natO v2).bind fun i2 =>
      (a0[i2]?).bind fun x3 =>
      (a1[i2]?).bind fun x4 =>
      (G_laws_eqValue x3 x4).bind fun r5 =>
      match r5 with
      | true =>
        L_laws_eqValueS_l0 G_laws_eqValue a0 a1 m (w64 (v2 + 1))
      | false =>
        some (.inl false)
    else
      some (.inr v2)
theorem gl_laws_eqValueS_l0 (G_laws_eqValue : GValue → GValue → Option Bool) (H_laws_eqValue : ∀ (a0 : GValue) (a1 : GValue) (r : Bool), G_laws_eqValue a0 a1 = some r → (mach cfg).call 76 [] [.val true [.int .i64 a0.Kind, .int .i64 a0.N, .seq (eL e_u8 a0.S), .seq (eL (e_sl e_u8) a0.K), .seq (eL e_GValue a0.L)], .val true [.int .i64 a1.Kind, .int .i64 a1.N, .seq (eL e_u8 a1.S), .seq (eL (e_sl e_u8) a1.K), .seq (eL e_GValue a1.L)]] = some (.val false [.bool r], [])) (a0 : (List GValue)) (a1 : (List GValue)) (m : Nat) : ∀ (v2 : Int) (o : (Bool ⊕ Int)), L_laws_eqValueS_l0 G_laws_eqValue a0 a1 m v2 = some o → (mach cfg).loop 121 (loopB Tryz.f121 0) ⟨[(0, .val false [.seq (eL e_GValue a0)]), (1, .val false [.seq (eL e_GValue a1)]), (5, .val false [.int .i64 v2])], [], 0⟩ = some (match o with | .inl o_0 => (.ret, (⟨[(4, .val false [.bool o_0])], [], 0⟩ : S)) | .inr (o_1) => (.exit 0, (⟨[(0, .val false [.seq (eL e_GValue a0)]), (1, .val false [.seq (eL e_GValue a1)]), (5, .val false [.int .i64 o_1]), (14, .val false [.bool false])], [], 0⟩ : S))) := by
  induction m with
  | zero => intro v2 o h; cases h
  | succ m ih =>
    intro v2 o h
    rw [L_laws_eqValueS_l0] at h
    rcases ite_some h with ⟨c1, h⟩ | ⟨c1, h⟩
    ·obtain ⟨i2, hi2, h⟩ := bs h
     obtain ⟨x3, hx3, h⟩ := bs h
     obtain ⟨x4, hx4, h⟩ := bs h
     obtain ⟨r5, hr5, h⟩ := bs h
     let p74 : List (Q cfg) := [.le e_GValue a0, .lT c1, .na hi2, .ix hx3 (eq_GValue x3), .na hi2, .ix hx4 (eq_GValue x4), .cl (H_laws_eqValue x3 x4 _ hr5)]
     cases r5 with
     | true =>
      try dsimp only at h
      exact loop_nQ (p74 ++ [.nt true, .ad v2 1]) (by kernel_rfl) (ih (w64 (v2 + 1)) o h)
     | false =>
      try dsimp only at h
      obtain rfl := Option.some.inj h
      exact loop_eQ (p74 ++ [.nt false]) (by kernel_rfl) (by intro h; cases h)
    ·obtain rfl := Option.some.inj h
     exact loop_eQ [.le e_GValue a0, .lF c1] (by kernel_rfl) (by intro h; cases h)
def T_laws_eqValueS (G_laws_eqValue : GValue → GValue → Option Bool) (n : Nat) (a0 : (List GValue)) (a1 : (List GValue)) : Option Bool :=
  if ((a0.length : Nat) : Int) = ((a1.length : Nat) : Int) then
    (L_laws_eqValueS_l0 G_laws_eqValue a0 a1 n 0).bind fun o2 =>
    match o2 with
    | .inl o2_0 =>
      some o2_0
    | .inr (o2_1) =>
      some true
  else
    some false
set_option maxRecDepth 100000 in
theorem fd_121 : cfg.funcs 121 = some (bodyOf Tryz.f121, Tryz.f121.ntmps, Tryz.f121.results.toList) := fn_of Tryz.func121 (by kernel_rfl) (by kernel_rfl)
theorem g_laws_eqValueS (G_laws_eqValue : GValue → GValue → Option Bool) (H_laws_eqValue : ∀ (a0 : GValue) (a1 : GValue) (r : Bool), G_laws_eqValue a0 a1 = some r → (mach cfg).call 76 [] [.val true [.int .i64 a0.Kind, .int .i64 a0.N, .seq (eL e_u8 a0.S), .seq (eL (e_sl e_u8) a0.K), .seq (eL e_GValue a0.L)], .val true [.int .i64 a1.Kind, .int .i64 a1.N, .seq (eL e_u8 a1.S), .seq (eL (e_sl e_u8) a1.K), .seq (eL e_GValue a1.L)]] = some (.val false [.bool r], [])) (n : Nat) (a0 : (List GValue)) (a1 : (List GValue)) (r : Bool) (h : T_laws_eqValueS G_laws_eqValue n a0 a1 = some r) : (mach cfg).call 121 [] [.val false [.seq (eL e_GValue a0)], .val false [.seq (eL e_GValue a1)]] = some (.val false [.bool r], []) := by
  unfold T_laws_eqValueS at h
  rcases ite_some h with ⟨c1, h⟩ | ⟨c1, h⟩
  ·obtain ⟨o2, ho2, h⟩ := bs h
   let p75 : List (Q cfg) := [.le e_GValue a0, .le e_GValue a1, .eT c1, .nt true, .lp (gl_laws_eqValueS_l0 G_laws_eqValue H_laws_eqValue a0 a1 _ 0 _ ho2)]
   rcases o2 with o2_0 | o2_1
   · try dsimp only at h
     obtain rfl := Option.some.inj h
     exact call_wQ p75 rfl fd_121 (by kernel_rfl)
   · try dsimp only at h
     obtain rfl := Option.some.inj h
     exact call_wQ p75 rfl fd_121 (by kernel_rfl)
  ·obtain rfl := Option.some.inj h
   exact call_wQ [.le e_GValue a0, .le e_GValue a1, .eF c1, .nt false] rfl fd_121 (by kernel_rfl)
def T_laws_eqValue (G_laws_eqValueS : (List GValue) → (List GValue) → Option Bool) (a0 : GValue) (a1 : GValue) : Option Bool :=
  if a0.Kind = a1.Kind then
    if a0.N = a1.N then
      (S_laws_eqByteS a0.S a1.S).bind fun r3 =>
      match r3 with
      | true =>
        (S_laws_eqByteSS a0.K a1.K).bind fun r5 =>
        match r5 with
        | true =>
          (G_laws_eqValueS a0.L a1.L).bind fun r7 =>
          match r7 with
          | true =>
            some true
          | false =>
            some false
        | false =>
          some false
      | false =>
        some false
    else
      some false
  else
    some false
set_option maxRecDepth 100000 in
theorem fd_76 : cfg.funcs 76 = some (bodyOf Tryz.f76, Tryz.f76.ntmps, Tryz.f76.results.toList) := fn_of Tryz.func76 (by kernel_rfl) (by kernel_rfl)
theorem g_laws_eqValue (G_laws_eqValueS : (List GValue) → (List GValue) → Option Bool) (H_laws_eqValueS : ∀ (a0 : (List GValue)) (a1 : (List GValue)) (r : Bool), G_laws_eqValueS a0 a1 = some r → (mach cfg).call 121 [] [.val false [.seq (eL e_GValue a0)], .val false [.seq (eL e_GValue a1)]] = some (.val false [.bool r], [])) (a0 : GValue) (a1 : GValue) (r : Bool) (h : T_laws_eqValue G_laws_eqValueS a0 a1 = some r) : (mach cfg).call 76 [] [.val true [.int .i64 a0.Kind, .int .i64 a0.N, .seq (eL e_u8 a0.S), .seq (eL (e_sl e_u8) a0.K), .seq (eL e_GValue a0.L)], .val true [.int .i64 a1.Kind, .int .i64 a1.N, .seq (eL e_u8 a1.S), .seq (eL (e_sl e_u8) a1.K), .seq (eL e_GValue a1.L)]] = some (.val false [.bool r], []) := by
  unfold T_laws_eqValue at h
  rcases ite_some h with ⟨c1, h⟩ | ⟨c1, h⟩
  ·rcases ite_some h with ⟨c2, h⟩ | ⟨c2, h⟩
   ·obtain ⟨r3, hr3, h⟩ := bs h
    let p76 : List (Q cfg) := [.eT c1, .nt true, .eT c2, .nt true, .cl (ok_laws_eqByteS a0.S a1.S _ hr3)]
    cases r3 with
    | true =>
     try dsimp only at h
     obtain ⟨r5, hr5, h⟩ := bs h
     let p77 : List (Q cfg) := p76 ++ [.nt true, .cl (ok_laws_eqByteSS a0.K a1.K _ hr5)]
     cases r5 with
     | true =>
      try dsimp only at h
      obtain ⟨r7, hr7, h⟩ := bs h
      cases r7 with
      | true =>
       try dsimp only at h
       obtain rfl := Option.some.inj h
       exact call_wQ (p77 ++ [.nt true, .cl (H_laws_eqValueS a0.L a1.L _ hr7), .nt true]) rfl fd_76 (by kernel_rfl)
      | false =>
       try dsimp only at h
       obtain rfl := Option.some.inj h
       exact call_wQ (p77 ++ [.nt true, .cl (H_laws_eqValueS a0.L a1.L _ hr7), .nt false]) rfl fd_76 (by kernel_rfl)
     | false =>
      try dsimp only at h
      obtain rfl := Option.some.inj h
      exact call_wQ (p77 ++ [.nt false]) rfl fd_76 (by kernel_rfl)
    | false =>
     try dsimp only at h
     obtain rfl := Option.some.inj h
     exact call_wQ (p76 ++ [.nt false]) rfl fd_76 (by kernel_rfl)
   ·obtain rfl := Option.some.inj h
    exact call_wQ [.eT c1, .nt true, .eF c2, .nt false] rfl fd_76 (by kernel_rfl)
  ·obtain rfl := Option.some.inj h
   exact call_wQ [.eF c1, .nt false] rfl fd_76 (by kernel_rfl)
mutual
def U_laws_eqValueS : Nat → (List GValue) → (List GValue) → Option Bool
  | 0, _, _ => none
  | n + 1, a0, a1 => T_laws_eqValueS (U_laws_eqValue n) n a0 a1
def U_laws_eqValue : Nat → GValue → GValue → Option Bool
  | 0, _, _ => none
  | n + 1, a0, a1 => T_laws_eqValue (U_laws_eqValueS n) a0 a1
end
theorem rec_laws_eqValueS (n : Nat) : (∀ (a0 : (List GValue)) (a1 : (List GValue)) (r : Bool), U_laws_eqValueS n a0 a1 = some r → (mach cfg).call 121 [] [.val false [.seq (eL e_GValue a0)], .val false [.seq (eL e_GValue a1)]] = some (.val false [.bool r], [])) ∧ (∀ (a0 : GValue) (a1 : GValue) (r : Bool), U_laws_eqValue n a0 a1 = some r → (mach cfg).call 76 [] [.val true [.int .i64 a0.Kind, .int .i64 a0.N, .seq (eL e_u8 a0.S), .seq (eL (e_sl e_u8) a0.K), .seq (eL e_GValue a0.L)], .val true [.int .i64 a1.Kind, .int .i64 a1.N, .seq (eL e_u8 a1.S), .seq (eL (e_sl e_u8) a1.K), .seq (eL e_GValue a1.L)]] = some (.val false [.bool r], [])) := by
  induction n with
  | zero => exact ⟨fun _ _ _ h => (by rw [U_laws_eqValueS] at h; cases h), fun _ _ _ h => (by rw [U_laws_eqValue] at h; cases h)⟩
  | succ n ih =>
    obtain ⟨ih_laws_eqValueS, ih_laws_eqValue⟩ := ih
    exact ⟨fun a0 a1 r h => g_laws_eqValueS (U_laws_eqValue n) ih_laws_eqValue n a0 a1 r (by rw [U_laws_eqValueS] at h; exact h),
      fun a0 a1 r h => g_laws_eqValue (U_laws_eqValueS n) ih_laws_eqValueS a0 a1 r (by rw [U_laws_eqValue] at h; exact h)⟩
theorem eqValueS_T {G : GValue → GValue → Option Bool} {a : List GValue} {f : Nat} (ha : a.length <= 2 ^ 40) (hf : a.length < f) (hG : ∀ v ∈ a, G v v = some true) : T_laws_eqValueS G f a a = some true := by
  have loop : ∀ (d i m : Nat), i + d = a.length → d < m → ∃ z, L_laws_eqValueS_l0 G a a m (i : Int) = some (.inr z) := by
    intro d
    induction d with
    | zero =>
      intro i m hi hm
      obtain ⟨m, rfl, _⟩ := fuel hm
      exact ⟨_, by rw [L_laws_eqValueS_l0, if_neg (by omega)]⟩
    | succ d ih =>
      intro i m hi hm
      obtain ⟨m, rfl, hm'⟩ := fuel hm
      have hil : i < a.length := by omega
      rw [L_laws_eqValueS_l0, if_pos (by omega), natO_nat, Option.bind_some, get_some hil, Option.bind_some, Option.bind_some, hG _ (List.getElem_mem hil), Option.bind_some, w64_succ (by omega)]
      exact ih (i + 1) m (by omega) (by omega)
  obtain ⟨z, hz⟩ := loop a.length 0 f (by omega) (by omega)
  rw [show ((0 : Nat) : Int) = 0 from rfl] at hz
  unfold T_laws_eqValueS
  rw [if_pos rfl, hz]; rfl
theorem eqValue_U : ∀ (N : Nat) (v : GValue), vsz v < N → vsz v <= 2 ^ 40 → ∀ f : Nat, 2 * vsz v + 3 <= f → U_laws_eqValue f v v = some true := by
  intro N
  induction N with
  | zero => intro v hv; omega
  | succ N ih =>
    intro v hv hs f hf
    obtain ⟨f, rfl, _⟩ := fuel (show 0 < f by omega)
    obtain ⟨f, rfl, _⟩ := fuel (show 0 < f by omega)
    have he := vsz_eq v
    have hl := vszs_len v.L
    rw [U_laws_eqValue]
    unfold T_laws_eqValue S_laws_eqByteS S_laws_eqByteSS
    rw [if_pos rfl, if_pos rfl, if_pos (show v.S = v.S ∧ v.S.length <= 2 ^ 40 from ⟨rfl, by omega⟩), Option.bind_some]
    dsimp only
    rw [if_pos (show v.K = v.K ∧ bsz v.K <= 2 ^ 40 from ⟨rfl, by omega⟩), Option.bind_some]
    dsimp only
    rw [U_laws_eqValueS, eqValueS_T (by omega) (by omega) fun x hx => ?_]
    · rfl
    · have := vszs_mem hx
      exact ih x (by omega) (by omega) f (by omega)
open Classical in
noncomputable def S_laws_eqValueS (a0 : (List GValue)) (a1 : (List GValue)) : Option Bool := if a0 = a1 ∧ vszs a0 <= 2 ^ 40 then some true else none
theorem spec_laws_eqValueS (a0 : (List GValue)) (a1 : (List GValue)) (r : Bool) (h : S_laws_eqValueS a0 a1 = some r) : ∃ n, U_laws_eqValueS n a0 a1 = some r := by
  unfold S_laws_eqValueS at h
  obtain ⟨⟨he, ha⟩, h2⟩ := need_c h
  clear h
  subst he
  have hl := vszs_len a0
  refine ⟨2 * vszs a0 + 5, ?_⟩
  rw [U_laws_eqValueS, eqValueS_T (by omega) (by omega) fun x hx => ?_, h2]
  have := vszs_mem hx
  exact eqValue_U _ x (Nat.lt_succ_self _) (by omega) _ (by omega)
open Classical in
noncomputable def S_laws_eqValue (a0 : GValue) (a1 : GValue) : Option Bool := if a0 = a1 ∧ vsz a0 <= 2 ^ 40 then some true else none
theorem spec_laws_eqValue (a0 : GValue) (a1 : GValue) (r : Bool) (h : S_laws_eqValue a0 a1 = some r) : ∃ n, U_laws_eqValue n a0 a1 = some r := by
  unfold S_laws_eqValue at h
  obtain ⟨⟨he, ha⟩, h2⟩ := need_c h
  clear h
  subst he
  exact ⟨2 * vsz a0 + 3, by rw [<- h2]; exact eqValue_U _ a0 (Nat.lt_succ_self _) ha _ (Nat.le_refl _)⟩
theorem ok_laws_eqValueS (a0 : (List GValue)) (a1 : (List GValue)) (r : Bool) (h : S_laws_eqValueS a0 a1 = some r) : (mach cfg).call 121 [] [.val false [.seq (eL e_GValue a0)], .val false [.seq (eL e_GValue a1)]] = some (.val false [.bool r], []) := by
  obtain ⟨n, hn⟩ := spec_laws_eqValueS a0 a1 r h
  exact (rec_laws_eqValueS n).1 a0 a1 r hn
theorem ok_laws_eqValue (a0 : GValue) (a1 : GValue) (r : Bool) (h : S_laws_eqValue a0 a1 = some r) : (mach cfg).call 76 [] [.val true [.int .i64 a0.Kind, .int .i64 a0.N, .seq (eL e_u8 a0.S), .seq (eL (e_sl e_u8) a0.K), .seq (eL e_GValue a0.L)], .val true [.int .i64 a1.Kind, .int .i64 a1.N, .seq (eL e_u8 a1.S), .seq (eL (e_sl e_u8) a1.K), .seq (eL e_GValue a1.L)]] = some (.val false [.bool r], []) := by
  obtain ⟨n, hn⟩ := spec_laws_eqValue a0 a1 r h
  exact (rec_laws_eqValueS n).2 a0 a1 r hn
def S_laws_eqEntry (a0 : GEntry) (a1 : GEntry) : Option Bool :=
  (S_laws_eqByteS a0.Addr a1.Addr).bind fun r1 =>
  match r1 with
  | true =>
    (S_laws_eqValue a0.Val a1.Val).bind fun r3 =>
    match r3 with
    | true =>
      (S_laws_eqByteSS a0.Deps a1.Deps).bind fun r5 =>
      match r5 with
      | true =>
        match a0.Taint with
        | true =>
          match a1.Taint with
          | true =>
            if a0.Turned = a1.Turned then
              some true
            else
              some false
          | false =>
            some false
        | false =>
          match a1.Taint with
          | true =>
            some false
          | false =>
            if a0.Turned = a1.Turned then
              some true
            else
              some false
      | false =>
        some false
    | false =>
      some false
  | false =>
    some false
set_option maxRecDepth 100000 in
theorem fd_31 : cfg.funcs 31 = some (bodyOf Tryz.f31, Tryz.f31.ntmps, Tryz.f31.results.toList) := fn_of Tryz.func31 (by kernel_rfl) (by kernel_rfl)
theorem ok_laws_eqEntry (a0 : GEntry) (a1 : GEntry) (r : Bool) (h : S_laws_eqEntry a0 a1 = some r) : (mach cfg).call 31 [] [.val true [.seq (eL e_u8 a0.Addr), .int .i64 a0.Val.Kind, .int .i64 a0.Val.N, .seq (eL e_u8 a0.Val.S), .seq (eL (e_sl e_u8) a0.Val.K), .seq (eL e_GValue a0.Val.L), .seq (eL (e_sl e_u8) a0.Deps), .bool a0.Taint, .int .i64 a0.Turned], .val true [.seq (eL e_u8 a1.Addr), .int .i64 a1.Val.Kind, .int .i64 a1.Val.N, .seq (eL e_u8 a1.Val.S), .seq (eL (e_sl e_u8) a1.Val.K), .seq (eL e_GValue a1.Val.L), .seq (eL (e_sl e_u8) a1.Deps), .bool a1.Taint, .int .i64 a1.Turned]] = some (.val false [.bool r], []) := by
  unfold S_laws_eqEntry at h
  obtain ⟨r1, hr1, h⟩ := bs h
  cases r1 with
  | true =>
   try dsimp only at h
   obtain ⟨r3, hr3, h⟩ := bs h
   cases r3 with
   | true =>
    try dsimp only at h
    obtain ⟨r5, hr5, h⟩ := bs h
    cases r5 with
    | true =>
     try dsimp only at h
     cases c7 : a0.Taint with
     | true =>
      rw [c7] at h
      try dsimp only at h
      cases c8 : a1.Taint with
      | true =>
       rw [c8] at h
       try dsimp only at h
       rcases ite_some h with ⟨c9, h⟩ | ⟨c9, h⟩
       ·obtain rfl := Option.some.inj h
        exact call_wQ [.cl (ok_laws_eqByteS a0.Addr a1.Addr _ hr1), .nt true, .cl (ok_laws_eqValue a0.Val a1.Val _ hr3), .nt true, .cl (ok_laws_eqByteSS a0.Deps a1.Deps _ hr5), .nt true, ⟨.eqB true true, .b true, rfl⟩, .nt true, .eT c9, .nt true] rfl fd_31 (by kernel_rfl)
       ·obtain rfl := Option.some.inj h
        exact call_wQ [.cl (ok_laws_eqByteS a0.Addr a1.Addr _ hr1), .nt true, .cl (ok_laws_eqValue a0.Val a1.Val _ hr3), .nt true, .cl (ok_laws_eqByteSS a0.Deps a1.Deps _ hr5), .nt true, ⟨.eqB true true, .b true, rfl⟩, .nt true, .eF c9, .nt false] rfl fd_31 (by kernel_rfl)
      | false =>
       rw [c8] at h
       try dsimp only at h
       obtain rfl := Option.some.inj h
       exact call_wQ [.cl (ok_laws_eqByteS a0.Addr a1.Addr _ hr1), .nt true, .cl (ok_laws_eqValue a0.Val a1.Val _ hr3), .nt true, .cl (ok_laws_eqByteSS a0.Deps a1.Deps _ hr5), .nt true, ⟨.eqB true false, .b false, rfl⟩, .nt false] rfl fd_31 (by kernel_rfl)
     | false =>
      rw [c7] at h
      try dsimp only at h
      cases c8 : a1.Taint with
      | true =>
       rw [c8] at h
       try dsimp only at h
       obtain rfl := Option.some.inj h
       exact call_wQ [.cl (ok_laws_eqByteS a0.Addr a1.Addr _ hr1), .nt true, .cl (ok_laws_eqValue a0.Val a1.Val _ hr3), .nt true, .cl (ok_laws_eqByteSS a0.Deps a1.Deps _ hr5), .nt true, ⟨.eqB false true, .b false, rfl⟩, .nt false] rfl fd_31 (by kernel_rfl)
      | false =>
       rw [c8] at h
       try dsimp only at h
       rcases ite_some h with ⟨c9, h⟩ | ⟨c9, h⟩
       ·obtain rfl := Option.some.inj h
        exact call_wQ [.cl (ok_laws_eqByteS a0.Addr a1.Addr _ hr1), .nt true, .cl (ok_laws_eqValue a0.Val a1.Val _ hr3), .nt true, .cl (ok_laws_eqByteSS a0.Deps a1.Deps _ hr5), .nt true, ⟨.eqB false false, .b true, rfl⟩, .nt true, .eT c9, .nt true] rfl fd_31 (by kernel_rfl)
       ·obtain rfl := Option.some.inj h
        exact call_wQ [.cl (ok_laws_eqByteS a0.Addr a1.Addr _ hr1), .nt true, .cl (ok_laws_eqValue a0.Val a1.Val _ hr3), .nt true, .cl (ok_laws_eqByteSS a0.Deps a1.Deps _ hr5), .nt true, ⟨.eqB false false, .b true, rfl⟩, .nt true, .eF c9, .nt false] rfl fd_31 (by kernel_rfl)
    | false =>
     try dsimp only at h
     obtain rfl := Option.some.inj h
     exact call_wQ [.cl (ok_laws_eqByteS a0.Addr a1.Addr _ hr1), .nt true, .cl (ok_laws_eqValue a0.Val a1.Val _ hr3), .nt true, .cl (ok_laws_eqByteSS a0.Deps a1.Deps _ hr5), .nt false] rfl fd_31 (by kernel_rfl)
   | false =>
    try dsimp only at h
    obtain rfl := Option.some.inj h
    exact call_wQ [.cl (ok_laws_eqByteS a0.Addr a1.Addr _ hr1), .nt true, .cl (ok_laws_eqValue a0.Val a1.Val _ hr3), .nt false] rfl fd_31 (by kernel_rfl)
  | false =>
   try dsimp only at h
   obtain rfl := Option.some.inj h
   exact call_wQ [.cl (ok_laws_eqByteS a0.Addr a1.Addr _ hr1), .nt false] rfl fd_31 (by kernel_rfl)
def L_laws_eqEntryS_l0 (a0 : (List GEntry)) (a1 : (List GEntry)) : Nat → Int → Option (Bool ⊕ Int)
  | 0, _ => none
  | m + 1, v2 =>
    if v2 < ((a0.length : Nat) : Int) then
      (natO v2).bind fun i2 =>
      (a0[i2]?).bind fun x3 =>
      (a1[i2]?).bind fun x4 =>
      (S_laws_eqEntry x3 x4).bind fun r5 =>
      match r5 with
      | true =>
        L_laws_eqEntryS_l0 a0 a1 m (w64 (v2 + 1))
      | false =>
        some (.inl false)
    else
      some (.inr v2)
theorem gl_laws_eqEntryS_l0 (a0 : (List GEntry)) (a1 : (List GEntry)) (m : Nat) : ∀ (v2 : Int) (o : (Bool ⊕ Int)), L_laws_eqEntryS_l0 a0 a1 m v2 = some o → (mach cfg).loop 67 (loopB Tryz.f67 0) ⟨[(0, .val false [.seq (eL e_GEntry a0)]), (1, .val false [.seq (eL e_GEntry a1)]), (5, .val false [.int .i64 v2])], [], 0⟩ = some (match o with | .inl o_0 => (.ret, (⟨[(4, .val false [.bool o_0])], [], 0⟩ : S)) | .inr (o_1) => (.exit 0, (⟨[(0, .val false [.seq (eL e_GEntry a0)]), (1, .val false [.seq (eL e_GEntry a1)]), (5, .val false [.int .i64 o_1]), (14, .val false [.bool false])], [], 0⟩ : S))) := by
  induction m with
  | zero => intro v2 o h; cases h
  | succ m ih =>
    intro v2 o h
    rw [L_laws_eqEntryS_l0] at h
    rcases ite_some h with ⟨c1, h⟩ | ⟨c1, h⟩
    ·obtain ⟨i2, hi2, h⟩ := bs h
     obtain ⟨x3, hx3, h⟩ := bs h
     obtain ⟨x4, hx4, h⟩ := bs h
     obtain ⟨r5, hr5, h⟩ := bs h
     let p78 : List (Q cfg) := [.le e_GEntry a0, .lT c1, .na hi2, .ix hx3 (eq_GEntry x3), .na hi2, .ix hx4 (eq_GEntry x4), .cl (ok_laws_eqEntry x3 x4 _ hr5)]
     cases r5 with
     | true =>
      try dsimp only at h
      exact loop_nQ (p78 ++ [.nt true, .ad v2 1]) (by kernel_rfl) (ih (w64 (v2 + 1)) o h)
     | false =>
      try dsimp only at h
      obtain rfl := Option.some.inj h
      exact loop_eQ (p78 ++ [.nt false]) (by kernel_rfl) (by intro h; cases h)
    ·obtain rfl := Option.some.inj h
     exact loop_eQ [.le e_GEntry a0, .lF c1] (by kernel_rfl) (by intro h; cases h)
def T_laws_eqEntryS (n : Nat) (a0 : (List GEntry)) (a1 : (List GEntry)) : Option Bool :=
  if ((a0.length : Nat) : Int) = ((a1.length : Nat) : Int) then
    (L_laws_eqEntryS_l0 a0 a1 n 0).bind fun o2 =>
    match o2 with
    | .inl o2_0 =>
      some o2_0
    | .inr (o2_1) =>
      some true
  else
    some false
set_option maxRecDepth 100000 in
theorem fd_67 : cfg.funcs 67 = some (bodyOf Tryz.f67, Tryz.f67.ntmps, Tryz.f67.results.toList) := fn_of Tryz.func67 (by kernel_rfl) (by kernel_rfl)
theorem g_laws_eqEntryS (n : Nat) (a0 : (List GEntry)) (a1 : (List GEntry)) (r : Bool) (h : T_laws_eqEntryS n a0 a1 = some r) : (mach cfg).call 67 [] [.val false [.seq (eL e_GEntry a0)], .val false [.seq (eL e_GEntry a1)]] = some (.val false [.bool r], []) := by
  unfold T_laws_eqEntryS at h
  rcases ite_some h with ⟨c1, h⟩ | ⟨c1, h⟩
  ·obtain ⟨o2, ho2, h⟩ := bs h
   let p79 : List (Q cfg) := [.le e_GEntry a0, .le e_GEntry a1, .eT c1, .nt true, .lp (gl_laws_eqEntryS_l0 a0 a1 _ 0 _ ho2)]
   rcases o2 with o2_0 | o2_1
   · try dsimp only at h
     obtain rfl := Option.some.inj h
     exact call_wQ p79 rfl fd_67 (by kernel_rfl)
   · try dsimp only at h
     obtain rfl := Option.some.inj h
     exact call_wQ p79 rfl fd_67 (by kernel_rfl)
  ·obtain rfl := Option.some.inj h
   exact call_wQ [.le e_GEntry a0, .le e_GEntry a1, .eF c1, .nt false] rfl fd_67 (by kernel_rfl)
theorem eqEntryS_loop {a : List GEntry} (ha : a.length <= 2 ^ 40) (hG : ∀ v ∈ a, S_laws_eqEntry v v = some true) : ∀ (d i m : Nat), i + d = a.length → d < m → ∃ z, L_laws_eqEntryS_l0 a a m (i : Int) = some (.inr z) := by
  intro d
  induction d with
  | zero =>
    intro i m hi hm
    obtain ⟨m, rfl, _⟩ := fuel hm
    exact ⟨_, by rw [L_laws_eqEntryS_l0, if_neg (by omega)]⟩
  | succ d ih =>
    intro i m hi hm
    obtain ⟨m, rfl, hm'⟩ := fuel hm
    have hil : i < a.length := by omega
    rw [L_laws_eqEntryS_l0, if_pos (by omega), natO_nat, Option.bind_some, get_some hil, Option.bind_some, Option.bind_some, hG _ (List.getElem_mem hil), Option.bind_some, w64_succ (by omega)]
    exact ih (i + 1) m (by omega) (by omega)
theorem eqEntry_eq {v : GEntry} (h : esz v <= 2 ^ 39) : S_laws_eqEntry v v = some true := by
  unfold esz at h
  unfold S_laws_eqEntry S_laws_eqByteS S_laws_eqValue S_laws_eqByteSS
  rw [if_pos ⟨rfl, by omega⟩, Option.bind_some]
  dsimp only
  rw [if_pos ⟨rfl, by omega⟩, Option.bind_some]
  dsimp only
  rw [if_pos ⟨rfl, by omega⟩, Option.bind_some]
  dsimp only
  rw [if_pos rfl]
  cases v.Taint <;> rfl
open Classical in
noncomputable def S_laws_eqEntryS (a0 : (List GEntry)) (a1 : (List GEntry)) : Option Bool := if a0 = a1 ∧ eszs a0 <= 2 ^ 39 then some true else none
theorem eqEntryS_eq {s : List GEntry} (h : eszs s <= 2 ^ 39) : S_laws_eqEntryS s s = some true := if_pos ⟨rfl, h⟩
theorem spec_laws_eqEntryS (a0 : (List GEntry)) (a1 : (List GEntry)) (r : Bool) (h : S_laws_eqEntryS a0 a1 = some r) : ∃ n, T_laws_eqEntryS n a0 a1 = some r := by
  unfold S_laws_eqEntryS at h
  obtain ⟨⟨he, ha⟩, h2⟩ := need_c h
  clear h
  subst he
  have hl := eszs_len a0
  refine ⟨a0.length + 1, ?_⟩
  obtain ⟨z, hz⟩ := eqEntryS_loop (a := a0) (by omega) (fun v hv => eqEntry_eq (by have := eszs_mem hv; omega)) a0.length 0 (a0.length + 1) (by omega) (by omega)
  rw [show ((0 : Nat) : Int) = 0 from rfl] at hz
  unfold T_laws_eqEntryS
  rw [if_pos rfl, hz]; exact h2
theorem ok_laws_eqEntryS (a0 : (List GEntry)) (a1 : (List GEntry)) (r : Bool) (h : S_laws_eqEntryS a0 a1 = some r) : (mach cfg).call 67 [] [.val false [.seq (eL e_GEntry a0)], .val false [.seq (eL e_GEntry a1)]] = some (.val false [.bool r], []) := by
  obtain ⟨n, hn⟩ := spec_laws_eqEntryS a0 a1 r h
  exact g_laws_eqEntryS n a0 a1 r hn
def S_laws_eqState (a0 : GState) (a1 : GState) : Option Bool :=
  if a0.Serial = a1.Serial then
    match a0.Open with
    | true =>
      match a1.Open with
      | true =>
        (S_laws_eqByteS a0.Pending a1.Pending).bind fun r4 =>
        match r4 with
        | true =>
          if a0.Act = a1.Act then
            (S_laws_eqEntryS a0.Entries a1.Entries).bind fun r7 =>
            match r7 with
            | true =>
              some true
            | false =>
              some false
          else
            some false
        | false =>
          some false
      | false =>
        some false
    | false =>
      match a1.Open with
      | true =>
        some false
      | false =>
        (S_laws_eqByteS a0.Pending a1.Pending).bind fun r4 =>
        match r4 with
        | true =>
          if a0.Act = a1.Act then
            (S_laws_eqEntryS a0.Entries a1.Entries).bind fun r7 =>
            match r7 with
            | true =>
              some true
            | false =>
              some false
          else
            some false
        | false =>
          some false
  else
    some false
set_option maxRecDepth 100000 in
theorem fd_17 : cfg.funcs 17 = some (bodyOf Tryz.f17, Tryz.f17.ntmps, Tryz.f17.results.toList) := fn_of Tryz.func17 (by kernel_rfl) (by kernel_rfl)
theorem ok_laws_eqState (a0 : GState) (a1 : GState) (r : Bool) (h : S_laws_eqState a0 a1 = some r) : (mach cfg).call 17 [] [.val true [.int .i64 a0.Serial, .bool a0.Open, .seq (eL e_u8 a0.Pending), .int .i64 a0.Act, .seq (eL e_GEntry a0.Entries)], .val true [.int .i64 a1.Serial, .bool a1.Open, .seq (eL e_u8 a1.Pending), .int .i64 a1.Act, .seq (eL e_GEntry a1.Entries)]] = some (.val false [.bool r], []) := by
  unfold S_laws_eqState at h
  rcases ite_some h with ⟨c1, h⟩ | ⟨c1, h⟩
  ·let p80 : List (Q cfg) := [.eT c1, .nt true]
   cases c2 : a0.Open with
   | true =>
    rw [c2] at h
    try dsimp only at h
    cases c3 : a1.Open with
    | true =>
     rw [c3] at h
     try dsimp only at h
     obtain ⟨r4, hr4, h⟩ := bs h
     let p81 : List (Q cfg) := p80 ++ [⟨.eqB true true, .b true, rfl⟩, .nt true]
     cases r4 with
     | true =>
      try dsimp only at h
      rcases ite_some h with ⟨c6, h⟩ | ⟨c6, h⟩
      ·obtain ⟨r7, hr7, h⟩ := bs h
       let p82 : List (Q cfg) := p81 ++ [.cl (ok_laws_eqByteS a0.Pending a1.Pending _ hr4), .nt true, .eT c6, .nt true, .cl (ok_laws_eqEntryS a0.Entries a1.Entries _ hr7)]
       cases r7 with
       | true =>
        try dsimp only at h
        obtain rfl := Option.some.inj h
        exact call_wQ (p82 ++ [.nt true]) rfl fd_17 (by kernel_rfl)
       | false =>
        try dsimp only at h
        obtain rfl := Option.some.inj h
        exact call_wQ (p82 ++ [.nt false]) rfl fd_17 (by kernel_rfl)
      ·obtain rfl := Option.some.inj h
       exact call_wQ (p81 ++ [.cl (ok_laws_eqByteS a0.Pending a1.Pending _ hr4), .nt true, .eF c6, .nt false]) rfl fd_17 (by kernel_rfl)
     | false =>
      try dsimp only at h
      obtain rfl := Option.some.inj h
      exact call_wQ (p81 ++ [.cl (ok_laws_eqByteS a0.Pending a1.Pending _ hr4), .nt false]) rfl fd_17 (by kernel_rfl)
    | false =>
     rw [c3] at h
     try dsimp only at h
     obtain rfl := Option.some.inj h
     exact call_wQ (p80 ++ [⟨.eqB true false, .b false, rfl⟩, .nt false]) rfl fd_17 (by kernel_rfl)
   | false =>
    rw [c2] at h
    try dsimp only at h
    cases c3 : a1.Open with
    | true =>
     rw [c3] at h
     try dsimp only at h
     obtain rfl := Option.some.inj h
     exact call_wQ (p80 ++ [⟨.eqB false true, .b false, rfl⟩, .nt false]) rfl fd_17 (by kernel_rfl)
    | false =>
     rw [c3] at h
     try dsimp only at h
     obtain ⟨r4, hr4, h⟩ := bs h
     let p83 : List (Q cfg) := p80 ++ [⟨.eqB false false, .b true, rfl⟩, .nt true]
     cases r4 with
     | true =>
      try dsimp only at h
      rcases ite_some h with ⟨c6, h⟩ | ⟨c6, h⟩
      ·obtain ⟨r7, hr7, h⟩ := bs h
       let p84 : List (Q cfg) := p83 ++ [.cl (ok_laws_eqByteS a0.Pending a1.Pending _ hr4), .nt true, .eT c6, .nt true, .cl (ok_laws_eqEntryS a0.Entries a1.Entries _ hr7)]
       cases r7 with
       | true =>
        try dsimp only at h
        obtain rfl := Option.some.inj h
        exact call_wQ (p84 ++ [.nt true]) rfl fd_17 (by kernel_rfl)
       | false =>
        try dsimp only at h
        obtain rfl := Option.some.inj h
        exact call_wQ (p84 ++ [.nt false]) rfl fd_17 (by kernel_rfl)
      ·obtain rfl := Option.some.inj h
       exact call_wQ (p83 ++ [.cl (ok_laws_eqByteS a0.Pending a1.Pending _ hr4), .nt true, .eF c6, .nt false]) rfl fd_17 (by kernel_rfl)
     | false =>
      try dsimp only at h
      obtain rfl := Option.some.inj h
      exact call_wQ (p83 ++ [.cl (ok_laws_eqByteS a0.Pending a1.Pending _ hr4), .nt false]) rfl fd_17 (by kernel_rfl)
  ·obtain rfl := Option.some.inj h
   exact call_wQ [.eF c1, .nt false] rfl fd_17 (by kernel_rfl)
def L_laws_markByteS_l0 : Nat → Int → Int → (List UInt8) → Option (Int × Int × (List UInt8))
  | 0, _, _, _ => none
  | m + 1, a0, v1, e0 =>
    if v1 < ((e0.length : Nat) : Int) then
      (natO v1).bind fun i2 =>
      (e0[i2]?).bind fun x3 =>
      L_laws_markByteS_l0 m (w64 (a0 + 1)) (w64 (v1 + 1)) (e0.set i2 (b8 a0))
    else
      some (a0, v1, e0)
theorem gl_laws_markByteS_l0 (m : Nat) : ∀ (a0 : Int) (v1 : Int) (e0 : (List UInt8)) (o : (Int × Int × (List UInt8))), L_laws_markByteS_l0 m a0 v1 e0 = some o → (mach cfg).loop 28 (loopB Tryz.f28 0) ⟨[(0, .val false [.ref 0]), (1, .val false [.int .i64 a0]), (5, .val false [.int .i64 v1])], [.obj 1 (eL e_u8 e0)], 1⟩ = some (match o with | ⟨o_0, o_1, o_2⟩ => (.exit 0, (⟨[(0, .val false [.ref 0]), (1, .val false [.int .i64 o_0]), (5, .val false [.int .i64 o_1]), (9, .val false [.bool false])], [.obj 1 (eL e_u8 o_2)], 1⟩ : S))) := by
  induction m with
  | zero => intro a0 v1 e0 o h; cases h
  | succ m ih =>
    intro a0 v1 e0 o h
    rw [L_laws_markByteS_l0] at h
    rcases ite_some h with ⟨c1, h⟩ | ⟨c1, h⟩
    ·obtain ⟨i2, hi2, h⟩ := bs h
     obtain ⟨x3, hx3, h⟩ := bs h
     exact loop_nQ [.le e_u8 e0, .lT c1, ⟨.conv .u8 a0, .i (((b8 a0).toNat : Nat) : Int), A.conv8⟩, .na hi2, .ix0 e_u8 hx3, .ix0 e_u8 hx3, ⟨.setL (eL e_u8 e0) i2 [.int .u8 (((b8 a0).toNat : Nat) : Int)], .l (eL e_u8 (e0.set i2 (b8 a0))), (A.setL rfl)⟩, .ad a0 1, .ad v1 1] (by kernel_rfl) (ih (w64 (a0 + 1)) (w64 (v1 + 1)) (e0.set i2 (b8 a0)) o h)
    ·obtain rfl := Option.some.inj h
     exact loop_eQ [.le e_u8 e0, .lF c1] (by kernel_rfl) (by intro h; cases h)
def T_laws_markByteS (n : Nat) (a0 : Int) (e0 : (List UInt8)) : Option (Int × (List UInt8)) :=
  (L_laws_markByteS_l0 n a0 0 e0).bind fun ⟨o1_0, o1_1, o1_2⟩ =>
  some (o1_0, o1_2)
set_option maxRecDepth 100000 in
theorem fd_28 : cfg.funcs 28 = some (bodyOf Tryz.f28, Tryz.f28.ntmps, Tryz.f28.results.toList) := fn_of Tryz.func28 (by kernel_rfl) (by kernel_rfl)
theorem g_laws_markByteS (n : Nat) (a0 : Int) (e0 : (List UInt8)) (r : (Int × (List UInt8))) (h : T_laws_markByteS n a0 e0 = some r) : (mach cfg).call 28 [.obj 1 (eL e_u8 e0)] [.val false [.ref 0], .val false [.int .i64 a0]] = some (.val false [.int .i64 r.1], [.obj 1 (eL e_u8 r.2)]) := by
  unfold T_laws_markByteS at h
  obtain ⟨⟨o1_0, o1_1, o1_2⟩, ho1, h⟩ := bs h
  try dsimp only at h
  obtain rfl := Option.some.inj h
  exact call_wQ [.lp (gl_laws_markByteS_l0 _ a0 0 e0 _ ho1)] rfl fd_28 (by kernel_rfl)
theorem markByteS_loop : ∀ (l p : List UInt8) (k : Int) (m : Nat), 0 <= k → k + 2 * l.length <= 2 ^ 41 → p.length + l.length <= 2 ^ 41 → l.length < m → ∃ z, L_laws_markByteS_l0 m k ((p.length : Nat) : Int) (p ++ l) = some (k + l.length, z, p ++ mB k l) := by
  intro l
  induction l with
  | nil =>
    intro p k m _ _ _ hm
    obtain ⟨m, rfl, _⟩ := fuel hm
    exact ⟨_, by rw [L_laws_markByteS_l0, if_neg (nlt_end p)]; simp [mB]; rfl⟩
  | cons x l ih =>
    intro p k m h0 h1 h2 hm
    obtain ⟨m, rfl, hm'⟩ := fuel hm
    simp only [List.length_cons] at h1 h2 hm'
    obtain ⟨z, hz⟩ := ih (p ++ [b8 k]) (k + 1) m (by omega) (by omega) (by simp; omega) (by omega)
    rw [L_laws_markByteS_l0, if_pos (lt_mid p x l), natO_nat, Option.bind_some, get_mid, Option.bind_some, set_mid, w64_len p (b8 k) (by omega), w64_id (x := k + 1) (by omega) (by omega), snoc_app p (b8 k) l, hz]
    refine ⟨z, ?_⟩
    rw [mB, snoc_app p (b8 k) (mB (k + 1) l)]
    simp only [List.length_cons]
    rw [show k + 1 + (l.length : Int) = k + ((l.length + 1 : Nat) : Int) by omega]
def S_laws_markByteS (a0 : Int) (e0 : (List UInt8)) : Option (Int × (List UInt8)) := if 0 <= a0 ∧ a0 + 2 * e0.length <= 2 ^ 41 then some (a0 + e0.length, mB a0 e0) else none
theorem markByteS_eq {a : Int} {s : List UInt8} (h0 : 0 <= a) (h1 : a + 2 * s.length <= 2 ^ 41) : S_laws_markByteS a s = some (a + s.length, mB a s) := if_pos ⟨h0, h1⟩
theorem spec_laws_markByteS (a0 : Int) (e0 : (List UInt8)) (r : (Int × (List UInt8))) (h : S_laws_markByteS a0 e0 = some r) : ∃ n, T_laws_markByteS n a0 e0 = some r := by
  unfold S_laws_markByteS at h
  obtain ⟨⟨h0, h1⟩, h⟩ := need_c h
  obtain ⟨z, hz⟩ := markByteS_loop e0 [] a0 (e0.length + 1) h0 h1 (by simp; omega) (by omega)
  refine ⟨e0.length + 1, ?_⟩
  unfold T_laws_markByteS
  simp only [List.nil_append, List.length_nil, Int.natCast_zero] at hz
  rw [hz]
  exact h
theorem ok_laws_markByteS (a0 : Int) (e0 : (List UInt8)) (r : (Int × (List UInt8))) (h : S_laws_markByteS a0 e0 = some r) : (mach cfg).call 28 [.obj 1 (eL e_u8 e0)] [.val false [.ref 0], .val false [.int .i64 a0]] = some (.val false [.int .i64 r.1], [.obj 1 (eL e_u8 r.2)]) := by
  obtain ⟨n, hn⟩ := spec_laws_markByteS a0 e0 r h
  exact g_laws_markByteS n a0 e0 r hn
def L_laws_markByteSS_l0 : Nat → Int → Int → (List (List UInt8)) → Option (Int × Int × (List (List UInt8)))
  | 0, _, _, _ => none
  | m + 1, a0, v1, e0 =>
    if v1 < ((e0.length : Nat) : Int) then
      (natO v1).bind fun i2 =>
      (e0[i2]?).bind fun x3 =>
      (S_laws_markByteS a0 x3).bind fun ⟨r4_0, r4_1⟩ =>
      L_laws_markByteSS_l0 m r4_0 (w64 (v1 + 1)) (e0.set i2 r4_1)
    else
      some (a0, v1, e0)
theorem gl_laws_markByteSS_l0 (m : Nat) : ∀ (a0 : Int) (v1 : Int) (e0 : (List (List UInt8))) (o : (Int × Int × (List (List UInt8)))), L_laws_markByteSS_l0 m a0 v1 e0 = some o → (mach cfg).loop 22 (loopB Tryz.f22 0) ⟨[(0, .val false [.ref 0]), (1, .val false [.int .i64 a0]), (5, .val false [.int .i64 v1])], [.obj 1 (eL (o_sl 1 e_u8) e0)], 1⟩ = some (match o with | ⟨o_0, o_1, o_2⟩ => (.exit 0, (⟨[(0, .val false [.ref 0]), (1, .val false [.int .i64 o_0]), (5, .val false [.int .i64 o_1]), (9, .val false [.bool false])], [.obj 1 (eL (o_sl 1 e_u8) o_2)], 1⟩ : S))) := by
  induction m with
  | zero => intro a0 v1 e0 o h; cases h
  | succ m ih =>
    intro a0 v1 e0 o h
    rw [L_laws_markByteSS_l0] at h
    rcases ite_some h with ⟨c1, h⟩ | ⟨c1, h⟩
    ·obtain ⟨i2, hi2, h⟩ := bs h
     obtain ⟨x3, hx3, h⟩ := bs h
     obtain ⟨⟨r4_0, r4_1⟩, hr4, h⟩ := bs h
     try dsimp only at h
     exact loop_nQ [.le (o_sl 1 e_u8) e0, .lT c1, .na hi2, .ix0 (o_sl 1 e_u8) hx3, .ix0 (o_sl 1 e_u8) hx3, .cl (ok_laws_markByteS a0 x3 _ hr4), .ix0 (o_sl 1 e_u8) hx3, ⟨.setL (eL (o_sl 1 e_u8) e0) i2 [.own 1 (eL e_u8 r4_1)], .l (eL (o_sl 1 e_u8) (e0.set i2 r4_1)), (A.setL rfl)⟩, .ad v1 1] (by kernel_rfl) (ih r4_0 (w64 (v1 + 1)) (e0.set i2 r4_1) o h)
    ·obtain rfl := Option.some.inj h
     exact loop_eQ [.le (o_sl 1 e_u8) e0, .lF c1] (by kernel_rfl) (by intro h; cases h)
def T_laws_markByteSS (n : Nat) (a0 : Int) (e0 : (List (List UInt8))) : Option (Int × (List (List UInt8))) :=
  (L_laws_markByteSS_l0 n a0 0 e0).bind fun ⟨o1_0, o1_1, o1_2⟩ =>
  some (o1_0, o1_2)
set_option maxRecDepth 100000 in
theorem fd_22 : cfg.funcs 22 = some (bodyOf Tryz.f22, Tryz.f22.ntmps, Tryz.f22.results.toList) := fn_of Tryz.func22 (by kernel_rfl) (by kernel_rfl)
theorem g_laws_markByteSS (n : Nat) (a0 : Int) (e0 : (List (List UInt8))) (r : (Int × (List (List UInt8)))) (h : T_laws_markByteSS n a0 e0 = some r) : (mach cfg).call 22 [.obj 1 (eL (o_sl 1 e_u8) e0)] [.val false [.ref 0], .val false [.int .i64 a0]] = some (.val false [.int .i64 r.1], [.obj 1 (eL (o_sl 1 e_u8) r.2)]) := by
  unfold T_laws_markByteSS at h
  obtain ⟨⟨o1_0, o1_1, o1_2⟩, ho1, h⟩ := bs h
  try dsimp only at h
  obtain rfl := Option.some.inj h
  exact call_wQ [.lp (gl_laws_markByteSS_l0 _ a0 0 e0 _ ho1)] rfl fd_22 (by kernel_rfl)
theorem markByteSS_loop : ∀ (l p : List (List UInt8)) (k : Int) (m : Nat), 0 <= k → k + 2 * bsz l <= 2 ^ 41 → p.length + l.length <= 2 ^ 41 → l.length < m → ∃ z, L_laws_markByteSS_l0 m k ((p.length : Nat) : Int) (p ++ l) = some (k + cB l, z, p ++ mBB k l) := by
  intro l
  induction l with
  | nil =>
    intro p k m _ _ _ hm
    obtain ⟨m, rfl, _⟩ := fuel hm
    exact ⟨_, by rw [L_laws_markByteSS_l0, if_neg (nlt_end p)]; simp [mBB, cB]; rfl⟩
  | cons x l ih =>
    intro p k m h0 h1 h2 hm
    obtain ⟨m, rfl, hm'⟩ := fuel hm
    rw [bsz_cons] at h1
    simp only [List.length_cons] at h2 hm'
    obtain ⟨z, hz⟩ := ih (p ++ [mB k x]) (k + x.length) m (by omega) (by omega) (by simp; omega) (by omega)
    rw [L_laws_markByteSS_l0, if_pos (lt_mid p x l), natO_nat, Option.bind_some, get_mid, Option.bind_some, markByteS_eq (by omega) (by omega), Option.bind_some]
    dsimp only
    rw [set_mid, w64_len p (mB k x) (by omega), snoc_app p (mB k x) l, hz]
    refine ⟨z, ?_⟩
    rw [mBB, snoc_app p (mB k x) (mBB (k + x.length) l), cB_cons]
    rw [show k + (x.length : Int) + (cB l : Int) = k + ((x.length + cB l : Nat) : Int) by omega]
def S_laws_markByteSS (a0 : Int) (e0 : (List (List UInt8))) : Option (Int × (List (List UInt8))) := if 0 <= a0 ∧ a0 + 2 * bsz e0 <= 2 ^ 41 then some (a0 + cB e0, mBB a0 e0) else none
theorem markByteSS_eq {a : Int} {s : List (List UInt8)} (h0 : 0 <= a) (h1 : a + 2 * bsz s <= 2 ^ 41) : S_laws_markByteSS a s = some (a + cB s, mBB a s) := if_pos ⟨h0, h1⟩
theorem spec_laws_markByteSS (a0 : Int) (e0 : (List (List UInt8))) (r : (Int × (List (List UInt8)))) (h : S_laws_markByteSS a0 e0 = some r) : ∃ n, T_laws_markByteSS n a0 e0 = some r := by
  unfold S_laws_markByteSS at h
  obtain ⟨⟨h0, h1⟩, h⟩ := need_c h
  have := bsz_len e0
  obtain ⟨z, hz⟩ := markByteSS_loop e0 [] a0 (e0.length + 1) h0 h1 (by simp; omega) (by omega)
  refine ⟨e0.length + 1, ?_⟩
  unfold T_laws_markByteSS
  simp only [List.nil_append, List.length_nil, Int.natCast_zero] at hz
  rw [hz]
  exact h
theorem ok_laws_markByteSS (a0 : Int) (e0 : (List (List UInt8))) (r : (Int × (List (List UInt8)))) (h : S_laws_markByteSS a0 e0 = some r) : (mach cfg).call 22 [.obj 1 (eL (o_sl 1 e_u8) e0)] [.val false [.ref 0], .val false [.int .i64 a0]] = some (.val false [.int .i64 r.1], [.obj 1 (eL (o_sl 1 e_u8) r.2)]) := by
  obtain ⟨n, hn⟩ := spec_laws_markByteSS a0 e0 r h
  exact g_laws_markByteSS n a0 e0 r hn
end
end Go.Am.Try
