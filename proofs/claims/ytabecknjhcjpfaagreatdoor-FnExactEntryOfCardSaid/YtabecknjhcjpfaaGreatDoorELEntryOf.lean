/- The law of FnExactEntryOf, in plain terms. -/
import Derived.Test.YtabecknjhcjpfaaGreatDoorEG5
set_option linter.unusedVariables false
set_option linter.unusedSimpArgs false
namespace Go.Am.Try
open Go.Am
noncomputable section
def MdS (s : GState) : Prop := s.Pending.length <= 2 ^ 63 - 1 ∧ s.Entries.length <= 2 ^ 63 - 1 ∧ MdEns s.Entries
theorem szS_eq {s : GState} {n : Int} (h : MdS s) (h0 : 0 <= n) (h1 : n <= 2 ^ 20) : S_laws_szState s n = some (leftV (ssz s) n) := by
  unfold S_laws_szState
  rw [szByteS_eq h.1 h0 h1, Option.bind_some]
  unfold leftV ssz
  by_cases c1 : (s.Pending.length : Int) <= n
  · rw [if_pos c1, if_neg (by omega)]
    unfold S_laws_szEntryS
    rw [if_pos ⟨h.2.1, h.2.2, by omega, by omega⟩, Option.bind_some]
    unfold leftV
    by_cases c2 : (eszs s.Entries : Int) <= n - s.Pending.length
    · rw [if_pos c2, if_neg (by omega), if_pos (by omega)]; congr 1; omega
    · rw [if_neg c2, if_pos (by omega), if_neg (by omega)]
  · rw [if_neg c1, if_pos (by omega), if_neg (by omega)]
theorem toS_eq {s : GState} (h : ssz s <= 2 ^ 20) : S_laws_toState s = some s := by
  unfold ssz at h
  unfold S_laws_toState S_laws_toByteS S_laws_toEntryS
  rw [if_pos (by omega), Option.bind_some, if_pos (by omega), Option.bind_some]
  cases s; rfl
theorem eqS_eq {s : GState} (h : ssz s <= 2 ^ 39) : S_laws_eqState s s = some true := by
  unfold ssz at h
  unfold S_laws_eqState S_laws_eqByteS
  rw [if_pos rfl]
  cases s.Open <;> (dsimp only; rw [if_pos ⟨rfl, by omega⟩, Option.bind_some]; dsimp only; rw [if_pos rfl, eqEntryS_eq (by omega), Option.bind_some])
theorem toB_eq {s : List UInt8} (h : s.length <= 2 ^ 20) : S_laws_toByteS s = some s := if_pos h
theorem eqB_eq {s : List UInt8} (h : s.length <= 2 ^ 39) : S_laws_eqByteS s s = some true := if_pos ⟨rfl, by omega⟩
theorem markS_eq {s : GState} {k : Int} (h0 : 0 <= k) (h1 : k + 4 * ssz s <= 2 ^ 39) : ∃ (k' : Int) (a : List UInt8) (b : List GEntry), S_laws_markState s.Serial s.Open s.Act k s.Pending s.Entries = some (k', a, b) ∧ 0 <= k' ∧ k' <= k + 4 * ssz s := by
  unfold ssz at h1 ⊢
  have := cEs_le s.Entries
  unfold S_laws_markState
  rw [markByteS_eq (by omega) (by omega), Option.bind_some]
  dsimp only
  rw [markEntryS_eq (by omega) (by omega), Option.bind_some]
  exact ⟨_, _, _, rfl, by omega, by omega⟩
theorem markVi_eq {g : GValue} {i : Int} (h : vsz g <= 2 ^ 30) (h0 : 0 <= i) (h1 : i <= 2 ^ 39) : ∃ (k : Int) (a : List UInt8) (b : List (List UInt8)) (c : List GValue), S_laws_markValue g.Kind g.N i g.S g.K g.L = some (k, a, b, c) ∧ i <= k ∧ k <= i + 2 * vsz g ∧ ∀ kd n, S_laws_heldValue (GValue.mk kd n a b c) i = some k := by
  have he := vsz_eq g
  have hb := bsz_cB g.K
  have hc := cVs_le g.L
  generalize g.Kind = kd0
  generalize g.N = n0
  generalize g.S = s at he ⊢
  generalize g.K = k at he hb ⊢
  generalize g.L = l at he hc ⊢
  unfold S_laws_markValue
  rw [markByteS_eq (by omega) (by omega), Option.bind_some]
  dsimp only
  rw [markByteSS_eq (by omega) (by omega), Option.bind_some]
  dsimp only
  rw [markValueS_eq (by omega) (by omega), Option.bind_some]
  refine ⟨_, _, _, _, rfl, by omega, by omega, fun kd n => ?_⟩
  unfold S_laws_heldValue
  simp only [GValue.S, GValue.K, GValue.L]
  rw [heldByteS_eq (mB_idem _ _) (by omega) (by rw [mB_len]; omega), Option.bind_some, mB_len, if_neg (by omega), heldByteSS_eq (mBB_idem _ _) (by omega) (by rw [bsz_mBB]; omega), Option.bind_some, cB_mBB, if_neg (by omega), heldValueS_eq (mVs_idem _ _) (by omega) (by rw [vszs_m]; omega), Option.bind_some, cVs_m, if_neg (by omega)]
theorem markEn_eq {g : GEntry} (h : esz g <= 2 ^ 30) : ∃ (k : Int) (a b : List UInt8) (c : List (List UInt8)) (d : List GValue) (e : List (List UInt8)), S_laws_markEntry g.Val.Kind g.Val.N g.Taint g.Turned 1 g.Addr g.Val.S g.Val.K g.Val.L g.Deps = some (k, a, b, c, d, e) ∧ 0 <= k ∧ S_laws_heldEntry (GEntry.mk a (GValue.mk g.Val.Kind g.Val.N b c d) e g.Taint g.Turned) 1 = some k := by
  unfold esz at h
  have hd := bsz_cB g.Deps
  obtain ⟨k, a, b, c, hm, h1, h2, hh⟩ := markVi_eq (g := g.Val) (i := 1 + (g.Addr.length : Int)) (by omega) (by omega) (by omega)
  unfold S_laws_markEntry
  rw [markByteS_eq (by decide) (by omega), Option.bind_some]
  dsimp only
  rw [hm, Option.bind_some]
  dsimp only
  rw [markByteSS_eq (by omega) (by omega), Option.bind_some]
  refine ⟨_, _, _, _, _, _, rfl, by omega, ?_⟩
  generalize g.Addr = ad at *
  generalize g.Deps = dp at *
  unfold S_laws_heldEntry
  simp only [GEntry.Addr, GEntry.Val, GEntry.Deps]
  rw [heldByteS_eq (mB_idem _ _) (by decide) (by rw [mB_len]; omega), Option.bind_some, mB_len, if_neg (by omega), hh, Option.bind_some, if_neg (by omega), heldByteSS_eq (mBB_idem _ _) (by omega) (by rw [bsz_mBB]; omega), Option.bind_some, cB_mBB, if_neg (by omega)]
theorem findA_get {a : List UInt8} : ∀ (l : List GEntry) (i : Nat), hasB l a = true → ∃ k, findA l a i = ((i + k : Nat) : Int) ∧ ∃ e, l[k]? = some e ∧ e.Addr = a
  | [], i, h => by simp [hasB] at h
  | e :: l, i, h => by
    rw [findA]
    by_cases he : e.Addr = a
    · exact ⟨0, by rw [if_pos he]; rfl, e, rfl, he⟩
    · have h' : hasB l a = true := by
        unfold hasB at h ⊢
        rw [List.any_cons, decide_eq_false he, Bool.false_or] at h
        exact h
      obtain ⟨k, h1, e', h2, h3⟩ := findA_get l (i + 1) h'
      exact ⟨k + 1, by rw [if_neg he, h1]; congr 1; omega, e', by simpa using h2, h3⟩
theorem asc_inj {l : List (List UInt8)} (h : Asc l) {i j : Nat} {x : List UInt8} (hi : l[i]? = some x) (hj : l[j]? = some x) : i = j := by
  obtain ⟨hi1, hi2⟩ := List.getElem?_eq_some_iff.1 hi
  obtain ⟨hj1, hj2⟩ := List.getElem?_eq_some_iff.1 hj
  rcases Nat.lt_trichotomy i j with hlt | rfl | hlt
  · have := h i j hj1 hlt; rw [hi2, hj2, less_irr] at this; cases this
  · rfl
  · have := h j i hi1 hlt; rw [hi2, hj2, less_irr] at this; cases this
theorem ownE_eq {e : GEntry} (h : esz e <= 2 ^ 20) : S_spec_l4ownEntry e = some e := by
  unfold esz at h
  unfold S_spec_l4ownEntry S_spec_l2own S_spec_l4ownAddrs
  rw [if_pos (room_ok (by decide) (by omega)), if_pos (by omega), Option.bind_some, if_pos (by omega), Option.bind_some]
  cases e; rfl
theorem copyE_eq {e : GEntry} (h : esz e <= 2 ^ 20) : S_impl_copyEntry e = some e := by
  unfold esz at h
  unfold S_impl_copyEntry S_impl_copyBytes S_impl_copyValue S_impl_copyTexts
  rw [if_pos (room_ok (by decide) (by omega)), Option.bind_some, if_pos (by omega), Option.bind_some, if_pos (by omega), Option.bind_some]
  cases e; rfl
def zE : GEntry := .mk [] (.mk 0 0 [] [] []) [] false 0
theorem entry_both {s : GState} {a : List UInt8} (hz : ssz s <= 2 ^ 20) : ∃ e b, S_spec_EntryOf s a = some (e, b) ∧ S_impl_EntryOf s a = some (e, b) ∧ esz e <= 2 ^ 20 := by
  unfold S_spec_EntryOf S_impl_EntryOf S_impl_State_entryAt
  rw [specSt_eq hz, Option.bind_some, implSt_eq hz]
  unfold ssz at hz
  have hl := eszs_len s.Entries
  cases hs : stB s with
  | false =>
    obtain ⟨c, b, hc⟩ := eat_some (a := s.Entries) (x := a) (by omega)
    rw [hc]
    exact ⟨zE, false, rfl, rfl, by decide⟩
  | true =>
    have hA : Asc (s.Entries.map GEntry.Addr) := by
      unfold stB entsB at hs
      simp only [Bool.and_eq_true] at hs
      exact gAll_asc hs.1.2
    obtain ⟨c, hp, hc⟩ := eat_eq (a := s.Entries) (x := a) (by omega) hA
    rw [hc]
    simp only [Option.bind_some]
    unfold S_spec_l4find
    rw [if_pos (by omega), Option.bind_some]
    cases hb : hasB s.Entries a with
    | false =>
      rw [findA_none hb, if_pos (by decide)]
      exact ⟨zE, false, rfl, rfl, by decide⟩
    | true =>
      obtain ⟨k, h1, e, h2, h3⟩ := findA_get s.Entries 0 hb
      rw [Nat.zero_add] at h1
      have hck : c = k := by
        refine asc_inj hA (x := a) ?_ ?_
        · exact (Part.mem hA hp).2 (hasB_iff.1 hb)
        · rw [List.getElem?_map, h2, Option.map_some, h3]
      subst hck
      have hm := List.mem_of_getElem? h2
      have he := eszs_mem hm
      rw [h1, if_neg (by omega), natO_nat, Option.bind_some, h2, Option.bind_some]
      dsimp only
      rw [Option.bind_some, h2, Option.bind_some, copyE_eq (e := e) (by omega), ownE_eq (e := e) (by omega)]
      exact ⟨e, true, rfl, rfl, by omega⟩
theorem law_EntryOf {s : GState} {a : List UInt8} (hs : MdS s) (_ : a.length <= 2 ^ 63 - 1) : S_laws_FnExactEntryOf s a = some true := by
  unfold S_laws_FnExactEntryOf
  by_cases ca : 1048576 < ((a.length : Nat) : Int)
  · rw [if_pos ca]
  rw [if_neg ca, szS_eq hs (by decide) (by decide), Option.bind_some]
  unfold leftV
  by_cases c : (ssz s : Int) <= 1048576
  · have hz : ssz s <= 2 ^ 20 := by omega
    have ha : a.length <= 2 ^ 20 := by omega
    rw [if_pos c, if_neg (by omega), toS_eq hz, Option.bind_some, toB_eq ha, Option.bind_some]
    obtain ⟨e, b, h1, h2, he⟩ := entry_both (a := a) hz
    rw [h1, h2, Option.bind_some]
    dsimp only
    rw [Option.bind_some]
    dsimp only
    rw [eqEntry_eq (by omega), Option.bind_some]
    dsimp only
    rw [eqS_eq (by omega), Option.bind_some]
    dsimp only
    rw [eqB_eq (by omega), Option.bind_some]
    dsimp only
    obtain ⟨k, x, y, hm, hk, hk2⟩ := markS_eq (s := s) (k := 1) (by decide) (by omega)
    rw [hm, Option.bind_some]
    dsimp only
    rw [markByteS_eq (by omega) (by omega), Option.bind_some]
    dsimp only
    rw [if_neg (by omega)]
    obtain ⟨q, x1, x2, x3, x4, x5, hg, hq, hh⟩ := markEn_eq (g := e) (by omega)
    rw [hg, Option.bind_some]
    dsimp only
    rw [hh, Option.bind_some, if_neg (by omega), if_pos rfl]
    cases b <;> rfl
  · rw [if_neg c, if_pos (by omega)]
end
end Go.Am.Try
