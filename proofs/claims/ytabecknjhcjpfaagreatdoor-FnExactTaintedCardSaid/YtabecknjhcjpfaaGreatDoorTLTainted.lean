/- The law of FnExactTainted, in plain terms. -/
import Derived.Test.YtabecknjhcjpfaaGreatDoorTG5
set_option linter.unusedVariables false
set_option linter.unusedSimpArgs false
namespace Go.Am.Try
open Go.Am
noncomputable section
def MdS (s : GState) : Prop := s.Pending.length <= 2 ^ 63 - 1 ∧ s.Entries.length <= 2 ^ 63 - 1 ∧ MdEns s.Entries
theorem szS_eq {s : GState} {n : Int} (h : MdS s) (h0 : 0 <= n) (h1 : n <= 2 ^ 20) : S_laws_szState s n = some (leftV (ssz s) n) := by
  unfold S_laws_szState
  rw [szByteS_eq h.1 h0 h1, Option.bind_some]
  unfold leftV ssz
  by_cases c1 : (s.Pending.length : Int) <= n
  · rw [if_pos c1, if_neg (by omega)]
    unfold S_laws_szEntryS
    rw [if_pos ⟨h.2.1, h.2.2, by omega, by omega⟩, Option.bind_some]
    unfold leftV
    by_cases c2 : (eszs s.Entries : Int) <= n - s.Pending.length
    · rw [if_pos c2, if_neg (by omega), if_pos (by omega)]; congr 1; omega
    · rw [if_neg c2, if_pos (by omega), if_neg (by omega)]
  · rw [if_neg c1, if_pos (by omega), if_neg (by omega)]
theorem toS_eq {s : GState} (h : ssz s <= 2 ^ 20) : S_laws_toState s = some s := by
  unfold ssz at h
  unfold S_laws_toState S_laws_toByteS S_laws_toEntryS
  rw [if_pos (by omega), Option.bind_some, if_pos (by omega), Option.bind_some]
  cases s; rfl
theorem eqS_eq {s : GState} (h : ssz s <= 2 ^ 39) : S_laws_eqState s s = some true := by
  unfold ssz at h
  unfold S_laws_eqState S_laws_eqByteS
  rw [if_pos rfl]
  cases s.Open <;> (dsimp only; rw [if_pos ⟨rfl, by omega⟩, Option.bind_some]; dsimp only; rw [if_pos rfl, eqEntryS_eq (by omega), Option.bind_some])
theorem markS_eq {s : GState} {k : Int} (h0 : 0 <= k) (h1 : k + 4 * ssz s <= 2 ^ 39) : ∃ (k' : Int) (a : List UInt8) (b : List GEntry), S_laws_markState s.Serial s.Open s.Act k s.Pending s.Entries = some (k', a, b) ∧ 0 <= k' ∧ k' <= k + 4 * ssz s := by
  unfold ssz at h1 ⊢
  have := cEs_le s.Entries
  unfold S_laws_markState
  rw [markByteS_eq (by omega) (by omega), Option.bind_some]
  dsimp only
  rw [markEntryS_eq (by omega) (by omega), Option.bind_some]
  exact ⟨_, _, _, rfl, by omega, by omega⟩
theorem eqBB_eq {s : List (List UInt8)} (h : bsz s <= 2 ^ 39) : S_laws_eqByteSS s s = some true := if_pos ⟨rfl, by omega⟩
theorem markBBh_eq {g : List (List UInt8)} (h : bsz g <= 2 ^ 30) : ∃ (k : Int) (a : List (List UInt8)), S_laws_markByteSS 1 g = some (k, a) ∧ 0 <= k ∧ S_laws_heldByteSS a 1 = some k := by
  have hb := bsz_cB g
  refine ⟨_, _, markByteSS_eq (by decide) (by omega), by omega, ?_⟩
  rw [heldByteSS_eq (mBB_idem _ _) (by decide) (by rw [bsz_mBB]; omega), cB_mBB]
theorem bsz_taint (s : GState) : bsz (if stB s = true then taintL s.Entries else []) <= ssz s := by
  unfold ssz
  split
  · unfold taintL
    have : ∀ l : List GEntry, bsz ((l.filter fun e => e.Taint).map GEntry.Addr) <= eszs l := by
      intro l
      induction l with
      | nil => simp [bsz, eszs]
      | cons x l ih =>
        rw [List.filter_cons]
        simp only [eszs]
        split
        · rw [List.map_cons, bsz_cons]
          unfold esz
          omega
        · omega
    have := this s.Entries
    omega
  · simp [bsz]
theorem law_Tainted {s : GState} (hs : MdS s) : S_laws_FnExactTainted s = some true := by
  unfold S_laws_FnExactTainted
  rw [szS_eq hs (by decide) (by decide), Option.bind_some]
  unfold leftV
  by_cases c : (ssz s : Int) <= 1048576
  · have hz : ssz s <= 2 ^ 20 := by omega
    have hn := bsz_taint s
    rw [if_pos c, if_neg (by omega), toS_eq hz, Option.bind_some]
    unfold S_spec_Tainted S_impl_Tainted
    rw [if_pos hz, Option.bind_some, if_pos hz, Option.bind_some, show (if stB s = true then taintS s.Entries else []) = (if stB s = true then taintL s.Entries else []) from rfl]
    generalize (if stB s = true then taintL s.Entries else []) = g at hn ⊢
    rw [eqBB_eq (by omega), Option.bind_some]
    dsimp only
    rw [eqS_eq (by omega), Option.bind_some]
    dsimp only
    obtain ⟨k, x, y, hm, hk, hk2⟩ := markS_eq (s := s) (k := 1) (by decide) (by omega)
    rw [hm, Option.bind_some]
    dsimp only
    rw [if_neg (by omega)]
    obtain ⟨q, g', hg, hq, hh⟩ := markBBh_eq (g := g) (by omega)
    rw [hg, Option.bind_some]
    dsimp only
    rw [hh, Option.bind_some, if_neg (by omega), if_pos rfl]
  · rw [if_neg c, if_pos (by omega)]
end
end Go.Am.Try
