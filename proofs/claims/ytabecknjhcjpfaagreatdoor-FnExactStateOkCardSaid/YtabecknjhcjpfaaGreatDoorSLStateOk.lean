/- The law of FnExactStateOk, in plain terms. -/
import Derived.Test.YtabecknjhcjpfaaGreatDoorSG4
set_option linter.unusedVariables false
set_option linter.unusedSimpArgs false
namespace Go.Am.Try
open Go.Am
noncomputable section
def MdS (s : GState) : Prop := s.Pending.length <= 2 ^ 63 - 1 ∧ s.Entries.length <= 2 ^ 63 - 1 ∧ MdEns s.Entries
theorem szS_eq {s : GState} {n : Int} (h : MdS s) (h0 : 0 <= n) (h1 : n <= 2 ^ 20) : S_laws_szState s n = some (leftV (ssz s) n) := by
  unfold S_laws_szState
  rw [szByteS_eq h.1 h0 h1, Option.bind_some]
  unfold leftV ssz
  by_cases c1 : (s.Pending.length : Int) <= n
  · rw [if_pos c1, if_neg (by omega)]
    unfold S_laws_szEntryS
    rw [if_pos ⟨h.2.1, h.2.2, by omega, by omega⟩, Option.bind_some]
    unfold leftV
    by_cases c2 : (eszs s.Entries : Int) <= n - s.Pending.length
    · rw [if_pos c2, if_neg (by omega), if_pos (by omega)]; congr 1; omega
    · rw [if_neg c2, if_pos (by omega), if_neg (by omega)]
  · rw [if_neg c1, if_pos (by omega), if_neg (by omega)]
theorem toS_eq {s : GState} (h : ssz s <= 2 ^ 20) : S_laws_toState s = some s := by
  unfold ssz at h
  unfold S_laws_toState S_laws_toByteS S_laws_toEntryS
  rw [if_pos (by omega), Option.bind_some, if_pos (by omega), Option.bind_some]
  cases s; rfl
theorem eqS_eq {s : GState} (h : ssz s <= 2 ^ 39) : S_laws_eqState s s = some true := by
  unfold ssz at h
  unfold S_laws_eqState S_laws_eqByteS
  rw [if_pos rfl]
  cases s.Open <;> (dsimp only; rw [if_pos ⟨rfl, by omega⟩, Option.bind_some]; dsimp only; rw [if_pos rfl, eqEntryS_eq (by omega), Option.bind_some])
theorem law_StateOk {s : GState} (hs : MdS s) : S_laws_FnExactStateOk s = some true := by
  unfold S_laws_FnExactStateOk
  rw [szS_eq hs (by decide) (by decide), Option.bind_some]
  unfold leftV
  by_cases c : (ssz s : Int) <= 1048576
  · have hz : ssz s <= 2 ^ 20 := by omega
    rw [if_pos c, if_neg (by omega), toS_eq hz, Option.bind_some, specSt_eq hz, Option.bind_some]
    unfold S_impl_StateOk
    rw [implSt_eq hz, Option.bind_some, Option.bind_some, eqS_eq (by omega)]
    cases stB s <;> rfl
  · rw [if_neg c, if_pos (by omega)]
end
end Go.Am.Try
