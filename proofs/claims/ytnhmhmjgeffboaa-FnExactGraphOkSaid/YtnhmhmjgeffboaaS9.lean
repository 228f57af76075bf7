/- Equations of functions of the program, as the machine answers them; conditions at each theorem. -/
import Derived.Test.YtnhmhmjgeffboaaS4
namespace Go.Am.Try
open Go.Am Go.Proofs
set_option maxHeartbeats 1000000

theorem c97 (p q : Int) : (mach cfg).call 97 [] [.val false [.seq [[.int .i64 p], [.int .i64 q]]]] = some (.val false [.int .i64 (if p = 0 then q else p)], []) := by
  refine call_intro rfl (fn_of Try.func97 rfl rfl) ?_
  intro add sub mul quo rem neg conv nz eqI ltI leI maxI minI eqB notB eqS fits catS len lenS nat idx idxS byteI setL app cut cutS rep view pl uni room made bytes ofStr cln call loop L
  obtain ⟨X, hX⟩ : ∃ X : List (List C), X = [[.int .i64 p], [.int .i64 q]] := ⟨_, rfl⟩
  rw [← hX]
  have e0 : len X = 2 := by rw [L.hlen, hX]; rfl
  have a0 : ltI 0 2 = true := by rw [L.hltI]; rfl
  have a1 : ltI 1 2 = true := by rw [L.hltI]; rfl
  have a2 : ltI 2 2 = false := by rw [L.hltI]; rfl
  have n0 : nat 0 = some 0 := by rw [L.hnat]; rfl
  have n1 : nat 1 = some 1 := by rw [L.hnat]; rfl
  have i0 : idx X 0 = some [.int .i64 p] := by rw [L.hidx, hX]; rfl
  have i1 : idx X 1 = some [.int .i64 q] := by rw [L.hidx, hX]; rfl
  have s0 : add .i64 0 1 = 1 := by rw [L.hadd]; rfl
  have s1 : add .i64 1 1 = 2 := by rw [L.hadd]; rfl
  by_cases hp : p = 0
  · rw [if_pos hp]
    have b0 : notB (eqI p 0) = false := by rw [L.hnotB, L.heqI]; simp [hp]
    by_cases hq : q = 0
    · have b1 : notB (eqI q 0) = false := by rw [L.hnotB, L.heqI]; simp [hq]
      have hq' : C.int .i64 q = C.int .i64 0 := by rw [hq]
      rw [hq']
      cbv; rw [e0]; cbv; rw [L.hloop]; cbv; rw [a0]; cbv; rw [n0]; cbv; rw [i0]; cbv; rw [b0]; cbv; rw [s0]; rw [L.hloop]; cbv; rw [a1]; cbv; rw [n1]; cbv; rw [i1]; cbv; rw [b1]; cbv; rw [s1]; rw [L.hloop]; cbv; rw [a2]; cbv
    · have b1 : notB (eqI q 0) = true := by rw [L.hnotB, L.heqI]; simp [hq]
      cbv; rw [e0]; cbv; rw [L.hloop]; cbv; rw [a0]; cbv; rw [n0]; cbv; rw [i0]; cbv; rw [b0]; cbv; rw [s0]; rw [L.hloop]; cbv; rw [a1]; cbv; rw [n1]; cbv; rw [i1]; cbv; rw [b1]; cbv
  · rw [if_neg hp]
    have b0 : notB (eqI p 0) = true := by rw [L.hnotB, L.heqI]; simp [hp]
    cbv; rw [e0]; cbv; rw [L.hloop]; cbv; rw [a0]; cbv; rw [n0]; cbv; rw [i0]; cbv; rw [b0]; cbv
end Go.Am.Try
