/- Equations of functions of the program, as the machine answers them; conditions at each theorem. -/
import Derived.Test.YtnhmhmjgeffboaaS6
namespace Go.Am.Try
open Go.Am Go.Proofs
set_option maxHeartbeats 1000000

theorem c34 (l : List (Int × Int)) (hn : l.length ≤ 2 ^ 20) : (mach cfg).call 34 [] [.val false [.seq (encE l)]] = some (.val false [.own 2 (encE l)], []) := by
  refine call_intro rfl (fn_of Try.func34 rfl rfl) ?_
  intro add sub mul quo rem neg conv nz eqI ltI leI maxI minI eqB notB eqS fits catS len lenS nat idx idxS byteI setL app cut cutS rep view pl uni room made bytes ofStr cln call loop L
  generalize hX : encE l = X
  have hXl : X.length = l.length := by rw [← hX, encE_len]
  obtain ⟨n, hnl⟩ : ∃ n, n = l.length := ⟨_, rfl⟩
  have e0 : eqI (len X) (len X) = true := by rw [L.heqI]; simp
  have e1 : made 16 (len X) = some n := by rw [L.hmade, L.hlen, hXl]; rw [if_pos (by omega)]; simp [hnl]
  obtain ⟨m, hm⟩ : ∃ m : Int, m = l.length := ⟨_, rfl⟩
  have LO := fun (b : Code) (hb : nthLoop Try.f34 0 = some b) => l34 L b hb l (by omega) X hX.symm m hm l.length 0 0 (rep n [.int .i64 0, .int .i64 0]) (by omega) rfl (by rw [L.hrep]; simp [hnl]) (by rw [L.hrep]; intro e he; rw [List.eq_of_mem_replicate he]; rfl) (by intro j h; omega)
  cbv
  rw [e0]
  cbv
  rw [e1]
  cbv
  rw [LO _ (by cbv)]
  cbv

theorem c10 (N : Int) (l : List (Int × Int)) (hn : l.length ≤ 2 ^ 20) : (mach cfg).call 10 [] [.val true [.int .i64 N, .seq (encE l)]] = some (.val true [.int .i64 N, .own 2 (encE l)], []) := by
  refine call_intro rfl (fn_of Try.func10 rfl rfl) ?_
  intro add sub mul quo rem neg conv nz eqI ltI leI maxI minI eqB notB eqS fits catS len lenS nat idx idxS byteI setL app cut cutS rep view pl uni room made bytes ofStr cln call loop L
  have k34 : call 34 [] [.val false [.seq (encE l)]] = some (.val false [.own 2 (encE l)], []) := by rw [L.hcall]; exact c34 l hn
  generalize encE l = X at *
  cbv
  rw [k34]
  cbv
end Go.Am.Try
