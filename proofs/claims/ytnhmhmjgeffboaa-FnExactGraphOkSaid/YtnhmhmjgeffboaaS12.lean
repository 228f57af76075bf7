/- Equations of functions of the program, as the machine answers them; conditions at each theorem. -/
import Derived.Test.YtnhmhmjgeffboaaS11
namespace Go.Am.Try
open Go.Am Go.Proofs
set_option maxHeartbeats 2000000
theorem Rets.eq {r : Option (Ex × S)} (h : Rets r) : ∃ st, r = some (.ret, ⟨[(2, .val false [.bool false])], st, 0⟩) := by cases h; exact ⟨_, rfl⟩

open Classical in
theorem c35 (N M : Int) (hM : IntKind.i64.wrap (N - 1) = M) (l : List (Int × Int)) (hl : l.length < 2 ^ 62) (B : Bool) (hB : B = decide ((∀ j, okI M l j = true) ∧ inI N 0 20 = true ∧ l.length ≤ 400)) :
    (mach cfg).call 35 [] [.val true [.int .i64 N, .seq (encE l)]] = some (.val false [.bool B], []) := by
  refine call_intro rfl (fn_of Try.func35 rfl rfl) ?_
  intro add sub mul quo rem neg conv nz eqI ltI leI maxI minI eqB notB eqS fits catS len lenS nat idx idxS byteI setL app cut cutS rep view pl uni room made bytes ofStr cln call loop L
  generalize hX : encE l = X
  obtain ⟨m, hm⟩ : ∃ m : Int, m = l.length := ⟨_, rfl⟩
  have hXl : X.length = l.length := by rw [← hX, encE_len]
  have hM' : sub .i64 N 1 = M := by rw [L.hsub]; exact hM
  have LO := fun (b : Code) (hb : nthLoop Try.f35 0 = some b) => l35 L b hb l hl N M hM' X hX.symm m hm l.length 0 0 (by omega) rfl
  have e0 : len X = m := by rw [L.hlen, hXl, hm]
  have k : call 38 [] [.val false [.int .i64 N], .val false [.int .i64 0], .val false [.int .i64 20]] = some (.val false [.bool (inI N 0 20)], []) := by rw [L.hcall, c38]; rfl
  by_cases hall : ∀ j, okI M l j = true
  · have LO := fun b hb => (LO b hb).1 fun j _ => hall j
    cases hn : inI N 0 20 with
    | false =>
      have hB' : B = false := by rw [hB, hn]; simp
      rw [hB']
      rw [hn] at k
      cbv
      rw [e0]
      cbv
      rw [LO _ (by cbv)]
      cbv
      rw [k]
      cbv
    | true =>
      rw [hn] at k
      have e1 : leI m 400 = B := by rw [L.hleI, hB, hn, hm]; simp [hall]; omega
      cbv
      rw [e0]
      cbv
      rw [LO _ (by cbv)]
      cbv
      rw [k]
      cbv
      rw [e0]
      cbv
      rw [e1]
  · obtain ⟨j, hj⟩ : ∃ j, okI M l j = false := by
      obtain ⟨j, hj⟩ := Classical.not_forall.1 hall
      exact ⟨j, by simpa using hj⟩
    have hB' : B = false := by rw [hB]; simp [hall]
    rw [hB']
    have LO := fun b hb => ((LO b hb).2 ⟨j, Nat.zero_le _, hj⟩).eq
    cbv
    rw [e0]
    cbv
    obtain ⟨st, h⟩ := LO _ (by cbv)
    rw [h]
    cbv

open Classical in
theorem c11 (N M : Int) (hM : IntKind.i64.wrap (N - 1) = M) (l : List (Int × Int)) (hl : l.length < 2 ^ 62) (B : Bool) (hB : B = decide ((∀ j, okI M l j = true) ∧ inI N 0 20 = true ∧ l.length ≤ 400)) :
    (mach cfg).call 11 [] [.val true [.int .i64 N, .seq (encE l)]] = some (.val false [.bool B], []) := by
  refine call_intro rfl (fn_of Try.func11 rfl rfl) ?_
  intro add sub mul quo rem neg conv nz eqI ltI leI maxI minI eqB notB eqS fits catS len lenS nat idx idxS byteI setL app cut cutS rep view pl uni room made bytes ofStr cln call loop L
  have k := c35 N M hM l hl B hB
  rw [← L.hcall] at k
  generalize encE l = X at *
  cbv
  rw [k]
  cbv
end Go.Am.Try
