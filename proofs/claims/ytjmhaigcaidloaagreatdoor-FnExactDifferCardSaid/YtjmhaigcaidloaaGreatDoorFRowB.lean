/- FnExactDiffer: the program's function returns what the reference's returns, for all arguments: the row and its card. No condition. -/
import Derived.Test.YtjmhaigcaidloaaGreatDoorFRowA
import Derived.Test.YtjmhaigcaidloaaGreatDoorFRowJ
import Derived.Test.YtjmhaigcaidloaaGreatDoorFS2b
import Derived.Test.YtjmhaigcaidloaaGreatDoorFAmD
import Derived.ProofKit
import Derived.Test.YtjmhaigcaidloaaGreatDoorCards
import Derived.Test.YtjmhaigcaidloaaGreatDoorTie
import Derived.SevenTiedAt
import Derived.LaidLaws
import Derived.Stop.LaidErr
import Derived.Lib.LaidTab
import Derived.Deep.DeepLaidRun
set_option linter.unusedVariables false
set_option linter.unusedSimpArgs false
namespace Go.Proofs.YtjmhaigcaidloaaGreatDoor
open Go.ChangeShapes Go.WideShapes Go.ChangeAt Go.RowKit Go.Am
theorem LY : Rows.FnExactDifferSaid :=
 OpenClaim.holds_of_wide 14 Tryz.f14 rfl rfl rfl rfl rfl rfl rfl ⟨rfl, rfl, rfl, rfl, rfl⟩ rfl rfl rfl rfl rfl (by kernel_rfl) Tryz.func14 DR
  (of_decide_eq_true (by kernel_rfl)) (by unfold Func.isWrapper; rw [if_neg (by decide +kernel)]; exact ⟨rfl, rfl⟩)
  (fun os started H enc _ => Uv os started H enc)
theorem differ_holds : Rows.FnExactDifferCardSaid :=
 Claim7.holds_tied_plain_at .later [] [.data, .data, .data, .sentinel, .sentinel] true (true, "447d6182077c23025bf52d4e99543534574c224998baf4950d2025154d37c512") true
  LY (fun _ h => by cases h) (by kernel_rfl) (fun _ h => by cases h) fnExactDiffer_row_tie rfl ⟨rfl, rfl⟩ (by kernel_rfl) rfl
  (fun f fn hf hfn => by
   obtain rfl : f = 14 := Option.some.inj ((show Tryz.prog.funcNamed "loop.example/g00407/laws.FnExactDiffer" = some 14 by kernel_rfl).symm.trans hf) |>.symm
   obtain rfl : fn = Tryz.f14 := (Option.some.inj (Tryz.func14.symm.trans hfn)).symm
   exact ⟨by kernel_rfl, fun j t ht => by
    rw [Tryz.params14] at ht
    have hj : t = 25 ∨ t = 25 := by
     have hm : t ∈ ([25, 25] : List TypeId) := List.mem_of_getElem? (by simpa using ht)
     simpa using hm
    rcases hj with rfl | rfl
    ·exact (show Tryz.prog.wantsStandIn 25 = false by kernel_rfl)
    ·exact (show Tryz.prog.wantsStandIn 25 = false by kernel_rfl)⟩)
  (by as_aux_lemma => kernel_rfl)
end Go.Proofs.YtjmhaigcaidloaaGreatDoor
