/- FnExactConfigText: the program's function returns what the reference's returns, for all arguments: the row and its card. No condition. -/
import Derived.Test.YtfbfbebalpnkbaaDoorERowA
import Derived.Test.YtfbfbebalpnkbaaDoorERowJ
import Derived.Test.YtfbfbebalpnkbaaDoorES2b
import Derived.Test.YtfbfbebalpnkbaaDoorEAmD
import Derived.ProofKit
import Derived.Test.YtfbfbebalpnkbaaDoorCards
import Derived.Test.YtfbfbebalpnkbaaDoorTie
import Derived.SevenTiedAt
import Derived.LaidLaws
import Derived.Stop.LaidErr
import Derived.Lib.LaidTab
import Derived.Deep.DeepLaidRun
set_option linter.unusedVariables false
set_option linter.unusedSimpArgs false
namespace Go.Proofs.YtfbfbebalpnkbaaDoor
open Go.ChangeShapes Go.WideShapes Go.ChangeAt Go.RowKit Go.Am
theorem Tk : Rows.FnExactConfigTextSaid :=
 OpenClaim.holds_of_wide 4 Tryd.f4 rfl rfl rfl rfl rfl rfl rfl ⟨rfl, rfl, rfl, rfl, rfl⟩ rfl rfl rfl rfl rfl (by kernel_rfl) Tryd.func4 DR
  (of_decide_eq_true (by kernel_rfl)) (by unfold Func.isWrapper; rw [if_neg (by decide +kernel)]; exact ⟨rfl, rfl⟩)
  (fun os started H enc _ => Kg os started H enc)
theorem configText_holds : Rows.FnExactConfigTextCardSaid :=
 Claim7.holds_tied_plain_at .later [] [.data, .data, .data] true (true, "06709970a30598a53ad18a22d60d57a9b8ce502c385549a99c4694ff2fa365b9") false
  Tk (fun _ h => by cases h) (by kernel_rfl) (fun _ h => by cases h) fnExactConfigText_row_tie rfl ⟨rfl, rfl⟩ (by kernel_rfl) rfl
  (fun f fn hf hfn => by
   obtain rfl : f = 4 := Option.some.inj ((show Tryd.prog.funcNamed "loop.example/g00407/laws.FnExactConfigText" = some 4 by kernel_rfl).symm.trans hf) |>.symm
   obtain rfl : fn = Tryd.f4 := (Option.some.inj (Tryd.func4.symm.trans hfn)).symm
   exact ⟨by kernel_rfl, fun j t ht => by
    rw [Tryd.params4] at ht
    have hj : t = 44 := by
     have hm : t ∈ ([44] : List TypeId) := List.mem_of_getElem? (by simpa using ht)
     simpa using hm
    subst hj
    ·exact (show Tryd.prog.wantsStandIn 44 = false by kernel_rfl)⟩)
  (by as_aux_lemma => kernel_rfl)
end Go.Proofs.YtfbfbebalpnkbaaDoor
