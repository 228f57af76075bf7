
/- FnExactBetween: the program's function returns what the reference's returns, for all arguments: the row and its card. No condition. -/
import Derived.Test.YtklelfbkffbceaaGreatDoorBRowA
import Derived.Test.YtklelfbkffbceaaGreatDoorBRowJ
import Derived.Test.YtklelfbkffbceaaGreatDoorBS2b
import Derived.Test.YtklelfbkffbceaaGreatDoorBAmD
import Derived.ProofKit
import Derived.Test.YtklelfbkffbceaaGreatDoorCards
import Derived.Test.YtklelfbkffbceaaGreatDoorTie
import Derived.SevenTiedAt
import Derived.LaidLaws
import Derived.Stop.LaidErr
import Derived.Lib.LaidTab
import Derived.Deep.DeepLaidRun
set_option linter.unusedVariables false
set_option linter.unusedSimpArgs false
namespace Go.Proofs.YtklelfbkffbceaaGreatDoor
open Go.ChangeShapes Go.WideShapes Go.ChangeAt Go.RowKit Go.Am
theorem DM:Rows.FnExactBetweenSaid:=
 OpenClaim.holds_of_wide 3 Tryz.f3 rfl rfl rfl rfl rfl rfl rfl ⟨rfl,rfl,rfl,rfl,rfl⟩ rfl rfl rfl rfl rfl (by kernel_rfl) Tryz.func3 zmx
  (of_decide_eq_true (by kernel_rfl)) (by unfold Func.isWrapper;rw[if_neg (by decide+kernel)];exact⟨rfl,rfl⟩)
  (fun os started H enc _=>NM os started H enc)
theorem between_holds:Rows.FnExactBetweenCardSaid:=
 Claim7.holds_tied_plain_at .later [] [.data,.data,.data,.sentinel,.sentinel] true (true,"4c467443650c536fe1ac3b2ee6bc63daa34e3aed6f593dd04ae6bb502aa548c3") true
  DM (fun _ h=>by cases h) (by kernel_rfl) (fun _ h=>by cases h) fnExactBetween_row_tie rfl ⟨rfl,rfl⟩ (by kernel_rfl) rfl
  (fun f fn hf hfn=>by
   obtain rfl:f=3:=Option.some.inj ((show Tryz.prog.funcNamed "loop.example/g00407/laws.FnExactBetween"=some 3 by kernel_rfl).symm.trans hf) |>.symm
   obtain rfl:fn=Tryz.f3:=(Option.some.inj (Tryz.func3.symm.trans hfn)).symm
   exact⟨by kernel_rfl,fun j t ht=>by
    rw[Tryz.params3]at ht
    have hj:t=28∨t=3∨t=3∨t=22:=by
     have hm:t∈([28,3,3,22]:List TypeId):=List.mem_of_getElem? (by simpa using ht)
     simpa using hm
    rcases hj with rfl|rfl|rfl|rfl
    ·exact(show Tryz.prog.wantsStandIn 28=false by kernel_rfl)
    ·exact(show Tryz.prog.wantsStandIn 3=false by kernel_rfl)
    ·exact(show Tryz.prog.wantsStandIn 3=false by kernel_rfl)
    ·exact(show Tryz.prog.wantsStandIn 22=false by kernel_rfl)⟩)
  (by as_aux_lemma=>kernel_rfl)
end Go.Proofs.YtklelfbkffbceaaGreatDoor
