
/- The closed facts of the row of FnExactBetween, each by the kernel. -/
import Derived.ProofKit
import Derived.Test.YtklelfbkffbceaaGreatDoorCards
import Derived.Test.YtklelfbkffbceaaGreatDoorTie
import Derived.SevenTiedAt
import Derived.LaidLaws
import Derived.Stop.LaidErr
import Derived.Lib.LaidTab
import Derived.Deep.DeepLaidRun
set_option linter.unusedVariables false
set_option linter.unusedSimpArgs false
namespace Go.Proofs.YtklelfbkffbceaaGreatDoor
open Go.ChangeShapes Go.WideShapes Go.ChangeAt Go.RowKit
theorem qh {a b:Bool} (h1:a=true) (h2:b=true):(a&&b)=true:=by rw[h1,h2];rfl
set_option maxHeartbeats 40000000 in
theorem zmx:joinedFacts Tryz.pinned.checked.prog 3 Tryz.f3 Rows.fnExactBetweenSpec Rows.fnExactBetweenRow=true:=by
 unfold joinedFacts
 refine qh (qh (qh (qh (qh (qh (qh (qh (qh (qh (qh (qh (qh (qh (qh (qh (qh (qh (qh (qh (qh (qh (qh (qh (qh (qh (qh (qh (qh (qh (qh ?_ ?_) ?_) ?_) ?_) ?_) ?_) ?_) ?_) ?_) ?_) ?_) ?_) ?_) ?_) ?_) ?_) ?_) ?_) ?_) ?_) ?_) ?_) ?_) ?_) ?_) ?_) ?_) ?_) ?_) ?_) ?_
 all_goals (as_aux_lemma=>kernel_rfl)
end Go.Proofs.YtklelfbkffbceaaGreatDoor
