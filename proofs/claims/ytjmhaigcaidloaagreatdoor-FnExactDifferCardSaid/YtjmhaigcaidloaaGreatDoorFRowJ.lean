/- The closed facts of the row of FnExactDiffer, each by the kernel. -/
import Derived.ProofKit
import Derived.Test.YtjmhaigcaidloaaGreatDoorCards
import Derived.Test.YtjmhaigcaidloaaGreatDoorTie
import Derived.SevenTiedAt
import Derived.LaidLaws
import Derived.Stop.LaidErr
import Derived.Lib.LaidTab
import Derived.Deep.DeepLaidRun
set_option linter.unusedVariables false
set_option linter.unusedSimpArgs false
namespace Go.Proofs.YtjmhaigcaidloaaGreatDoor
open Go.ChangeShapes Go.WideShapes Go.ChangeAt Go.RowKit
theorem xw {a b : Bool} (h1 : a = true) (h2 : b = true) : (a && b) = true := by rw [h1, h2]; rfl
set_option maxHeartbeats 40000000 in
theorem DR : joinedFacts Tryz.pinned.checked.prog 14 Tryz.f14 Rows.fnExactDifferSpec Rows.fnExactDifferRow = true := by
 unfold joinedFacts
 refine xw (xw (xw (xw (xw (xw (xw (xw (xw (xw (xw (xw (xw (xw (xw (xw (xw (xw (xw (xw (xw (xw (xw (xw (xw (xw (xw (xw (xw (xw (xw ?_ ?_) ?_) ?_) ?_) ?_) ?_) ?_) ?_) ?_) ?_) ?_) ?_) ?_) ?_) ?_) ?_) ?_) ?_) ?_) ?_) ?_) ?_) ?_) ?_) ?_) ?_) ?_) ?_) ?_) ?_) ?_
 all_goals (as_aux_lemma => kernel_rfl)
end Go.Proofs.YtjmhaigcaidloaaGreatDoor
