
/- The closed facts of the row of FnExactHistAt, each by the kernel. -/
import Derived.ProofKit
import Derived.Test.YtjmhaigcaidloaaGreatDoorCards
import Derived.Test.YtjmhaigcaidloaaGreatDoorTie
import Derived.SevenTiedAt
import Derived.LaidLaws
import Derived.Stop.LaidErr
import Derived.Lib.LaidTab
import Derived.Deep.DeepLaidRun
set_option linter.unusedVariables false
set_option linter.unusedSimpArgs false
namespace Go.Proofs.YtjmhaigcaidloaaGreatDoor
open Go.ChangeShapes Go.WideShapes Go.ChangeAt Go.RowKit
theorem wb {a b : Bool} (h1 : a = true) (h2 : b = true) : (a && b) = true := by rw [h1, h2]; rfl
set_option maxHeartbeats 40000000 in
theorem zdf : joinedFacts Tryz.pinned.checked.prog 6 Tryz.f6 Rows.fnExactHistAtSpec Rows.fnExactHistAtRow = true := by
 unfold joinedFacts
 refine wb (wb (wb (wb (wb (wb (wb (wb (wb (wb (wb (wb (wb (wb (wb (wb (wb (wb (wb (wb (wb (wb (wb (wb (wb (wb (wb (wb (wb (wb (wb ?_ ?_) ?_) ?_) ?_) ?_) ?_) ?_) ?_) ?_) ?_) ?_) ?_) ?_) ?_) ?_) ?_) ?_) ?_) ?_) ?_) ?_) ?_) ?_) ?_) ?_) ?_) ?_) ?_) ?_) ?_) ?_
 all_goals (as_aux_lemma => kernel_rfl)
end Go.Proofs.YtjmhaigcaidloaaGreatDoor
