
/- The closed facts of the row of FnExactHistCompact, each by the kernel. -/
import Derived.ProofKit
import Derived.Test.YtjmhaigcaidloaaGreatDoorCards
import Derived.Test.YtjmhaigcaidloaaGreatDoorTie
import Derived.SevenTiedAt
import Derived.LaidLaws
import Derived.Stop.LaidErr
import Derived.Lib.LaidTab
import Derived.Deep.DeepLaidRun
set_option linter.unusedVariables false
set_option linter.unusedSimpArgs false
namespace Go.Proofs.YtjmhaigcaidloaaGreatDoor
open Go.ChangeShapes Go.WideShapes Go.ChangeAt Go.RowKit
theorem wn {a b : Bool} (h1 : a = true) (h2 : b = true) : (a && b) = true := by rw [h1, h2]; rfl
set_option maxHeartbeats 40000000 in
theorem zet : joinedFacts Tryz.pinned.checked.prog 9 Tryz.f9 Rows.fnExactHistCompactSpec Rows.fnExactHistCompactRow = true := by
 unfold joinedFacts
 refine wn (wn (wn (wn (wn (wn (wn (wn (wn (wn (wn (wn (wn (wn (wn (wn (wn (wn (wn (wn (wn (wn (wn (wn (wn (wn (wn (wn (wn (wn (wn ?_ ?_) ?_) ?_) ?_) ?_) ?_) ?_) ?_) ?_) ?_) ?_) ?_) ?_) ?_) ?_) ?_) ?_) ?_) ?_) ?_) ?_) ?_) ?_) ?_) ?_) ?_) ?_) ?_) ?_) ?_) ?_
 all_goals (as_aux_lemma => kernel_rfl)
end Go.Proofs.YtjmhaigcaidloaaGreatDoor
