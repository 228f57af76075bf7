/- The closed facts of the row of FnExactConfigText, each by the kernel. -/
import Derived.ProofKit
import Derived.Test.YtfbfbebalpnkbaaDoorCards
import Derived.Test.YtfbfbebalpnkbaaDoorTie
import Derived.SevenTiedAt
import Derived.LaidLaws
import Derived.Stop.LaidErr
import Derived.Lib.LaidTab
import Derived.Deep.DeepLaidRun
set_option linter.unusedVariables false
set_option linter.unusedSimpArgs false
namespace Go.Proofs.YtfbfbebalpnkbaaDoor
open Go.ChangeShapes Go.WideShapes Go.ChangeAt Go.RowKit
theorem xC {a b : Bool} (h1 : a = true) (h2 : b = true) : (a && b) = true := by rw [h1, h2]; rfl
set_option maxHeartbeats 40000000 in
theorem DR : joinedFacts Tryd.pinned.checked.prog 4 Tryd.f4 Rows.fnExactConfigTextSpec Rows.fnExactConfigTextRow = true := by
 unfold joinedFacts
 refine xC (xC (xC (xC (xC (xC (xC (xC (xC (xC (xC (xC (xC (xC (xC (xC (xC (xC (xC (xC (xC (xC (xC (xC (xC (xC (xC (xC (xC (xC (xC ?_ ?_) ?_) ?_) ?_) ?_) ?_) ?_) ?_) ?_) ?_) ?_) ?_) ?_) ?_) ?_) ?_) ?_) ?_) ?_) ?_) ?_) ?_) ?_) ?_) ?_) ?_) ?_) ?_) ?_) ?_) ?_
 all_goals (as_aux_lemma => kernel_rfl)
end Go.Proofs.YtfbfbebalpnkbaaDoor
