/-
  What the row of this law says of the program is so: A controller that no call made answers that it is none; there is none without a store. No condition.
-/
import Derived.Test.YtghhpjmgmgffcaaGreatDoorQClo
import Derived.Test.YtghhpjmgmgffcaaGreatDoorCards
import Derived.Test.YtghhpjmgmgffcaaGreatDoorRows
import Derived.ProofKit
import Derived.LaidMore
import Derived.OpenShut
import Derived.SevenTiedAt
namespace Go.Proofs.YtghhpjmgmgffcaaGreatDoor
set_option linter.unusedSimpArgs false
set_option linter.unusedVariables false
open Go.RowKit Go.ChangeShapes Go.WideShapes

theorem vn_c : (Rows.controlNobodyRow.named == vnL Tryz.prog cloL) = true := by kernel_rfl
theorem controlNobody_j12 : ((Rows.controlNobodyRow.named == Tryz.prog.varsNamed 3)) = true := by
  rw [vn_eq, clo_c]
  exact vn_c

end Go.Proofs.YtghhpjmgmgffcaaGreatDoor
