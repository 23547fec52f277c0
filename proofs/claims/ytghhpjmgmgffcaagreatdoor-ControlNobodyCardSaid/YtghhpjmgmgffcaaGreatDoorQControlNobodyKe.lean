/-
  What the row of this law says of the program is so: A controller that no call made answers that it is none; there is none without a store. No condition.
-/
import Derived.Test.YtghhpjmgmgffcaaGreatDoorCards
import Derived.Test.YtghhpjmgmgffcaaGreatDoorRows
import Derived.ProofKit
import Derived.LaidMore
import Derived.OpenShut
import Derived.SevenTiedAt
namespace Go.Proofs.YtghhpjmgmgffcaaGreatDoor
set_option linter.unusedSimpArgs false
set_option linter.unusedVariables false
open Go.RowKit Go.ChangeShapes Go.WideShapes

theorem controlNobody_named : Tryz.prog.funcNamed "muster/musterlaw35.ControlNobody" = some 3 := by kernel_rfl

theorem controlNobody_wbt : Rows.controlNobodyRow.wfByText (OpenSpec.ofChange Rows.controlNobodySpec) = true := by kernel_rfl

end Go.Proofs.YtghhpjmgmgffcaaGreatDoor
