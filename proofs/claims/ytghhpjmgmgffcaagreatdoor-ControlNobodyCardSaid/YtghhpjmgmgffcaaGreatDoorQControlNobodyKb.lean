/-
  What the row of this law says of the program is so: A controller that no call made answers that it is none; there is none without a store. No condition.
-/
import Derived.Test.YtghhpjmgmgffcaaGreatDoorCards
import Derived.Test.YtghhpjmgmgffcaaGreatDoorRows
import Derived.ProofKit
import Derived.LaidMore
import Derived.OpenShut
import Derived.SevenTiedAt
namespace Go.Proofs.YtghhpjmgmgffcaaGreatDoor
set_option linter.unusedSimpArgs false
set_option linter.unusedVariables false
open Go.RowKit Go.ChangeShapes Go.WideShapes

theorem controlNobody_j9 : ((Rows.controlNobodyRow.inPlace == Tryz.prog.inPlace 3)) = true := by kernel_rfl

theorem controlNobody_j10 : ((Rows.controlNobodyRow.unfollowed == Tryz.prog.unfollowed 3)) = true := by kernel_rfl

theorem controlNobody_j11 : ((Rows.controlNobodyRow.recurses == Tryz.prog.recurses 3)) = true := by kernel_rfl

end Go.Proofs.YtghhpjmgmgffcaaGreatDoor
