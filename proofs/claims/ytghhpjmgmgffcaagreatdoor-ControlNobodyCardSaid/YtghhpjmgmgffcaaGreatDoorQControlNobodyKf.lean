/-
  What the row of this law says of the program is so: A controller that no call made answers that it is none; there is none without a store. No condition.
-/
import Derived.Test.YtghhpjmgmgffcaaGreatDoorCards
import Derived.Test.YtghhpjmgmgffcaaGreatDoorRows
import Derived.ProofKit
import Derived.LaidMore
import Derived.OpenShut
import Derived.SevenTiedAt
namespace Go.Proofs.YtghhpjmgmgffcaaGreatDoor
set_option linter.unusedSimpArgs false
set_option linter.unusedVariables false
open Go.RowKit Go.ChangeShapes Go.WideShapes

theorem controlNobody_main : Tryz.prog.mainIs = some (true, "effa368ea1ac7d396d9a7fc5f9d7ecec89d1b9074a55ba2d5353e0c0ad961e00".toList) := by kernel_rfl

end Go.Proofs.YtghhpjmgmgffcaaGreatDoor
