/-
  What the row of this law says of the program is so: A world that no call made answers that it is none. No condition.
-/
import Derived.Test.YtalhamokkblnjaaGreatDoorQ6
import Derived.Test.YtalhamokkblnjaaGreatDoorCards
import Derived.Test.YtalhamokkblnjaaGreatDoorRows
import Derived.ProofKit
import Derived.LaidMore
import Derived.OpenShut
import Derived.SevenTiedAt
namespace Go.Proofs.YtalhamokkblnjaaGreatDoor
set_option linter.unusedSimpArgs false
set_option linter.unusedVariables false
open Go.RowKit Go.ChangeShapes Go.WideShapes

theorem worldNobody_named : Tryz.prog.funcNamed "muster/musterlaw38.WorldNobody" = some 3 := by kernel_rfl

theorem worldNobody_wbt : Rows.worldNobodyRow.wfByText (OpenSpec.ofChange Rows.worldNobodySpec) = true := by kernel_rfl

end Go.Proofs.YtalhamokkblnjaaGreatDoor
