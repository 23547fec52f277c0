/-
  What the row of ControlNobody lists starts as the program lays it, second part. No condition.
-/
import Derived.Test.YtghhpjmgmgffcaaGreatDoorRows
import Derived.LaidByTextLater
import Derived.SevenTiedAt
namespace Go.Proofs.YtghhpjmgmgffcaaGreatDoor
set_option linter.unusedSimpArgs false
set_option linter.unusedVariables false
open Go

theorem oti_n : varsNamedLaterB Tryz.prog (varsId Tryz.prog) Rows.controlNobodyRow.laid = true := by kernel_rfl
end Go.Proofs.YtghhpjmgmgffcaaGreatDoor
