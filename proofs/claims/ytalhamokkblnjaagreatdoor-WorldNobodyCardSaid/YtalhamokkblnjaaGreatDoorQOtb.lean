/-
  What the row of WorldNobody lists starts as the program lays it, second part. No condition.
-/
import Derived.Test.YtalhamokkblnjaaGreatDoorRows
import Derived.LaidByTextLater
import Derived.SevenTiedAt
namespace Go.Proofs.YtalhamokkblnjaaGreatDoor
set_option linter.unusedSimpArgs false
set_option linter.unusedVariables false
open Go

theorem oti_n : varsNamedLaterB Tryz.prog (varsId Tryz.prog) Rows.worldNobodyRow.laid = true := by kernel_rfl
end Go.Proofs.YtalhamokkblnjaaGreatDoor
