/-
  What the row of WorldNobody lists starts as the program lays it. No condition.
-/
import Derived.Test.YtalhamokkblnjaaGreatDoorQOta
import Derived.Test.YtalhamokkblnjaaGreatDoorQOtb
import Derived.LaidByTextLater
import Derived.SevenTiedAt
namespace Go.Proofs.YtalhamokkblnjaaGreatDoor
set_option linter.unusedSimpArgs false
set_option linter.unusedVariables false
open Go

theorem oti : Tryz.prog.laidByTextLater Rows.worldNobodyRow.laid [.data, .data, .data, .sentinel, .sentinel] true := Program.laidByTextLater_by_run 400 8 oti_w oti_w2 oti_root oti_k oti_g oti_n oti_d oti_r1 oti_r2 oti_p
theorem worldNobody_row_tie : Rows.worldNobodyRow.laidByTextAt .later Tryz.pinned [.data, .data, .data, .sentinel, .sentinel] true := OpenClaim.laidByTextAt_later rfl rfl oti oti_own
end Go.Proofs.YtalhamokkblnjaaGreatDoor
