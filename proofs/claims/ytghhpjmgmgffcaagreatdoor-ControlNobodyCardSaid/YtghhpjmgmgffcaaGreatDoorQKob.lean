/-
  Calls that the closed run knows: each with its arguments and its answer, reckoned by the kernel. No condition.
-/
import Derived.Test.YtghhpjmgmgffcaaGreatDoorQKoa
namespace Go.Proofs.YtghhpjmgmgffcaaGreatDoor
set_option linter.unusedSimpArgs false
set_option linter.unusedVariables false
open Go.Fw

theorem koe8 : chkE (callT Tryz.prog (tblO (maskL [7, 13, 25, 28, 29, 32, 425]) kot8 oraK) hintT 80) 11 [] B1 = true := by kernel_rfl
def kot9 : Tbl := (11, [], B1) :: kot8
theorem kot9_good : GoodTbl Tryz.prog kot9 := .cons (entry (tblO_good kot8_good oraK_good) 80 koe8) kot8_good

end Go.Proofs.YtghhpjmgmgffcaaGreatDoor
