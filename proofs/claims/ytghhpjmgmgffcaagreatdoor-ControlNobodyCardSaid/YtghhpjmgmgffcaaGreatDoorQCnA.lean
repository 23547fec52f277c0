/-
  control.New without a store, for so many nodes: reckoned by the kernel. No condition.
-/
import Derived.Test.YtghhpjmgmgffcaaGreatDoorQ12
namespace Go.Proofs.YtghhpjmgmgffcaaGreatDoor
set_option linter.unusedSimpArgs false
set_option linter.unusedVariables false
open Go.Fw

theorem ck1 : (List.range' 1 18).all ckN = true := by kernel_rfl

theorem ck19 : (List.range' 19 8).all ckN = true := by kernel_rfl

theorem ck27 : (List.range' 27 6).all ckN = true := by kernel_rfl

theorem ck33 : (List.range' 33 5).all ckN = true := by kernel_rfl

end Go.Proofs.YtghhpjmgmgffcaaGreatDoor
