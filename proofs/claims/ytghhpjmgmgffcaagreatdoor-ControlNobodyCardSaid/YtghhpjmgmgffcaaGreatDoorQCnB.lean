/-
  control.New without a store, for so many nodes: reckoned by the kernel. No condition.
-/
import Derived.Test.YtghhpjmgmgffcaaGreatDoorQ12
namespace Go.Proofs.YtghhpjmgmgffcaaGreatDoor
set_option linter.unusedSimpArgs false
set_option linter.unusedVariables false
open Go.Fw

theorem ck38 : (List.range' 38 5).all ckN = true := by kernel_rfl

theorem ck43 : (List.range' 43 4).all ckN = true := by kernel_rfl

theorem ck47 : (List.range' 47 2).all ckN = true := by kernel_rfl

theorem nw1 : (List.range' 1 10).all nwN = true := by kernel_rfl

end Go.Proofs.YtghhpjmgmgffcaaGreatDoor
