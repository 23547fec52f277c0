/-
  control.New without a store, for so many nodes: reckoned by the kernel. No condition.
-/
import Derived.Test.YtghhpjmgmgffcaaGreatDoorQ12
namespace Go.Proofs.YtghhpjmgmgffcaaGreatDoor
set_option linter.unusedSimpArgs false
set_option linter.unusedVariables false
open Go.Fw

theorem nw44 : (List.range' 44 2).all nwN = true := by kernel_rfl

theorem nw46 : (List.range' 46 2).all nwN = true := by kernel_rfl

theorem nw48 : (List.range' 48 1).all nwN = true := by kernel_rfl

end Go.Proofs.YtghhpjmgmgffcaaGreatDoor
