/-
  control.New without a store, for so many nodes: reckoned by the kernel. No condition.
-/
import Derived.Test.YtghhpjmgmgffcaaGreatDoorQ12
namespace Go.Proofs.YtghhpjmgmgffcaaGreatDoor
set_option linter.unusedSimpArgs false
set_option linter.unusedVariables false
open Go.Fw

theorem nw11 : (List.range' 11 5).all nwN = true := by kernel_rfl

theorem nw16 : (List.range' 16 4).all nwN = true := by kernel_rfl

theorem nw20 : (List.range' 20 4).all nwN = true := by kernel_rfl

theorem nw24 : (List.range' 24 3).all nwN = true := by kernel_rfl

end Go.Proofs.YtghhpjmgmgffcaaGreatDoor
