/-
  control.New without a store, for so many nodes: reckoned by the kernel. No condition.
-/
import Derived.Test.YtghhpjmgmgffcaaGreatDoorQ12
namespace Go.Proofs.YtghhpjmgmgffcaaGreatDoor
set_option linter.unusedSimpArgs false
set_option linter.unusedVariables false
open Go.Fw

theorem nw27 : (List.range' 27 3).all nwN = true := by kernel_rfl

theorem nw30 : (List.range' 30 2).all nwN = true := by kernel_rfl

theorem nw32 : (List.range' 32 2).all nwN = true := by kernel_rfl

theorem nw34 : (List.range' 34 2).all nwN = true := by kernel_rfl

end Go.Proofs.YtghhpjmgmgffcaaGreatDoor
