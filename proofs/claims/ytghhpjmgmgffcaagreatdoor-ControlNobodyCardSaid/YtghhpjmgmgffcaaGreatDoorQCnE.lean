/-
  control.New without a store, for so many nodes: reckoned by the kernel. No condition.
-/
import Derived.Test.YtghhpjmgmgffcaaGreatDoorQ12
namespace Go.Proofs.YtghhpjmgmgffcaaGreatDoor
set_option linter.unusedSimpArgs false
set_option linter.unusedVariables false
open Go.Fw

theorem nw36 : (List.range' 36 2).all nwN = true := by kernel_rfl

theorem nw38 : (List.range' 38 2).all nwN = true := by kernel_rfl

theorem nw40 : (List.range' 40 2).all nwN = true := by kernel_rfl

theorem nw42 : (List.range' 42 2).all nwN = true := by kernel_rfl

end Go.Proofs.YtghhpjmgmgffcaaGreatDoor
