/-
  ControlNobody: a controller that no call made answers that it is none; there is none without a store. No condition.
-/
import Derived.Test.YtghhpjmgmgffcaaGreatDoorQControlNobodyL
import Derived.Test.YtghhpjmgmgffcaaGreatDoorQCnb
namespace Go.Proofs.YtghhpjmgmgffcaaGreatDoor
set_option linter.unusedSimpArgs false
set_option linter.unusedVariables false
open Go.Fw

theorem controlNobody_card : Rows.ControlNobodyCardSaid := controlNobody_card0 controlNobody_gives
#print axioms controlNobody_card
end Go.Proofs.YtghhpjmgmgffcaaGreatDoor
