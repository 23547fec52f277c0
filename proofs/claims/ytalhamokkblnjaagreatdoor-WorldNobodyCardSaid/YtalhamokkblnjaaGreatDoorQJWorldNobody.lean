/-
  WorldNobody: a world that no call made answers that it is none. No condition.
-/
import Derived.Test.YtalhamokkblnjaaGreatDoorQWorldNobodyL
import Derived.Test.YtalhamokkblnjaaGreatDoorQWnb
namespace Go.Proofs.YtalhamokkblnjaaGreatDoor
set_option linter.unusedSimpArgs false
set_option linter.unusedVariables false
open Go.Fw

theorem worldNobody_card : Rows.WorldNobodyCardSaid := worldNobody_card0 worldNobody_gives
#print axioms worldNobody_card
end Go.Proofs.YtalhamokkblnjaaGreatDoor
