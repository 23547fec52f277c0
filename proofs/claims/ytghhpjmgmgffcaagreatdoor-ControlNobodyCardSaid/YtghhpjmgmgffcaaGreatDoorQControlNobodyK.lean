/-
  What the row of this law says of the program is so: A controller that no call made answers that it is none; there is none without a store. No condition.
-/
import Derived.Test.YtghhpjmgmgffcaaGreatDoorQControlNobodyKe
import Derived.Test.YtghhpjmgmgffcaaGreatDoorQControlNobodyKf
import Derived.Test.YtghhpjmgmgffcaaGreatDoorQControlNobodyKg
import Derived.Test.YtghhpjmgmgffcaaGreatDoorQControlNobodyKh
import Derived.Test.YtghhpjmgmgffcaaGreatDoorQControlNobodyKa
import Derived.Test.YtghhpjmgmgffcaaGreatDoorQControlNobodyKb
import Derived.Test.YtghhpjmgmgffcaaGreatDoorQControlNobodyKc
import Derived.Test.YtghhpjmgmgffcaaGreatDoorQControlNobodyKd
import Derived.Test.YtghhpjmgmgffcaaGreatDoorCards
import Derived.Test.YtghhpjmgmgffcaaGreatDoorRows
import Derived.ProofKit
import Derived.LaidMore
import Derived.OpenShut
import Derived.SevenTiedAt
namespace Go.Proofs.YtghhpjmgmgffcaaGreatDoor
set_option linter.unusedSimpArgs false
set_option linter.unusedVariables false
open Go.RowKit Go.ChangeShapes Go.WideShapes

theorem jf_ok {a b : Bool} (ha : a = true) (hb : b = true) : (a && b) = true := by rw [ha, hb]; rfl

set_option maxRecDepth 100000 in
theorem controlNobody_joined : joinedFacts Tryz.checked.prog 3 Tryz.f3 Rows.controlNobodySpec Rows.controlNobodyRow = true := by
  unfold joinedFacts
  exact (jf_ok (jf_ok (jf_ok (jf_ok (jf_ok (jf_ok (jf_ok (jf_ok (jf_ok (jf_ok (jf_ok (jf_ok (jf_ok (jf_ok (jf_ok (jf_ok (jf_ok (jf_ok (jf_ok (jf_ok (jf_ok (jf_ok (jf_ok (jf_ok (jf_ok (jf_ok (jf_ok (jf_ok (jf_ok (jf_ok (jf_ok controlNobody_j0 controlNobody_j1) controlNobody_j2) controlNobody_j3) controlNobody_j4) controlNobody_j5) controlNobody_j6) controlNobody_j7) controlNobody_j8) controlNobody_j9) controlNobody_j10) controlNobody_j11) controlNobody_j12) controlNobody_j13) controlNobody_j14) controlNobody_j15) controlNobody_j16) controlNobody_j17) controlNobody_j18) controlNobody_j19) controlNobody_j20) controlNobody_j21) controlNobody_j22) controlNobody_j23) controlNobody_j24) controlNobody_j25) controlNobody_j26) controlNobody_j27) controlNobody_j28) controlNobody_j29) controlNobody_j30) controlNobody_j31)

end Go.Proofs.YtghhpjmgmgffcaaGreatDoor
