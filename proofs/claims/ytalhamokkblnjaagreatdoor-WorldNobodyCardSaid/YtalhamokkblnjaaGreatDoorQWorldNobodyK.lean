/-
  What the row of this law says of the program is so: A world that no call made answers that it is none. No condition.
-/
import Derived.Test.YtalhamokkblnjaaGreatDoorQWorldNobodyKa
import Derived.Test.YtalhamokkblnjaaGreatDoorQWorldNobodyKb
import Derived.Test.YtalhamokkblnjaaGreatDoorQWorldNobodyKd
import Derived.Test.YtalhamokkblnjaaGreatDoorQWorldNobodyKe
import Derived.Test.YtalhamokkblnjaaGreatDoorQWorldNobodyKf
import Derived.Test.YtalhamokkblnjaaGreatDoorQWorldNobodyKg
import Derived.Test.YtalhamokkblnjaaGreatDoorQWorldNobodyKh
import Derived.Test.YtalhamokkblnjaaGreatDoorQ6
import Derived.Test.YtalhamokkblnjaaGreatDoorCards
import Derived.Test.YtalhamokkblnjaaGreatDoorRows
import Derived.ProofKit
import Derived.LaidMore
import Derived.OpenShut
import Derived.SevenTiedAt
namespace Go.Proofs.YtalhamokkblnjaaGreatDoor
set_option linter.unusedSimpArgs false
set_option linter.unusedVariables false
open Go.RowKit Go.ChangeShapes Go.WideShapes

theorem jf_ok {a b : Bool} (ha : a = true) (hb : b = true) : (a && b) = true := by rw [ha, hb]; rfl

set_option maxRecDepth 100000 in
theorem worldNobody_joined : joinedFacts Tryz.checked.prog 3 Tryz.f3 Rows.worldNobodySpec Rows.worldNobodyRow = true := by
  unfold joinedFacts
  exact (jf_ok (jf_ok (jf_ok (jf_ok (jf_ok (jf_ok (jf_ok (jf_ok (jf_ok (jf_ok (jf_ok (jf_ok (jf_ok (jf_ok (jf_ok (jf_ok (jf_ok (jf_ok (jf_ok (jf_ok (jf_ok (jf_ok (jf_ok (jf_ok (jf_ok (jf_ok (jf_ok (jf_ok (jf_ok (jf_ok (jf_ok worldNobody_j0 worldNobody_j1) worldNobody_j2) worldNobody_j3) worldNobody_j4) worldNobody_j5) worldNobody_j6) worldNobody_j7) worldNobody_j8) worldNobody_j9) worldNobody_j10) worldNobody_j11) worldNobody_j12) worldNobody_j13) worldNobody_j14) worldNobody_j15) worldNobody_j16) worldNobody_j17) worldNobody_j18) worldNobody_j19) worldNobody_j20) worldNobody_j21) worldNobody_j22) worldNobody_j23) worldNobody_j24) worldNobody_j25) worldNobody_j26) worldNobody_j27) worldNobody_j28) worldNobody_j29) worldNobody_j30) worldNobody_j31)

end Go.Proofs.YtalhamokkblnjaaGreatDoor
