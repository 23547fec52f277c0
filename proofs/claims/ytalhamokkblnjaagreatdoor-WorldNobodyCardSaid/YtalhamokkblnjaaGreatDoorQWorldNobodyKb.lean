/-
  What the row of this law says of the program is so: A world that no call made answers that it is none. No condition.
-/
import Derived.Test.YtalhamokkblnjaaGreatDoorQClo
import Derived.Test.YtalhamokkblnjaaGreatDoorQ6
import Derived.Test.YtalhamokkblnjaaGreatDoorCards
import Derived.Test.YtalhamokkblnjaaGreatDoorRows
import Derived.ProofKit
import Derived.LaidMore
import Derived.OpenShut
import Derived.SevenTiedAt
namespace Go.Proofs.YtalhamokkblnjaaGreatDoor
set_option linter.unusedSimpArgs false
set_option linter.unusedVariables false
open Go.RowKit Go.ChangeShapes Go.WideShapes

theorem worldNobody_j9_0 : (Rows.worldNobodyRow.inPlace == ipL Tryz.prog cloL) = true := by kernel_rfl
theorem worldNobody_j9 : ((Rows.worldNobodyRow.inPlace == Tryz.prog.inPlace 3)) = true := by
  rw [ip_eq, clo_c]
  exact worldNobody_j9_0

theorem worldNobody_j10_0 : (Rows.worldNobodyRow.unfollowed == ufL Tryz.prog cloL) = true := by kernel_rfl
theorem worldNobody_j10 : ((Rows.worldNobodyRow.unfollowed == Tryz.prog.unfollowed 3)) = true := by
  rw [uf_eq, clo_c]
  exact worldNobody_j10_0

theorem worldNobody_j11_0 : ufL Tryz.prog cloL = true := by kernel_rfl
theorem worldNobody_j11_1 : Rows.worldNobodyRow.recurses = true := by kernel_rfl
theorem worldNobody_j11 : ((Rows.worldNobodyRow.recurses == Tryz.prog.recurses 3)) = true := by
  rw [worldNobody_j11_1]
  unfold Program.recurses
  rw [uf_eq, clo_c, worldNobody_j11_0]
  rfl

theorem worldNobody_j12_0 : (Rows.worldNobodyRow.named == vnL Tryz.prog cloL) = true := by kernel_rfl
theorem worldNobody_j12 : ((Rows.worldNobodyRow.named == Tryz.prog.varsNamed 3)) = true := by
  rw [vn_eq, clo_c]
  exact worldNobody_j12_0

end Go.Proofs.YtalhamokkblnjaaGreatDoor
