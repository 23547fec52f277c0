/-
  What the row of this law says of the program is so: A world that no call made answers that it is none. No condition.
-/
import Derived.Test.YtalhamokkblnjaaGreatDoorQ6
import Derived.Test.YtalhamokkblnjaaGreatDoorCards
import Derived.Test.YtalhamokkblnjaaGreatDoorRows
import Derived.ProofKit
import Derived.LaidMore
import Derived.OpenShut
import Derived.SevenTiedAt
namespace Go.Proofs.YtalhamokkblnjaaGreatDoor
set_option linter.unusedSimpArgs false
set_option linter.unusedVariables false
open Go.RowKit Go.ChangeShapes Go.WideShapes

theorem worldNobody_j0 : (Rows.worldNobodyRow.wf (OpenSpec.ofChange Rows.worldNobodySpec)) = true := by kernel_rfl

theorem worldNobody_j1 : (laidOutB Tryz.prog) = true := by kernel_rfl

theorem worldNobody_j2 : (mapsRowed Tryz.prog) = true := by kernel_rfl

theorem worldNobody_j3 : (Tryz.f3.params.all (Tryz.prog.readableRec ·)) = true := by kernel_rfl

theorem worldNobody_j4 : (namedTie Tryz.prog Rows.worldNobodyRow.named Rows.worldNobodySpec.vars) = true := by kernel_rfl

theorem worldNobody_j5 : ((Rows.worldNobodyRow.stops == [])) = true := by kernel_rfl

theorem worldNobody_j6 : ((Tryz.prog.stops == [])) = true := by kernel_rfl

theorem worldNobody_j7 : ((Rows.worldNobodyRow.knobs == [])) = true := by kernel_rfl

theorem worldNobody_j8 : ((Tryz.prog.stopKnobs == [])) = true := by kernel_rfl

end Go.Proofs.YtalhamokkblnjaaGreatDoor
