/-
  What the row of this law says of the program is so: A controller that no call made answers that it is none; there is none without a store. No condition.
-/
import Derived.Test.YtghhpjmgmgffcaaGreatDoorCards
import Derived.Test.YtghhpjmgmgffcaaGreatDoorRows
import Derived.ProofKit
import Derived.LaidMore
import Derived.OpenShut
import Derived.SevenTiedAt
namespace Go.Proofs.YtghhpjmgmgffcaaGreatDoor
set_option linter.unusedSimpArgs false
set_option linter.unusedVariables false
open Go.RowKit Go.ChangeShapes Go.WideShapes

theorem controlNobody_j0 : (Rows.controlNobodyRow.wf (OpenSpec.ofChange Rows.controlNobodySpec)) = true := by kernel_rfl

theorem controlNobody_j1 : (laidOutB Tryz.prog) = true := by kernel_rfl

theorem controlNobody_j2 : (mapsRowed Tryz.prog) = true := by kernel_rfl

theorem controlNobody_j3 : (Tryz.f3.params.all (Tryz.prog.readableRec ·)) = true := by kernel_rfl

theorem controlNobody_j4 : (namedTie Tryz.prog Rows.controlNobodyRow.named Rows.controlNobodySpec.vars) = true := by kernel_rfl

theorem controlNobody_j5 : ((Rows.controlNobodyRow.stops == [])) = true := by kernel_rfl

theorem controlNobody_j6 : ((Tryz.prog.stops == [])) = true := by kernel_rfl

theorem controlNobody_j7 : ((Rows.controlNobodyRow.knobs == [])) = true := by kernel_rfl

theorem controlNobody_j8 : ((Tryz.prog.stopKnobs == [])) = true := by kernel_rfl

end Go.Proofs.YtghhpjmgmgffcaaGreatDoor
