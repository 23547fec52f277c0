/-
  What the row of this law says of the program is so: A controller that no call made answers that it is none; there is none without a store. No condition.
-/
import Derived.Test.YtghhpjmgmgffcaaGreatDoorCards
import Derived.Test.YtghhpjmgmgffcaaGreatDoorRows
import Derived.ProofKit
import Derived.LaidMore
import Derived.OpenShut
import Derived.SevenTiedAt
namespace Go.Proofs.YtghhpjmgmgffcaaGreatDoor
set_option linter.unusedSimpArgs false
set_option linter.unusedVariables false
open Go.RowKit Go.ChangeShapes Go.WideShapes

theorem controlNobody_j13 : ((Rows.controlNobodyRow.maps == (Tryz.f3.params.toList ++ Rows.controlNobodySpec.plain.varTypes Tryz.prog).any (Tryz.prog.mapsRec ·))) = true := by kernel_rfl

theorem controlNobody_j14 : ((Rows.controlNobodyRow.ifaces == (Tryz.f3.params.toList ++ Rows.controlNobodySpec.plain.varTypes Tryz.prog).any (Tryz.prog.ifacesRec ·))) = true := by kernel_rfl

theorem controlNobody_j15 : ((Rows.controlNobodyRow.mapsOut == Tryz.prog.mapsAmong Tryz.f3.resultTypes.toList)) = true := by kernel_rfl

theorem controlNobody_j16 : ((Rows.controlNobodyRow.loops == (Tryz.f3.params.toList ++ Rows.controlNobodySpec.plain.varTypes Tryz.prog).any (Tryz.prog.loopsFrom ·))) = true := by kernel_rfl

theorem controlNobody_j17 : ((Rows.controlNobodyRow.wideKeys == (Tryz.f3.params.toList ++ Rows.controlNobodySpec.plain.varTypes Tryz.prog ++ Tryz.f3.resultTypes.toList).any (Tryz.prog.wideKeysFrom ·))) = true := by kernel_rfl

theorem controlNobody_j18 : (Rows.controlNobodySpec.vars.all (Tryz.prog.varReadable ·)) = true := by kernel_rfl

theorem controlNobody_j19 : (Tryz.f3.resultTypes.all (fun t => Tryz.prog.readableRec t && decide (t < Tryz.prog.types.size))) = true := by kernel_rfl

theorem controlNobody_j20 : ((Rows.controlNobodyRow.ifacesOut == Tryz.f3.resultTypes.toList.any (Tryz.prog.ifacesRec ·))) = true := by kernel_rfl

theorem controlNobody_j21 : ((Rows.controlNobodyRow.loopsOut == Tryz.f3.resultTypes.toList.any (Tryz.prog.loopsFrom ·))) = true := by kernel_rfl

theorem controlNobody_j22 : ((Rows.controlNobodyRow.plainKeys == Tryz.prog.plainKeys)) = true := by kernel_rfl

theorem controlNobody_j23 : (Rows.controlNobodyRow.shortTexts.isNone) = true := by kernel_rfl

theorem controlNobody_j24 : (Tryz.prog.stopsHeard) = true := by kernel_rfl

theorem controlNobody_j25 : (Tryz.prog.mayEnter) = true := by kernel_rfl

theorem controlNobody_j26 : ((Rows.controlNobodyRow.lifted == Tryz.prog.liftsFinal)) = true := by kernel_rfl

theorem controlNobody_j27 : ((Tryz.prog.make == some Rows.controlNobodyRow.make)) = true := by kernel_rfl

theorem controlNobody_j28 : ((Rows.controlNobodyRow.kinds == (if Rows.controlNobodyRow.domain.isEmpty then [] else Tryz.f3.params.toList.map fun t => match Tryz.prog.underlying t with | some (.int k) => some k | _ => none))) = true := by kernel_rfl

theorem controlNobody_j29 : ((Rows.controlNobodyRow.pinned == Rows.controlNobodyRow.pinnedBy)) = true := by kernel_rfl

theorem controlNobody_j30 : ((Rows.controlNobodyRow.veiled == (Tryz.f3.params.toList ++ Rows.controlNobodySpec.plain.varTypes Tryz.prog ++ Tryz.f3.resultTypes.toList).any (Tryz.prog.veiledRec ·))) = true := by kernel_rfl

theorem controlNobody_j31 : (Rows.controlNobodyRow.veiledFits Tryz.prog Tryz.f3.params.toList (Tryz.f3.params.toList ++ Rows.controlNobodySpec.plain.varTypes Tryz.prog ++ Tryz.f3.resultTypes.toList)) = true := by kernel_rfl

end Go.Proofs.YtghhpjmgmgffcaaGreatDoor
