/-
  What the row of this law says of the program is so: A world that no call made answers that it is none. No condition.
-/
import Derived.Test.YtalhamokkblnjaaGreatDoorQ6
import Derived.Test.YtalhamokkblnjaaGreatDoorCards
import Derived.Test.YtalhamokkblnjaaGreatDoorRows
import Derived.ProofKit
import Derived.LaidMore
import Derived.OpenShut
import Derived.SevenTiedAt
namespace Go.Proofs.YtalhamokkblnjaaGreatDoor
set_option linter.unusedSimpArgs false
set_option linter.unusedVariables false
open Go.RowKit Go.ChangeShapes Go.WideShapes

theorem worldNobody_j13 : ((Rows.worldNobodyRow.maps == (Tryz.f3.params.toList ++ Rows.worldNobodySpec.plain.varTypes Tryz.prog).any (Tryz.prog.mapsRec ·))) = true := by kernel_rfl

theorem worldNobody_j14 : ((Rows.worldNobodyRow.ifaces == (Tryz.f3.params.toList ++ Rows.worldNobodySpec.plain.varTypes Tryz.prog).any (Tryz.prog.ifacesRec ·))) = true := by kernel_rfl

theorem worldNobody_j15 : ((Rows.worldNobodyRow.mapsOut == Tryz.prog.mapsAmong Tryz.f3.resultTypes.toList)) = true := by kernel_rfl

theorem worldNobody_j16 : ((Rows.worldNobodyRow.loops == (Tryz.f3.params.toList ++ Rows.worldNobodySpec.plain.varTypes Tryz.prog).any (Tryz.prog.loopsFrom ·))) = true := by kernel_rfl

theorem worldNobody_j17 : ((Rows.worldNobodyRow.wideKeys == (Tryz.f3.params.toList ++ Rows.worldNobodySpec.plain.varTypes Tryz.prog ++ Tryz.f3.resultTypes.toList).any (Tryz.prog.wideKeysFrom ·))) = true := by kernel_rfl

theorem worldNobody_j18 : (Rows.worldNobodySpec.vars.all (Tryz.prog.varReadable ·)) = true := by kernel_rfl

theorem worldNobody_j19 : (Tryz.f3.resultTypes.all (fun t => Tryz.prog.readableRec t && decide (t < Tryz.prog.types.size))) = true := by kernel_rfl

theorem worldNobody_j20 : ((Rows.worldNobodyRow.ifacesOut == Tryz.f3.resultTypes.toList.any (Tryz.prog.ifacesRec ·))) = true := by kernel_rfl

theorem worldNobody_j21 : ((Rows.worldNobodyRow.loopsOut == Tryz.f3.resultTypes.toList.any (Tryz.prog.loopsFrom ·))) = true := by kernel_rfl

theorem worldNobody_j22 : ((Rows.worldNobodyRow.plainKeys == Tryz.prog.plainKeys)) = true := by kernel_rfl

theorem worldNobody_j23 : (Rows.worldNobodyRow.shortTexts.isNone) = true := by kernel_rfl

theorem worldNobody_j24 : (Tryz.prog.stopsHeard) = true := by kernel_rfl

theorem worldNobody_j25 : (Tryz.prog.mayEnter) = true := by kernel_rfl

theorem worldNobody_j26 : ((Rows.worldNobodyRow.lifted == Tryz.prog.liftsFinal)) = true := by kernel_rfl

theorem worldNobody_j27 : ((Tryz.prog.make == some Rows.worldNobodyRow.make)) = true := by kernel_rfl

theorem worldNobody_j28 : ((Rows.worldNobodyRow.kinds == (if Rows.worldNobodyRow.domain.isEmpty then [] else Tryz.f3.params.toList.map fun t => match Tryz.prog.underlying t with | some (.int k) => some k | _ => none))) = true := by kernel_rfl

theorem worldNobody_j29 : ((Rows.worldNobodyRow.pinned == Rows.worldNobodyRow.pinnedBy)) = true := by kernel_rfl

theorem worldNobody_j30 : ((Rows.worldNobodyRow.veiled == (Tryz.f3.params.toList ++ Rows.worldNobodySpec.plain.varTypes Tryz.prog ++ Tryz.f3.resultTypes.toList).any (Tryz.prog.veiledRec ·))) = true := by kernel_rfl

theorem worldNobody_j31 : (Rows.worldNobodyRow.veiledFits Tryz.prog Tryz.f3.params.toList (Tryz.f3.params.toList ++ Rows.worldNobodySpec.plain.varTypes Tryz.prog ++ Tryz.f3.resultTypes.toList)) = true := by kernel_rfl

end Go.Proofs.YtalhamokkblnjaaGreatDoor
