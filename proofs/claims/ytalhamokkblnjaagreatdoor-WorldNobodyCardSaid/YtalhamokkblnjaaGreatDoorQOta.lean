/-
  What the row of WorldNobody lists starts as the program lays it, first part. No condition.
-/
import Derived.Test.YtalhamokkblnjaaGreatDoorRows
import Derived.LaidByTextLater
import Derived.SevenTiedAt
namespace Go.Proofs.YtalhamokkblnjaaGreatDoor
set_option linter.unusedSimpArgs false
set_option linter.unusedVariables false
open Go

theorem oti_own : Tryz.pinned.checked.prog.headLifts.contains "ownunsafe" = false := by kernel_rfl
theorem oti_w : Tryz.prog.worded (varsWordLater true) = true := by kernel_rfl
theorem oti_w2 : Tryz.prog.worded (varsWordLater !true) = false := by kernel_rfl
theorem oti_root : Tryz.prog.worded rootWordLater = true := by kernel_rfl
theorem oti_k : Rows.worldNobodyRow.laid.map (fun x => Tryz.prog.kindOfLater x.1) = ([.data, .data, .data, .sentinel, .sentinel] : List LaidKind).map some := by kernel_rfl
theorem oti_g : (Tryz.prog.funcNamed "gosem.cut.vars").isSome = true := by kernel_rfl
theorem oti_d : ∀ os tape, varsDone Tryz.prog 400 (varsId Tryz.prog) os tape = true := by intro os tape; kernel_rfl
theorem oti_r1 : ∀ os tape, (DataW.laidRun Tryz.prog (varsWorld Tryz.prog 400 (varsId Tryz.prog) os tape).memory 8 (Rows.worldNobodyRow.laid.map (·.1))).map (·.1) = some Rows.worldNobodyRow.laid := by intro os tape; kernel_rfl
theorem oti_r2 : ∀ os tape, (DataW.laidRun Tryz.prog (varsWorld Tryz.prog 400 (varsId Tryz.prog) os tape).memory 8 (Rows.worldNobodyRow.laid.map (·.1))).map (fun x => decide x.2.Nodup && laidRowsB Tryz.prog (varsWorld Tryz.prog 400 (varsId Tryz.prog) os tape).memory x.2) = some true := by intro os tape; kernel_rfl
theorem oti_p : (Rows.worldNobodyRow.laid.all fun x => x.2.handleName?.isNone) = true := by kernel_rfl
end Go.Proofs.YtalhamokkblnjaaGreatDoor
