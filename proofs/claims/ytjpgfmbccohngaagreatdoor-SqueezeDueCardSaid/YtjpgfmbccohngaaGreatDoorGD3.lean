/-
  What the row of this law says of the program is so: What is due may start now. No condition.
-/
import Derived.Test.YtjpgfmbccohngaaGreatDoorTie
import Derived.Test.YtjpgfmbccohngaaGreatDoorCards
import Derived.Test.YtjpgfmbccohngaaGreatDoorRows
import Derived.ProofKit
import Derived.LaidMore
import Derived.OpenShut
import Derived.SevenTiedAt
namespace Go.Proofs.YtjpgfmbccohngaaGreatDoor
set_option linter.unusedSimpArgs false
set_option linter.unusedVariables false
open Go.RowKit Go.ChangeShapes Go.WideShapes
theorem jf_ok {a b:Bool} (ha:a=true) (hb:b=true):(a&&b)=true:=by rw [ha,hb];rfl
theorem squeezeDue_j0:(Rows.squeezeDueRow.wf (OpenSpec.ofChange Rows.squeezeDueSpec))=true:=by kernel_rfl
theorem squeezeDue_j1:(laidOutB Tryz.prog)=true:=by kernel_rfl
theorem squeezeDue_j2:(mapsRowed Tryz.prog)=true:=by kernel_rfl
theorem squeezeDue_j3:(Tryz.f10.params.all (Tryz.prog.readableRec ·))=true:=by kernel_rfl
theorem squeezeDue_j4:(namedTie Tryz.prog Rows.squeezeDueRow.named Rows.squeezeDueSpec.vars)=true:=by kernel_rfl
theorem squeezeDue_j5:((Rows.squeezeDueRow.stops==[]))=true:=by kernel_rfl
theorem squeezeDue_j6:((Tryz.prog.stops==[]))=true:=by kernel_rfl
theorem squeezeDue_j7:((Rows.squeezeDueRow.knobs==[]))=true:=by kernel_rfl
theorem squeezeDue_j8:((Tryz.prog.stopKnobs==[]))=true:=by kernel_rfl
theorem squeezeDue_j9:((Rows.squeezeDueRow.inPlace == Tryz.prog.inPlace 10))=true:=by kernel_rfl
theorem squeezeDue_j10:((Rows.squeezeDueRow.unfollowed == Tryz.prog.unfollowed 10))=true:=by kernel_rfl
theorem squeezeDue_j11:((Rows.squeezeDueRow.recurses == Tryz.prog.recurses 10))=true:=by kernel_rfl
theorem squeezeDue_j12:((Rows.squeezeDueRow.named == Tryz.prog.varsNamed 10))=true:=by kernel_rfl
theorem squeezeDue_j13:((Rows.squeezeDueRow.maps==(Tryz.f10.params.toList++Rows.squeezeDueSpec.plain.varTypes Tryz.prog).any (Tryz.prog.mapsRec ·)))=true:=by kernel_rfl
theorem squeezeDue_j14:((Rows.squeezeDueRow.ifaces==(Tryz.f10.params.toList++Rows.squeezeDueSpec.plain.varTypes Tryz.prog).any (Tryz.prog.ifacesRec ·)))=true:=by kernel_rfl
theorem squeezeDue_j15:((Rows.squeezeDueRow.mapsOut == Tryz.prog.mapsAmong Tryz.f10.resultTypes.toList))=true:=by kernel_rfl
theorem squeezeDue_j16:((Rows.squeezeDueRow.loops==(Tryz.f10.params.toList++Rows.squeezeDueSpec.plain.varTypes Tryz.prog).any (Tryz.prog.loopsFrom ·)))=true:=by kernel_rfl
theorem squeezeDue_j17:((Rows.squeezeDueRow.wideKeys==(Tryz.f10.params.toList++Rows.squeezeDueSpec.plain.varTypes Tryz.prog ++ Tryz.f10.resultTypes.toList).any (Tryz.prog.wideKeysFrom ·)))=true:=by kernel_rfl
theorem squeezeDue_j18:(Rows.squeezeDueSpec.vars.all (Tryz.prog.varReadable ·))=true:=by kernel_rfl
theorem squeezeDue_j19:(Tryz.f10.resultTypes.all (fun t=>Tryz.prog.readableRec t&&decide (t < Tryz.prog.types.size)))=true:=by kernel_rfl
theorem squeezeDue_j20:((Rows.squeezeDueRow.ifacesOut == Tryz.f10.resultTypes.toList.any (Tryz.prog.ifacesRec ·)))=true:=by kernel_rfl
theorem squeezeDue_j21:((Rows.squeezeDueRow.loopsOut == Tryz.f10.resultTypes.toList.any (Tryz.prog.loopsFrom ·)))=true:=by kernel_rfl
theorem squeezeDue_j22:((Rows.squeezeDueRow.plainKeys == Tryz.prog.plainKeys))=true:=by kernel_rfl
theorem squeezeDue_j23:(Rows.squeezeDueRow.shortTexts.isNone)=true:=by kernel_rfl
theorem squeezeDue_j24:(Tryz.prog.stopsHeard)=true:=by kernel_rfl
theorem squeezeDue_j25:(Tryz.prog.mayEnter)=true:=by kernel_rfl
theorem squeezeDue_j26:((Rows.squeezeDueRow.lifted == Tryz.prog.liftsFinal))=true:=by kernel_rfl
theorem squeezeDue_j27:((Tryz.prog.make==some Rows.squeezeDueRow.make))=true:=by kernel_rfl
theorem squeezeDue_j28:((Rows.squeezeDueRow.kinds==(if Rows.squeezeDueRow.domain.isEmpty then [] else Tryz.f10.params.toList.map fun t=>match Tryz.prog.underlying t with|some (.int k)=>some k|_=>none)))=true:=by kernel_rfl
theorem squeezeDue_j29:((Rows.squeezeDueRow.pinned==Rows.squeezeDueRow.pinnedBy))=true:=by kernel_rfl
theorem squeezeDue_j30:((Rows.squeezeDueRow.veiled==(Tryz.f10.params.toList++Rows.squeezeDueSpec.plain.varTypes Tryz.prog ++ Tryz.f10.resultTypes.toList).any (Tryz.prog.veiledRec ·)))=true:=by kernel_rfl
theorem squeezeDue_j31:(Rows.squeezeDueRow.veiledFits Tryz.prog Tryz.f10.params.toList (Tryz.f10.params.toList++Rows.squeezeDueSpec.plain.varTypes Tryz.prog ++ Tryz.f10.resultTypes.toList))=true:=by kernel_rfl
set_option maxRecDepth 100000 in
theorem Qpd:joinedFacts Tryz.checked.prog 10 Tryz.f10 Rows.squeezeDueSpec Rows.squeezeDueRow=true:=by
 unfold joinedFacts
 exact (jf_ok (jf_ok (jf_ok (jf_ok (jf_ok (jf_ok (jf_ok (jf_ok (jf_ok (jf_ok (jf_ok (jf_ok (jf_ok (jf_ok (jf_ok (jf_ok (jf_ok (jf_ok (jf_ok (jf_ok (jf_ok (jf_ok (jf_ok (jf_ok (jf_ok (jf_ok (jf_ok (jf_ok (jf_ok (jf_ok (jf_ok squeezeDue_j0 squeezeDue_j1) squeezeDue_j2) squeezeDue_j3) squeezeDue_j4) squeezeDue_j5) squeezeDue_j6) squeezeDue_j7) squeezeDue_j8) squeezeDue_j9) squeezeDue_j10) squeezeDue_j11) squeezeDue_j12) squeezeDue_j13) squeezeDue_j14) squeezeDue_j15) squeezeDue_j16) squeezeDue_j17) squeezeDue_j18) squeezeDue_j19) squeezeDue_j20) squeezeDue_j21) squeezeDue_j22) squeezeDue_j23) squeezeDue_j24) squeezeDue_j25) squeezeDue_j26) squeezeDue_j27) squeezeDue_j28) squeezeDue_j29) squeezeDue_j30) squeezeDue_j31)
theorem squeezeDue_named : Tryz.prog.funcNamed "muster/musterlaw22.SqueezeDue" = some 10 := by kernel_rfl
theorem squeezeDue_wbt:Rows.squeezeDueRow.wfByText (OpenSpec.ofChange Rows.squeezeDueSpec)=true:=by kernel_rfl
theorem Q8h : Tryz.prog.mainIs = some (true, "dae1aa68f08b665462c7e19f959389dfe4c0d8ff5d812cf9a780a93814aaddea".toList) := by kernel_rfl
theorem Qoe:true = Tryz.prog.looks []:=by kernel_rfl
theorem Q7h:false=Rows.squeezeDueRow.goesBy Tryz.prog:=by kernel_rfl
end Go.Proofs.YtjpgfmbccohngaaGreatDoor
