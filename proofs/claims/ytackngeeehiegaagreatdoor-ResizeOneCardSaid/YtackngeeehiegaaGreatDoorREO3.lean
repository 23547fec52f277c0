/-
  What the row of this law says of the program is so: Whatever is answered, the state may be; the job's nodes are what they were, or all that were asked are joined or left. No condition.
-/
import Derived.Test.YtackngeeehiegaaGreatDoorTie
import Derived.Test.YtackngeeehiegaaGreatDoorCards
import Derived.Test.YtackngeeehiegaaGreatDoorRows
import Derived.ProofKit
import Derived.LaidMore
import Derived.OpenShut
import Derived.SevenTiedAt
namespace Go.Proofs.YtackngeeehiegaaGreatDoor
set_option linter.unusedSimpArgs false
set_option linter.unusedVariables false
open Go.RowKit Go.ChangeShapes Go.WideShapes
theorem jf_ok {a b:Bool} (ha:a=true) (hb:b=true):(a&&b)=true:=by rw [ha,hb];rfl
theorem resizeOne_j0:(Rows.resizeOneRow.wf (OpenSpec.ofChange Rows.resizeOneSpec))=true:=by kernel_rfl
theorem resizeOne_j1:(laidOutB Tryz.prog)=true:=by kernel_rfl
theorem resizeOne_j2:(mapsRowed Tryz.prog)=true:=by kernel_rfl
theorem resizeOne_j3:(Tryz.f6.params.all (Tryz.prog.readableRec ·))=true:=by kernel_rfl
theorem resizeOne_j4:(namedTie Tryz.prog Rows.resizeOneRow.named Rows.resizeOneSpec.vars)=true:=by kernel_rfl
theorem resizeOne_j5:((Rows.resizeOneRow.stops==[]))=true:=by kernel_rfl
theorem resizeOne_j6:((Tryz.prog.stops==[]))=true:=by kernel_rfl
theorem resizeOne_j7:((Rows.resizeOneRow.knobs==[]))=true:=by kernel_rfl
theorem resizeOne_j8:((Tryz.prog.stopKnobs==[]))=true:=by kernel_rfl
theorem resizeOne_j9:((Rows.resizeOneRow.inPlace == Tryz.prog.inPlace 6))=true:=by kernel_rfl
theorem resizeOne_j10:((Rows.resizeOneRow.unfollowed == Tryz.prog.unfollowed 6))=true:=by kernel_rfl
theorem resizeOne_j11:((Rows.resizeOneRow.recurses == Tryz.prog.recurses 6))=true:=by kernel_rfl
theorem resizeOne_j12:((Rows.resizeOneRow.named == Tryz.prog.varsNamed 6))=true:=by kernel_rfl
theorem resizeOne_j13:((Rows.resizeOneRow.maps==(Tryz.f6.params.toList++Rows.resizeOneSpec.plain.varTypes Tryz.prog).any (Tryz.prog.mapsRec ·)))=true:=by kernel_rfl
theorem resizeOne_j14:((Rows.resizeOneRow.ifaces==(Tryz.f6.params.toList++Rows.resizeOneSpec.plain.varTypes Tryz.prog).any (Tryz.prog.ifacesRec ·)))=true:=by kernel_rfl
theorem resizeOne_j15:((Rows.resizeOneRow.mapsOut == Tryz.prog.mapsAmong Tryz.f6.resultTypes.toList))=true:=by kernel_rfl
theorem resizeOne_j16:((Rows.resizeOneRow.loops==(Tryz.f6.params.toList++Rows.resizeOneSpec.plain.varTypes Tryz.prog).any (Tryz.prog.loopsFrom ·)))=true:=by kernel_rfl
theorem resizeOne_j17:((Rows.resizeOneRow.wideKeys==(Tryz.f6.params.toList++Rows.resizeOneSpec.plain.varTypes Tryz.prog ++ Tryz.f6.resultTypes.toList).any (Tryz.prog.wideKeysFrom ·)))=true:=by kernel_rfl
theorem resizeOne_j18:(Rows.resizeOneSpec.vars.all (Tryz.prog.varReadable ·))=true:=by kernel_rfl
theorem resizeOne_j19:(Tryz.f6.resultTypes.all (fun t=>Tryz.prog.readableRec t&&decide (t < Tryz.prog.types.size)))=true:=by kernel_rfl
theorem resizeOne_j20:((Rows.resizeOneRow.ifacesOut == Tryz.f6.resultTypes.toList.any (Tryz.prog.ifacesRec ·)))=true:=by kernel_rfl
theorem resizeOne_j21:((Rows.resizeOneRow.loopsOut == Tryz.f6.resultTypes.toList.any (Tryz.prog.loopsFrom ·)))=true:=by kernel_rfl
theorem resizeOne_j22:((Rows.resizeOneRow.plainKeys == Tryz.prog.plainKeys))=true:=by kernel_rfl
theorem resizeOne_j23:(Rows.resizeOneRow.shortTexts.isNone)=true:=by kernel_rfl
theorem resizeOne_j24:(Tryz.prog.stopsHeard)=true:=by kernel_rfl
theorem resizeOne_j25:(Tryz.prog.mayEnter)=true:=by kernel_rfl
theorem resizeOne_j26:((Rows.resizeOneRow.lifted == Tryz.prog.liftsFinal))=true:=by kernel_rfl
theorem resizeOne_j27:((Tryz.prog.make==some Rows.resizeOneRow.make))=true:=by kernel_rfl
theorem resizeOne_j28:((Rows.resizeOneRow.kinds==(if Rows.resizeOneRow.domain.isEmpty then [] else Tryz.f6.params.toList.map fun t=>match Tryz.prog.underlying t with|some (.int k)=>some k|_=>none)))=true:=by kernel_rfl
theorem resizeOne_j29:((Rows.resizeOneRow.pinned==Rows.resizeOneRow.pinnedBy))=true:=by kernel_rfl
theorem resizeOne_j30:((Rows.resizeOneRow.veiled==(Tryz.f6.params.toList++Rows.resizeOneSpec.plain.varTypes Tryz.prog ++ Tryz.f6.resultTypes.toList).any (Tryz.prog.veiledRec ·)))=true:=by kernel_rfl
theorem resizeOne_j31:(Rows.resizeOneRow.veiledFits Tryz.prog Tryz.f6.params.toList (Tryz.f6.params.toList++Rows.resizeOneSpec.plain.varTypes Tryz.prog ++ Tryz.f6.resultTypes.toList))=true:=by kernel_rfl
set_option maxRecDepth 100000 in
theorem Qgd:joinedFacts Tryz.checked.prog 6 Tryz.f6 Rows.resizeOneSpec Rows.resizeOneRow=true:=by
 unfold joinedFacts
 exact (jf_ok (jf_ok (jf_ok (jf_ok (jf_ok (jf_ok (jf_ok (jf_ok (jf_ok (jf_ok (jf_ok (jf_ok (jf_ok (jf_ok (jf_ok (jf_ok (jf_ok (jf_ok (jf_ok (jf_ok (jf_ok (jf_ok (jf_ok (jf_ok (jf_ok (jf_ok (jf_ok (jf_ok (jf_ok (jf_ok (jf_ok resizeOne_j0 resizeOne_j1) resizeOne_j2) resizeOne_j3) resizeOne_j4) resizeOne_j5) resizeOne_j6) resizeOne_j7) resizeOne_j8) resizeOne_j9) resizeOne_j10) resizeOne_j11) resizeOne_j12) resizeOne_j13) resizeOne_j14) resizeOne_j15) resizeOne_j16) resizeOne_j17) resizeOne_j18) resizeOne_j19) resizeOne_j20) resizeOne_j21) resizeOne_j22) resizeOne_j23) resizeOne_j24) resizeOne_j25) resizeOne_j26) resizeOne_j27) resizeOne_j28) resizeOne_j29) resizeOne_j30) resizeOne_j31)
theorem resizeOne_named : Tryz.prog.funcNamed "muster/musterlaw26.ResizeOne" = some 6 := by kernel_rfl
theorem resizeOne_wbt:Rows.resizeOneRow.wfByText (OpenSpec.ofChange Rows.resizeOneSpec)=true:=by kernel_rfl
theorem resizeOne_main : Tryz.prog.mainIs = some (true, "0d9f5ecd6f9e78159df61c7f547d7bc6bd943f0def6562f313832cbb46e3e19e".toList) := by kernel_rfl
theorem QKe:true = Tryz.prog.looks []:=by kernel_rfl
theorem resizeOne_goes:false=Rows.resizeOneRow.goesBy Tryz.prog:=by kernel_rfl
end Go.Proofs.YtackngeeehiegaaGreatDoor
