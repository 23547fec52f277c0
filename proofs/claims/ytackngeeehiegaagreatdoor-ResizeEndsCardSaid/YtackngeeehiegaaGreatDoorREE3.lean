/-
  What the row of this law says of the program is so: Behind an end, a refusal, or as many agreements as nodes were asked, a change of size is over. No condition.
-/
import Derived.Test.YtackngeeehiegaaGreatDoorTie
import Derived.Test.YtackngeeehiegaaGreatDoorCards
import Derived.Test.YtackngeeehiegaaGreatDoorRows
import Derived.ProofKit
import Derived.LaidMore
import Derived.OpenShut
import Derived.SevenTiedAt
namespace Go.Proofs.YtackngeeehiegaaGreatDoor
set_option linter.unusedSimpArgs false
set_option linter.unusedVariables false
open Go.RowKit Go.ChangeShapes Go.WideShapes
theorem jf_ok {a b:Bool} (ha:a=true) (hb:b=true):(a&&b)=true:=by rw [ha,hb];rfl
theorem resizeEnds_j0:(Rows.resizeEndsRow.wf (OpenSpec.ofChange Rows.resizeEndsSpec))=true:=by kernel_rfl
theorem resizeEnds_j1:(laidOutB Tryz.prog)=true:=by kernel_rfl
theorem resizeEnds_j2:(mapsRowed Tryz.prog)=true:=by kernel_rfl
theorem resizeEnds_j3:(Tryz.f5.params.all (Tryz.prog.readableRec ·))=true:=by kernel_rfl
theorem resizeEnds_j4:(namedTie Tryz.prog Rows.resizeEndsRow.named Rows.resizeEndsSpec.vars)=true:=by kernel_rfl
theorem resizeEnds_j5:((Rows.resizeEndsRow.stops==[]))=true:=by kernel_rfl
theorem resizeEnds_j6:((Tryz.prog.stops==[]))=true:=by kernel_rfl
theorem resizeEnds_j7:((Rows.resizeEndsRow.knobs==[]))=true:=by kernel_rfl
theorem resizeEnds_j8:((Tryz.prog.stopKnobs==[]))=true:=by kernel_rfl
theorem resizeEnds_j9:((Rows.resizeEndsRow.inPlace == Tryz.prog.inPlace 5))=true:=by kernel_rfl
theorem resizeEnds_j10:((Rows.resizeEndsRow.unfollowed == Tryz.prog.unfollowed 5))=true:=by kernel_rfl
theorem resizeEnds_j11:((Rows.resizeEndsRow.recurses == Tryz.prog.recurses 5))=true:=by kernel_rfl
theorem resizeEnds_j12:((Rows.resizeEndsRow.named == Tryz.prog.varsNamed 5))=true:=by kernel_rfl
theorem resizeEnds_j13:((Rows.resizeEndsRow.maps==(Tryz.f5.params.toList++Rows.resizeEndsSpec.plain.varTypes Tryz.prog).any (Tryz.prog.mapsRec ·)))=true:=by kernel_rfl
theorem resizeEnds_j14:((Rows.resizeEndsRow.ifaces==(Tryz.f5.params.toList++Rows.resizeEndsSpec.plain.varTypes Tryz.prog).any (Tryz.prog.ifacesRec ·)))=true:=by kernel_rfl
theorem resizeEnds_j15:((Rows.resizeEndsRow.mapsOut == Tryz.prog.mapsAmong Tryz.f5.resultTypes.toList))=true:=by kernel_rfl
theorem resizeEnds_j16:((Rows.resizeEndsRow.loops==(Tryz.f5.params.toList++Rows.resizeEndsSpec.plain.varTypes Tryz.prog).any (Tryz.prog.loopsFrom ·)))=true:=by kernel_rfl
theorem resizeEnds_j17:((Rows.resizeEndsRow.wideKeys==(Tryz.f5.params.toList++Rows.resizeEndsSpec.plain.varTypes Tryz.prog ++ Tryz.f5.resultTypes.toList).any (Tryz.prog.wideKeysFrom ·)))=true:=by kernel_rfl
theorem resizeEnds_j18:(Rows.resizeEndsSpec.vars.all (Tryz.prog.varReadable ·))=true:=by kernel_rfl
theorem resizeEnds_j19:(Tryz.f5.resultTypes.all (fun t=>Tryz.prog.readableRec t&&decide (t < Tryz.prog.types.size)))=true:=by kernel_rfl
theorem resizeEnds_j20:((Rows.resizeEndsRow.ifacesOut == Tryz.f5.resultTypes.toList.any (Tryz.prog.ifacesRec ·)))=true:=by kernel_rfl
theorem resizeEnds_j21:((Rows.resizeEndsRow.loopsOut == Tryz.f5.resultTypes.toList.any (Tryz.prog.loopsFrom ·)))=true:=by kernel_rfl
theorem resizeEnds_j22:((Rows.resizeEndsRow.plainKeys == Tryz.prog.plainKeys))=true:=by kernel_rfl
theorem resizeEnds_j23:(Rows.resizeEndsRow.shortTexts.isNone)=true:=by kernel_rfl
theorem resizeEnds_j24:(Tryz.prog.stopsHeard)=true:=by kernel_rfl
theorem resizeEnds_j25:(Tryz.prog.mayEnter)=true:=by kernel_rfl
theorem resizeEnds_j26:((Rows.resizeEndsRow.lifted == Tryz.prog.liftsFinal))=true:=by kernel_rfl
theorem resizeEnds_j27:((Tryz.prog.make==some Rows.resizeEndsRow.make))=true:=by kernel_rfl
theorem resizeEnds_j28:((Rows.resizeEndsRow.kinds==(if Rows.resizeEndsRow.domain.isEmpty then [] else Tryz.f5.params.toList.map fun t=>match Tryz.prog.underlying t with|some (.int k)=>some k|_=>none)))=true:=by kernel_rfl
theorem resizeEnds_j29:((Rows.resizeEndsRow.pinned==Rows.resizeEndsRow.pinnedBy))=true:=by kernel_rfl
theorem resizeEnds_j30:((Rows.resizeEndsRow.veiled==(Tryz.f5.params.toList++Rows.resizeEndsSpec.plain.varTypes Tryz.prog ++ Tryz.f5.resultTypes.toList).any (Tryz.prog.veiledRec ·)))=true:=by kernel_rfl
theorem resizeEnds_j31:(Rows.resizeEndsRow.veiledFits Tryz.prog Tryz.f5.params.toList (Tryz.f5.params.toList++Rows.resizeEndsSpec.plain.varTypes Tryz.prog ++ Tryz.f5.resultTypes.toList))=true:=by kernel_rfl
set_option maxRecDepth 100000 in
theorem Qmc:joinedFacts Tryz.checked.prog 5 Tryz.f5 Rows.resizeEndsSpec Rows.resizeEndsRow=true:=by
 unfold joinedFacts
 exact (jf_ok (jf_ok (jf_ok (jf_ok (jf_ok (jf_ok (jf_ok (jf_ok (jf_ok (jf_ok (jf_ok (jf_ok (jf_ok (jf_ok (jf_ok (jf_ok (jf_ok (jf_ok (jf_ok (jf_ok (jf_ok (jf_ok (jf_ok (jf_ok (jf_ok (jf_ok (jf_ok (jf_ok (jf_ok (jf_ok (jf_ok resizeEnds_j0 resizeEnds_j1) resizeEnds_j2) resizeEnds_j3) resizeEnds_j4) resizeEnds_j5) resizeEnds_j6) resizeEnds_j7) resizeEnds_j8) resizeEnds_j9) resizeEnds_j10) resizeEnds_j11) resizeEnds_j12) resizeEnds_j13) resizeEnds_j14) resizeEnds_j15) resizeEnds_j16) resizeEnds_j17) resizeEnds_j18) resizeEnds_j19) resizeEnds_j20) resizeEnds_j21) resizeEnds_j22) resizeEnds_j23) resizeEnds_j24) resizeEnds_j25) resizeEnds_j26) resizeEnds_j27) resizeEnds_j28) resizeEnds_j29) resizeEnds_j30) resizeEnds_j31)
theorem resizeEnds_named : Tryz.prog.funcNamed "muster/musterlaw26.ResizeEnds" = some 5 := by kernel_rfl
theorem resizeEnds_wbt:Rows.resizeEndsRow.wfByText (OpenSpec.ofChange Rows.resizeEndsSpec)=true:=by kernel_rfl
theorem QHe : Tryz.prog.mainIs = some (true, "0d9f5ecd6f9e78159df61c7f547d7bc6bd943f0def6562f313832cbb46e3e19e".toList) := by kernel_rfl
theorem Qed:true = Tryz.prog.looks []:=by kernel_rfl
theorem QGe:false=Rows.resizeEndsRow.goesBy Tryz.prog:=by kernel_rfl
end Go.Proofs.YtackngeeehiegaaGreatDoor
