/-
  What the row of this law says of the program is so: What a note does to a change of size, and what its end does, is the document's answer. No condition.
-/
import Derived.Test.YtackngeeehiegaaGreatDoorTie
import Derived.Test.YtackngeeehiegaaGreatDoorCards
import Derived.Test.YtackngeeehiegaaGreatDoorRows
import Derived.ProofKit
import Derived.LaidMore
import Derived.OpenShut
import Derived.SevenTiedAt
namespace Go.Proofs.YtackngeeehiegaaGreatDoor
set_option linter.unusedSimpArgs false
set_option linter.unusedVariables false
open Go.RowKit Go.ChangeShapes Go.WideShapes
theorem jf_ok {a b:Bool} (ha:a=true) (hb:b=true):(a&&b)=true:=by rw [ha,hb];rfl
theorem resizeSays_j0:(Rows.resizeSaysRow.wf (OpenSpec.ofChange Rows.resizeSaysSpec))=true:=by kernel_rfl
theorem resizeSays_j1:(laidOutB Tryz.prog)=true:=by kernel_rfl
theorem resizeSays_j2:(mapsRowed Tryz.prog)=true:=by kernel_rfl
theorem resizeSays_j3:(Tryz.f4.params.all (Tryz.prog.readableRec ·))=true:=by kernel_rfl
theorem resizeSays_j4:(namedTie Tryz.prog Rows.resizeSaysRow.named Rows.resizeSaysSpec.vars)=true:=by kernel_rfl
theorem resizeSays_j5:((Rows.resizeSaysRow.stops==[]))=true:=by kernel_rfl
theorem resizeSays_j6:((Tryz.prog.stops==[]))=true:=by kernel_rfl
theorem resizeSays_j7:((Rows.resizeSaysRow.knobs==[]))=true:=by kernel_rfl
theorem resizeSays_j8:((Tryz.prog.stopKnobs==[]))=true:=by kernel_rfl
theorem resizeSays_j9:((Rows.resizeSaysRow.inPlace == Tryz.prog.inPlace 4))=true:=by kernel_rfl
theorem resizeSays_j10:((Rows.resizeSaysRow.unfollowed == Tryz.prog.unfollowed 4))=true:=by kernel_rfl
theorem resizeSays_j11:((Rows.resizeSaysRow.recurses == Tryz.prog.recurses 4))=true:=by kernel_rfl
theorem resizeSays_j12:((Rows.resizeSaysRow.named == Tryz.prog.varsNamed 4))=true:=by kernel_rfl
theorem resizeSays_j13:((Rows.resizeSaysRow.maps==(Tryz.f4.params.toList++Rows.resizeSaysSpec.plain.varTypes Tryz.prog).any (Tryz.prog.mapsRec ·)))=true:=by kernel_rfl
theorem resizeSays_j14:((Rows.resizeSaysRow.ifaces==(Tryz.f4.params.toList++Rows.resizeSaysSpec.plain.varTypes Tryz.prog).any (Tryz.prog.ifacesRec ·)))=true:=by kernel_rfl
theorem resizeSays_j15:((Rows.resizeSaysRow.mapsOut == Tryz.prog.mapsAmong Tryz.f4.resultTypes.toList))=true:=by kernel_rfl
theorem resizeSays_j16:((Rows.resizeSaysRow.loops==(Tryz.f4.params.toList++Rows.resizeSaysSpec.plain.varTypes Tryz.prog).any (Tryz.prog.loopsFrom ·)))=true:=by kernel_rfl
theorem resizeSays_j17:((Rows.resizeSaysRow.wideKeys==(Tryz.f4.params.toList++Rows.resizeSaysSpec.plain.varTypes Tryz.prog ++ Tryz.f4.resultTypes.toList).any (Tryz.prog.wideKeysFrom ·)))=true:=by kernel_rfl
theorem resizeSays_j18:(Rows.resizeSaysSpec.vars.all (Tryz.prog.varReadable ·))=true:=by kernel_rfl
theorem resizeSays_j19:(Tryz.f4.resultTypes.all (fun t=>Tryz.prog.readableRec t&&decide (t < Tryz.prog.types.size)))=true:=by kernel_rfl
theorem resizeSays_j20:((Rows.resizeSaysRow.ifacesOut == Tryz.f4.resultTypes.toList.any (Tryz.prog.ifacesRec ·)))=true:=by kernel_rfl
theorem resizeSays_j21:((Rows.resizeSaysRow.loopsOut == Tryz.f4.resultTypes.toList.any (Tryz.prog.loopsFrom ·)))=true:=by kernel_rfl
theorem resizeSays_j22:((Rows.resizeSaysRow.plainKeys == Tryz.prog.plainKeys))=true:=by kernel_rfl
theorem resizeSays_j23:(Rows.resizeSaysRow.shortTexts.isNone)=true:=by kernel_rfl
theorem resizeSays_j24:(Tryz.prog.stopsHeard)=true:=by kernel_rfl
theorem resizeSays_j25:(Tryz.prog.mayEnter)=true:=by kernel_rfl
theorem resizeSays_j26:((Rows.resizeSaysRow.lifted == Tryz.prog.liftsFinal))=true:=by kernel_rfl
theorem resizeSays_j27:((Tryz.prog.make==some Rows.resizeSaysRow.make))=true:=by kernel_rfl
theorem resizeSays_j28:((Rows.resizeSaysRow.kinds==(if Rows.resizeSaysRow.domain.isEmpty then [] else Tryz.f4.params.toList.map fun t=>match Tryz.prog.underlying t with|some (.int k)=>some k|_=>none)))=true:=by kernel_rfl
theorem resizeSays_j29:((Rows.resizeSaysRow.pinned==Rows.resizeSaysRow.pinnedBy))=true:=by kernel_rfl
theorem resizeSays_j30:((Rows.resizeSaysRow.veiled==(Tryz.f4.params.toList++Rows.resizeSaysSpec.plain.varTypes Tryz.prog ++ Tryz.f4.resultTypes.toList).any (Tryz.prog.veiledRec ·)))=true:=by kernel_rfl
theorem resizeSays_j31:(Rows.resizeSaysRow.veiledFits Tryz.prog Tryz.f4.params.toList (Tryz.f4.params.toList++Rows.resizeSaysSpec.plain.varTypes Tryz.prog ++ Tryz.f4.resultTypes.toList))=true:=by kernel_rfl
set_option maxRecDepth 100000 in
theorem Qid:joinedFacts Tryz.checked.prog 4 Tryz.f4 Rows.resizeSaysSpec Rows.resizeSaysRow=true:=by
 unfold joinedFacts
 exact (jf_ok (jf_ok (jf_ok (jf_ok (jf_ok (jf_ok (jf_ok (jf_ok (jf_ok (jf_ok (jf_ok (jf_ok (jf_ok (jf_ok (jf_ok (jf_ok (jf_ok (jf_ok (jf_ok (jf_ok (jf_ok (jf_ok (jf_ok (jf_ok (jf_ok (jf_ok (jf_ok (jf_ok (jf_ok (jf_ok (jf_ok resizeSays_j0 resizeSays_j1) resizeSays_j2) resizeSays_j3) resizeSays_j4) resizeSays_j5) resizeSays_j6) resizeSays_j7) resizeSays_j8) resizeSays_j9) resizeSays_j10) resizeSays_j11) resizeSays_j12) resizeSays_j13) resizeSays_j14) resizeSays_j15) resizeSays_j16) resizeSays_j17) resizeSays_j18) resizeSays_j19) resizeSays_j20) resizeSays_j21) resizeSays_j22) resizeSays_j23) resizeSays_j24) resizeSays_j25) resizeSays_j26) resizeSays_j27) resizeSays_j28) resizeSays_j29) resizeSays_j30) resizeSays_j31)
theorem resizeSays_named : Tryz.prog.funcNamed "muster/musterlaw26.ResizeSays" = some 4 := by kernel_rfl
theorem resizeSays_wbt:Rows.resizeSaysRow.wfByText (OpenSpec.ofChange Rows.resizeSaysSpec)=true:=by kernel_rfl
theorem QEf : Tryz.prog.mainIs = some (true, "0d9f5ecd6f9e78159df61c7f547d7bc6bd943f0def6562f313832cbb46e3e19e".toList) := by kernel_rfl
theorem Qhe:true = Tryz.prog.looks []:=by kernel_rfl
theorem QDf:false=Rows.resizeSaysRow.goesBy Tryz.prog:=by kernel_rfl
end Go.Proofs.YtackngeeehiegaaGreatDoor
