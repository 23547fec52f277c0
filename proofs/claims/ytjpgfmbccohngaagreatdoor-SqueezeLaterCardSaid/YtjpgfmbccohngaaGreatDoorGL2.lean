/-
  What the row of this law says of the program is so: The promises that came later are those of the document. No condition.
-/
import Derived.Test.YtjpgfmbccohngaaGreatDoorTie
import Derived.Test.YtjpgfmbccohngaaGreatDoorCards
import Derived.Test.YtjpgfmbccohngaaGreatDoorRows
import Derived.ProofKit
import Derived.LaidMore
import Derived.OpenShut
import Derived.SevenTiedAt
namespace Go.Proofs.YtjpgfmbccohngaaGreatDoor
set_option linter.unusedSimpArgs false
set_option linter.unusedVariables false
open Go.RowKit Go.ChangeShapes Go.WideShapes
theorem jf_ok {a b:Bool} (ha:a=true) (hb:b=true):(a&&b)=true:=by rw [ha,hb];rfl
theorem Qah:(Rows.squeezeLaterRow.wf (OpenSpec.ofChange Rows.squeezeLaterSpec))=true:=by kernel_rfl
theorem Qbh:(laidOutB Tryz.prog)=true:=by kernel_rfl
theorem Qch:(mapsRowed Tryz.prog)=true:=by kernel_rfl
theorem Qdh:(Tryz.f7.params.all (Tryz.prog.readableRec ·))=true:=by kernel_rfl
theorem Qeh:(namedTie Tryz.prog Rows.squeezeLaterRow.named Rows.squeezeLaterSpec.vars)=true:=by kernel_rfl
theorem Qfh:((Rows.squeezeLaterRow.stops==[]))=true:=by kernel_rfl
theorem Qgh:((Tryz.prog.stops==[]))=true:=by kernel_rfl
theorem Qhh:((Rows.squeezeLaterRow.knobs==[]))=true:=by kernel_rfl
theorem Qih:((Tryz.prog.stopKnobs==[]))=true:=by kernel_rfl
theorem Qjh:((Rows.squeezeLaterRow.inPlace == Tryz.prog.inPlace 7))=true:=by kernel_rfl
theorem Qpe:((Rows.squeezeLaterRow.unfollowed == Tryz.prog.unfollowed 7))=true:=by kernel_rfl
theorem Qqe:((Rows.squeezeLaterRow.recurses == Tryz.prog.recurses 7))=true:=by kernel_rfl
theorem Qre:((Rows.squeezeLaterRow.named == Tryz.prog.varsNamed 7))=true:=by kernel_rfl
theorem Qse:((Rows.squeezeLaterRow.maps==(Tryz.f7.params.toList++Rows.squeezeLaterSpec.plain.varTypes Tryz.prog).any (Tryz.prog.mapsRec ·)))=true:=by kernel_rfl
theorem Qte:((Rows.squeezeLaterRow.ifaces==(Tryz.f7.params.toList++Rows.squeezeLaterSpec.plain.varTypes Tryz.prog).any (Tryz.prog.ifacesRec ·)))=true:=by kernel_rfl
theorem Que:((Rows.squeezeLaterRow.mapsOut == Tryz.prog.mapsAmong Tryz.f7.resultTypes.toList))=true:=by kernel_rfl
theorem Qve:((Rows.squeezeLaterRow.loops==(Tryz.f7.params.toList++Rows.squeezeLaterSpec.plain.varTypes Tryz.prog).any (Tryz.prog.loopsFrom ·)))=true:=by kernel_rfl
theorem Qwe:((Rows.squeezeLaterRow.wideKeys==(Tryz.f7.params.toList++Rows.squeezeLaterSpec.plain.varTypes Tryz.prog ++ Tryz.f7.resultTypes.toList).any (Tryz.prog.wideKeysFrom ·)))=true:=by kernel_rfl
theorem Qxe:(Rows.squeezeLaterSpec.vars.all (Tryz.prog.varReadable ·))=true:=by kernel_rfl
theorem Qye:(Tryz.f7.resultTypes.all (fun t=>Tryz.prog.readableRec t&&decide (t < Tryz.prog.types.size)))=true:=by kernel_rfl
theorem Qze:((Rows.squeezeLaterRow.ifacesOut == Tryz.f7.resultTypes.toList.any (Tryz.prog.ifacesRec ·)))=true:=by kernel_rfl
theorem QAe:((Rows.squeezeLaterRow.loopsOut == Tryz.f7.resultTypes.toList.any (Tryz.prog.loopsFrom ·)))=true:=by kernel_rfl
theorem QBe:((Rows.squeezeLaterRow.plainKeys == Tryz.prog.plainKeys))=true:=by kernel_rfl
theorem QCe:(Rows.squeezeLaterRow.shortTexts.isNone)=true:=by kernel_rfl
theorem QDe:(Tryz.prog.stopsHeard)=true:=by kernel_rfl
theorem QEe:(Tryz.prog.mayEnter)=true:=by kernel_rfl
theorem QFe:((Rows.squeezeLaterRow.lifted == Tryz.prog.liftsFinal))=true:=by kernel_rfl
theorem QGe:((Tryz.prog.make==some Rows.squeezeLaterRow.make))=true:=by kernel_rfl
theorem QHe:((Rows.squeezeLaterRow.kinds==(if Rows.squeezeLaterRow.domain.isEmpty then [] else Tryz.f7.params.toList.map fun t=>match Tryz.prog.underlying t with|some (.int k)=>some k|_=>none)))=true:=by kernel_rfl
theorem QIe:((Rows.squeezeLaterRow.pinned==Rows.squeezeLaterRow.pinnedBy))=true:=by kernel_rfl
theorem QJe:((Rows.squeezeLaterRow.veiled==(Tryz.f7.params.toList++Rows.squeezeLaterSpec.plain.varTypes Tryz.prog ++ Tryz.f7.resultTypes.toList).any (Tryz.prog.veiledRec ·)))=true:=by kernel_rfl
theorem QKe:(Rows.squeezeLaterRow.veiledFits Tryz.prog Tryz.f7.params.toList (Tryz.f7.params.toList++Rows.squeezeLaterSpec.plain.varTypes Tryz.prog ++ Tryz.f7.resultTypes.toList))=true:=by kernel_rfl
set_option maxRecDepth 100000 in
theorem QBb:joinedFacts Tryz.checked.prog 7 Tryz.f7 Rows.squeezeLaterSpec Rows.squeezeLaterRow=true:=by
 unfold joinedFacts
 exact (jf_ok (jf_ok (jf_ok (jf_ok (jf_ok (jf_ok (jf_ok (jf_ok (jf_ok (jf_ok (jf_ok (jf_ok (jf_ok (jf_ok (jf_ok (jf_ok (jf_ok (jf_ok (jf_ok (jf_ok (jf_ok (jf_ok (jf_ok (jf_ok (jf_ok (jf_ok (jf_ok (jf_ok (jf_ok (jf_ok (jf_ok Qah Qbh) Qch) Qdh) Qeh) Qfh) Qgh) Qhh) Qih) Qjh) Qpe) Qqe) Qre) Qse) Qte) Que) Qve) Qwe) Qxe) Qye) Qze) QAe) QBe) QCe) QDe) QEe) QFe) QGe) QHe) QIe) QJe) QKe)
theorem squeezeLater_named : Tryz.prog.funcNamed "muster/musterlaw22.SqueezeLater" = some 7 := by kernel_rfl
theorem QLe:Rows.squeezeLaterRow.wfByText (OpenSpec.ofChange Rows.squeezeLaterSpec)=true:=by kernel_rfl
theorem Qsd : Tryz.prog.mainIs = some (true, "dae1aa68f08b665462c7e19f959389dfe4c0d8ff5d812cf9a780a93814aaddea".toList) := by kernel_rfl
theorem QLc:true = Tryz.prog.looks []:=by kernel_rfl
theorem Qrd:false=Rows.squeezeLaterRow.goesBy Tryz.prog:=by kernel_rfl
end Go.Proofs.YtjpgfmbccohngaaGreatDoor
