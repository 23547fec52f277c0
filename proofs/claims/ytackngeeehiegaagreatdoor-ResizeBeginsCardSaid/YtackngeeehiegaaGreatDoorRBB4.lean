/-
  What the row of this law says of the program is so: What the beginning of a change of size does is the document's answer. No condition.
-/
import Derived.Test.YtackngeeehiegaaGreatDoorTie
import Derived.Test.YtackngeeehiegaaGreatDoorCards
import Derived.Test.YtackngeeehiegaaGreatDoorRows
import Derived.ProofKit
import Derived.LaidMore
import Derived.OpenShut
import Derived.SevenTiedAt
namespace Go.Proofs.YtackngeeehiegaaGreatDoor
set_option linter.unusedSimpArgs false
set_option linter.unusedVariables false
open Go.RowKit Go.ChangeShapes Go.WideShapes
theorem jf_ok {a b:Bool} (ha:a=true) (hb:b=true):(a&&b)=true:=by rw [ha,hb];rfl
theorem Qih:(Rows.resizeBeginsRow.wf (OpenSpec.ofChange Rows.resizeBeginsSpec))=true:=by kernel_rfl
theorem Qjh:(laidOutB Tryz.prog)=true:=by kernel_rfl
theorem Qkh:(mapsRowed Tryz.prog)=true:=by kernel_rfl
theorem Qlh:(Tryz.f3.params.all (Tryz.prog.readableRec ·))=true:=by kernel_rfl
theorem Qmh:(namedTie Tryz.prog Rows.resizeBeginsRow.named Rows.resizeBeginsSpec.vars)=true:=by kernel_rfl
theorem Qnh:((Rows.resizeBeginsRow.stops==[]))=true:=by kernel_rfl
theorem Qoh:((Tryz.prog.stops==[]))=true:=by kernel_rfl
theorem Qph:((Rows.resizeBeginsRow.knobs==[]))=true:=by kernel_rfl
theorem Qqh:((Tryz.prog.stopKnobs==[]))=true:=by kernel_rfl
theorem Qrh:((Rows.resizeBeginsRow.inPlace == Tryz.prog.inPlace 3))=true:=by kernel_rfl
theorem Qrf:((Rows.resizeBeginsRow.unfollowed == Tryz.prog.unfollowed 3))=true:=by kernel_rfl
theorem Qsf:((Rows.resizeBeginsRow.recurses == Tryz.prog.recurses 3))=true:=by kernel_rfl
theorem Qtf:((Rows.resizeBeginsRow.named == Tryz.prog.varsNamed 3))=true:=by kernel_rfl
theorem Quf:((Rows.resizeBeginsRow.maps==(Tryz.f3.params.toList++Rows.resizeBeginsSpec.plain.varTypes Tryz.prog).any (Tryz.prog.mapsRec ·)))=true:=by kernel_rfl
theorem Qvf:((Rows.resizeBeginsRow.ifaces==(Tryz.f3.params.toList++Rows.resizeBeginsSpec.plain.varTypes Tryz.prog).any (Tryz.prog.ifacesRec ·)))=true:=by kernel_rfl
theorem Qwf:((Rows.resizeBeginsRow.mapsOut == Tryz.prog.mapsAmong Tryz.f3.resultTypes.toList))=true:=by kernel_rfl
theorem Qxf:((Rows.resizeBeginsRow.loops==(Tryz.f3.params.toList++Rows.resizeBeginsSpec.plain.varTypes Tryz.prog).any (Tryz.prog.loopsFrom ·)))=true:=by kernel_rfl
theorem Qyf:((Rows.resizeBeginsRow.wideKeys==(Tryz.f3.params.toList++Rows.resizeBeginsSpec.plain.varTypes Tryz.prog ++ Tryz.f3.resultTypes.toList).any (Tryz.prog.wideKeysFrom ·)))=true:=by kernel_rfl
theorem Qzf:(Rows.resizeBeginsSpec.vars.all (Tryz.prog.varReadable ·))=true:=by kernel_rfl
theorem QAf:(Tryz.f3.resultTypes.all (fun t=>Tryz.prog.readableRec t&&decide (t < Tryz.prog.types.size)))=true:=by kernel_rfl
theorem QBf:((Rows.resizeBeginsRow.ifacesOut == Tryz.f3.resultTypes.toList.any (Tryz.prog.ifacesRec ·)))=true:=by kernel_rfl
theorem QCf:((Rows.resizeBeginsRow.loopsOut == Tryz.f3.resultTypes.toList.any (Tryz.prog.loopsFrom ·)))=true:=by kernel_rfl
theorem QDf:((Rows.resizeBeginsRow.plainKeys == Tryz.prog.plainKeys))=true:=by kernel_rfl
theorem QEf:(Rows.resizeBeginsRow.shortTexts.isNone)=true:=by kernel_rfl
theorem QFf:(Tryz.prog.stopsHeard)=true:=by kernel_rfl
theorem QGf:(Tryz.prog.mayEnter)=true:=by kernel_rfl
theorem QHf:((Rows.resizeBeginsRow.lifted == Tryz.prog.liftsFinal))=true:=by kernel_rfl
theorem QIf:((Tryz.prog.make==some Rows.resizeBeginsRow.make))=true:=by kernel_rfl
theorem QJf:((Rows.resizeBeginsRow.kinds==(if Rows.resizeBeginsRow.domain.isEmpty then [] else Tryz.f3.params.toList.map fun t=>match Tryz.prog.underlying t with|some (.int k)=>some k|_=>none)))=true:=by kernel_rfl
theorem QKf:((Rows.resizeBeginsRow.pinned==Rows.resizeBeginsRow.pinnedBy))=true:=by kernel_rfl
theorem QLf:((Rows.resizeBeginsRow.veiled==(Tryz.f3.params.toList++Rows.resizeBeginsSpec.plain.varTypes Tryz.prog ++ Tryz.f3.resultTypes.toList).any (Tryz.prog.veiledRec ·)))=true:=by kernel_rfl
theorem QMf:(Rows.resizeBeginsRow.veiledFits Tryz.prog Tryz.f3.params.toList (Tryz.f3.params.toList++Rows.resizeBeginsSpec.plain.varTypes Tryz.prog ++ Tryz.f3.resultTypes.toList))=true:=by kernel_rfl
set_option maxRecDepth 100000 in
theorem Qyc:joinedFacts Tryz.checked.prog 3 Tryz.f3 Rows.resizeBeginsSpec Rows.resizeBeginsRow=true:=by
 unfold joinedFacts;exact (jf_ok (jf_ok (jf_ok (jf_ok (jf_ok (jf_ok (jf_ok (jf_ok (jf_ok (jf_ok (jf_ok (jf_ok (jf_ok (jf_ok (jf_ok (jf_ok (jf_ok (jf_ok (jf_ok (jf_ok (jf_ok (jf_ok (jf_ok (jf_ok (jf_ok (jf_ok (jf_ok (jf_ok (jf_ok (jf_ok (jf_ok Qih Qjh) Qkh) Qlh) Qmh) Qnh) Qoh) Qph) Qqh) Qrh) Qrf) Qsf) Qtf) Quf) Qvf) Qwf) Qxf) Qyf) Qzf) QAf) QBf) QCf) QDf) QEf) QFf) QGf) QHf) QIf) QJf) QKf) QLf) QMf)
theorem resizeBegins_named : Tryz.prog.funcNamed "muster/musterlaw26.ResizeBegins" = some 3 := by kernel_rfl
theorem QNf:Rows.resizeBeginsRow.wfByText (OpenSpec.ofChange Rows.resizeBeginsSpec)=true:=by kernel_rfl
theorem Qqe : Tryz.prog.mainIs = some (true, "0d9f5ecd6f9e78159df61c7f547d7bc6bd943f0def6562f313832cbb46e3e19e".toList) := by kernel_rfl
theorem QFd:true = Tryz.prog.looks []:=by kernel_rfl
theorem Qpe:false=Rows.resizeBeginsRow.goesBy Tryz.prog:=by kernel_rfl
end Go.Proofs.YtackngeeehiegaaGreatDoor
