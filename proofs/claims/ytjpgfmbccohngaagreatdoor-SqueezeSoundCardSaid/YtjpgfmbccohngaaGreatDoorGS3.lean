/-
  What the row of this law says of the program is so: A sound plan stays sound. No condition.
-/
import Derived.Test.YtjpgfmbccohngaaGreatDoorTie
import Derived.Test.YtjpgfmbccohngaaGreatDoorCards
import Derived.Test.YtjpgfmbccohngaaGreatDoorRows
import Derived.ProofKit
import Derived.LaidMore
import Derived.OpenShut
import Derived.SevenTiedAt
namespace Go.Proofs.YtjpgfmbccohngaaGreatDoor
set_option linter.unusedSimpArgs false
set_option linter.unusedVariables false
open Go.RowKit Go.ChangeShapes Go.WideShapes
theorem jf_ok {a b:Bool} (ha:a=true) (hb:b=true):(a&&b)=true:=by rw [ha,hb];rfl
theorem Quh:(Rows.squeezeSoundRow.wf (OpenSpec.ofChange Rows.squeezeSoundSpec))=true:=by kernel_rfl
theorem Qvh:(laidOutB Tryz.prog)=true:=by kernel_rfl
theorem Qwh:(mapsRowed Tryz.prog)=true:=by kernel_rfl
theorem Qxh:(Tryz.f9.params.all (Tryz.prog.readableRec ·))=true:=by kernel_rfl
theorem Qyh:(namedTie Tryz.prog Rows.squeezeSoundRow.named Rows.squeezeSoundSpec.vars)=true:=by kernel_rfl
theorem Qzh:((Rows.squeezeSoundRow.stops==[]))=true:=by kernel_rfl
theorem QAh:((Tryz.prog.stops==[]))=true:=by kernel_rfl
theorem QBh:((Rows.squeezeSoundRow.knobs==[]))=true:=by kernel_rfl
theorem QCh:((Tryz.prog.stopKnobs==[]))=true:=by kernel_rfl
theorem QDh:((Rows.squeezeSoundRow.inPlace == Tryz.prog.inPlace 9))=true:=by kernel_rfl
theorem Q9f:((Rows.squeezeSoundRow.unfollowed == Tryz.prog.unfollowed 9))=true:=by kernel_rfl
theorem Qaf:((Rows.squeezeSoundRow.recurses == Tryz.prog.recurses 9))=true:=by kernel_rfl
theorem Qbf:((Rows.squeezeSoundRow.named == Tryz.prog.varsNamed 9))=true:=by kernel_rfl
theorem Qcf:((Rows.squeezeSoundRow.maps==(Tryz.f9.params.toList++Rows.squeezeSoundSpec.plain.varTypes Tryz.prog).any (Tryz.prog.mapsRec ·)))=true:=by kernel_rfl
theorem Qdf:((Rows.squeezeSoundRow.ifaces==(Tryz.f9.params.toList++Rows.squeezeSoundSpec.plain.varTypes Tryz.prog).any (Tryz.prog.ifacesRec ·)))=true:=by kernel_rfl
theorem Qef:((Rows.squeezeSoundRow.mapsOut == Tryz.prog.mapsAmong Tryz.f9.resultTypes.toList))=true:=by kernel_rfl
theorem Qff:((Rows.squeezeSoundRow.loops==(Tryz.f9.params.toList++Rows.squeezeSoundSpec.plain.varTypes Tryz.prog).any (Tryz.prog.loopsFrom ·)))=true:=by kernel_rfl
theorem Qgf:((Rows.squeezeSoundRow.wideKeys==(Tryz.f9.params.toList++Rows.squeezeSoundSpec.plain.varTypes Tryz.prog ++ Tryz.f9.resultTypes.toList).any (Tryz.prog.wideKeysFrom ·)))=true:=by kernel_rfl
theorem Qhf:(Rows.squeezeSoundSpec.vars.all (Tryz.prog.varReadable ·))=true:=by kernel_rfl
theorem Qif:(Tryz.f9.resultTypes.all (fun t=>Tryz.prog.readableRec t&&decide (t < Tryz.prog.types.size)))=true:=by kernel_rfl
theorem Qjf:((Rows.squeezeSoundRow.ifacesOut == Tryz.f9.resultTypes.toList.any (Tryz.prog.ifacesRec ·)))=true:=by kernel_rfl
theorem Qkf:((Rows.squeezeSoundRow.loopsOut == Tryz.f9.resultTypes.toList.any (Tryz.prog.loopsFrom ·)))=true:=by kernel_rfl
theorem Qlf:((Rows.squeezeSoundRow.plainKeys == Tryz.prog.plainKeys))=true:=by kernel_rfl
theorem Qmf:(Rows.squeezeSoundRow.shortTexts.isNone)=true:=by kernel_rfl
theorem Qnf:(Tryz.prog.stopsHeard)=true:=by kernel_rfl
theorem Qof:(Tryz.prog.mayEnter)=true:=by kernel_rfl
theorem Qpf:((Rows.squeezeSoundRow.lifted == Tryz.prog.liftsFinal))=true:=by kernel_rfl
theorem Qqf:((Tryz.prog.make==some Rows.squeezeSoundRow.make))=true:=by kernel_rfl
theorem Qrf:((Rows.squeezeSoundRow.kinds==(if Rows.squeezeSoundRow.domain.isEmpty then [] else Tryz.f9.params.toList.map fun t=>match Tryz.prog.underlying t with|some (.int k)=>some k|_=>none)))=true:=by kernel_rfl
theorem Qsf:((Rows.squeezeSoundRow.pinned==Rows.squeezeSoundRow.pinnedBy))=true:=by kernel_rfl
theorem Qtf:((Rows.squeezeSoundRow.veiled==(Tryz.f9.params.toList++Rows.squeezeSoundSpec.plain.varTypes Tryz.prog ++ Tryz.f9.resultTypes.toList).any (Tryz.prog.veiledRec ·)))=true:=by kernel_rfl
theorem Quf:(Rows.squeezeSoundRow.veiledFits Tryz.prog Tryz.f9.params.toList (Tryz.f9.params.toList++Rows.squeezeSoundSpec.plain.varTypes Tryz.prog ++ Tryz.f9.resultTypes.toList))=true:=by kernel_rfl
set_option maxRecDepth 100000 in
theorem QHb:joinedFacts Tryz.checked.prog 9 Tryz.f9 Rows.squeezeSoundSpec Rows.squeezeSoundRow=true:=by
 unfold joinedFacts
 exact (jf_ok (jf_ok (jf_ok (jf_ok (jf_ok (jf_ok (jf_ok (jf_ok (jf_ok (jf_ok (jf_ok (jf_ok (jf_ok (jf_ok (jf_ok (jf_ok (jf_ok (jf_ok (jf_ok (jf_ok (jf_ok (jf_ok (jf_ok (jf_ok (jf_ok (jf_ok (jf_ok (jf_ok (jf_ok (jf_ok (jf_ok Quh Qvh) Qwh) Qxh) Qyh) Qzh) QAh) QBh) QCh) QDh) Q9f) Qaf) Qbf) Qcf) Qdf) Qef) Qff) Qgf) Qhf) Qif) Qjf) Qkf) Qlf) Qmf) Qnf) Qof) Qpf) Qqf) Qrf) Qsf) Qtf) Quf)
theorem squeezeSound_named : Tryz.prog.funcNamed "muster/musterlaw22.SqueezeSound" = some 9 := by kernel_rfl
theorem Qvf:Rows.squeezeSoundRow.wfByText (OpenSpec.ofChange Rows.squeezeSoundSpec)=true:=by kernel_rfl
theorem Qyd : Tryz.prog.mainIs = some (true, "dae1aa68f08b665462c7e19f959389dfe4c0d8ff5d812cf9a780a93814aaddea".toList) := by kernel_rfl
theorem QPc:true = Tryz.prog.looks []:=by kernel_rfl
theorem Qxd:false=Rows.squeezeSoundRow.goesBy Tryz.prog:=by kernel_rfl
end Go.Proofs.YtjpgfmbccohngaaGreatDoor
