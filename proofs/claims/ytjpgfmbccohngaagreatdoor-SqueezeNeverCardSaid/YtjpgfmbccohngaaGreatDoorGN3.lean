/-
  What the row of this law says of the program is so: Squeezing never moves a promise to a later tick, nor behind now, and tells each that it moved. No condition.
-/
import Derived.Test.YtjpgfmbccohngaaGreatDoorTie
import Derived.Test.YtjpgfmbccohngaaGreatDoorCards
import Derived.Test.YtjpgfmbccohngaaGreatDoorRows
import Derived.ProofKit
import Derived.LaidMore
import Derived.OpenShut
import Derived.SevenTiedAt
namespace Go.Proofs.YtjpgfmbccohngaaGreatDoor
set_option linter.unusedSimpArgs false
set_option linter.unusedVariables false
open Go.RowKit Go.ChangeShapes Go.WideShapes
theorem jf_ok {a b:Bool} (ha:a=true) (hb:b=true):(a&&b)=true:=by rw [ha,hb];rfl
theorem Qkh:(Rows.squeezeNeverRow.wf (OpenSpec.ofChange Rows.squeezeNeverSpec))=true:=by kernel_rfl
theorem Qlh:(laidOutB Tryz.prog)=true:=by kernel_rfl
theorem Qmh:(mapsRowed Tryz.prog)=true:=by kernel_rfl
theorem Qnh:(Tryz.f8.params.all (Tryz.prog.readableRec ·))=true:=by kernel_rfl
theorem Qoh:(namedTie Tryz.prog Rows.squeezeNeverRow.named Rows.squeezeNeverSpec.vars)=true:=by kernel_rfl
theorem Qph:((Rows.squeezeNeverRow.stops==[]))=true:=by kernel_rfl
theorem Qqh:((Tryz.prog.stops==[]))=true:=by kernel_rfl
theorem Qrh:((Rows.squeezeNeverRow.knobs==[]))=true:=by kernel_rfl
theorem Qsh:((Tryz.prog.stopKnobs==[]))=true:=by kernel_rfl
theorem Qth:((Rows.squeezeNeverRow.inPlace == Tryz.prog.inPlace 8))=true:=by kernel_rfl
theorem QMe:((Rows.squeezeNeverRow.unfollowed == Tryz.prog.unfollowed 8))=true:=by kernel_rfl
theorem QNe:((Rows.squeezeNeverRow.recurses == Tryz.prog.recurses 8))=true:=by kernel_rfl
theorem QOe:((Rows.squeezeNeverRow.named == Tryz.prog.varsNamed 8))=true:=by kernel_rfl
theorem QPe:((Rows.squeezeNeverRow.maps==(Tryz.f8.params.toList++Rows.squeezeNeverSpec.plain.varTypes Tryz.prog).any (Tryz.prog.mapsRec ·)))=true:=by kernel_rfl
theorem QQe:((Rows.squeezeNeverRow.ifaces==(Tryz.f8.params.toList++Rows.squeezeNeverSpec.plain.varTypes Tryz.prog).any (Tryz.prog.ifacesRec ·)))=true:=by kernel_rfl
theorem QRe:((Rows.squeezeNeverRow.mapsOut == Tryz.prog.mapsAmong Tryz.f8.resultTypes.toList))=true:=by kernel_rfl
theorem QSe:((Rows.squeezeNeverRow.loops==(Tryz.f8.params.toList++Rows.squeezeNeverSpec.plain.varTypes Tryz.prog).any (Tryz.prog.loopsFrom ·)))=true:=by kernel_rfl
theorem QTe:((Rows.squeezeNeverRow.wideKeys==(Tryz.f8.params.toList++Rows.squeezeNeverSpec.plain.varTypes Tryz.prog ++ Tryz.f8.resultTypes.toList).any (Tryz.prog.wideKeysFrom ·)))=true:=by kernel_rfl
theorem QUe:(Rows.squeezeNeverSpec.vars.all (Tryz.prog.varReadable ·))=true:=by kernel_rfl
theorem QVe:(Tryz.f8.resultTypes.all (fun t=>Tryz.prog.readableRec t&&decide (t < Tryz.prog.types.size)))=true:=by kernel_rfl
theorem QWe:((Rows.squeezeNeverRow.ifacesOut == Tryz.f8.resultTypes.toList.any (Tryz.prog.ifacesRec ·)))=true:=by kernel_rfl
theorem QXe:((Rows.squeezeNeverRow.loopsOut == Tryz.f8.resultTypes.toList.any (Tryz.prog.loopsFrom ·)))=true:=by kernel_rfl
theorem QYe:((Rows.squeezeNeverRow.plainKeys == Tryz.prog.plainKeys))=true:=by kernel_rfl
theorem QZe:(Rows.squeezeNeverRow.shortTexts.isNone)=true:=by kernel_rfl
theorem Q0f:(Tryz.prog.stopsHeard)=true:=by kernel_rfl
theorem Q1f:(Tryz.prog.mayEnter)=true:=by kernel_rfl
theorem Q2f:((Rows.squeezeNeverRow.lifted == Tryz.prog.liftsFinal))=true:=by kernel_rfl
theorem Q3f:((Tryz.prog.make==some Rows.squeezeNeverRow.make))=true:=by kernel_rfl
theorem Q4f:((Rows.squeezeNeverRow.kinds==(if Rows.squeezeNeverRow.domain.isEmpty then [] else Tryz.f8.params.toList.map fun t=>match Tryz.prog.underlying t with|some (.int k)=>some k|_=>none)))=true:=by kernel_rfl
theorem Q5f:((Rows.squeezeNeverRow.pinned==Rows.squeezeNeverRow.pinnedBy))=true:=by kernel_rfl
theorem Q6f:((Rows.squeezeNeverRow.veiled==(Tryz.f8.params.toList++Rows.squeezeNeverSpec.plain.varTypes Tryz.prog ++ Tryz.f8.resultTypes.toList).any (Tryz.prog.veiledRec ·)))=true:=by kernel_rfl
theorem Q7f:(Rows.squeezeNeverRow.veiledFits Tryz.prog Tryz.f8.params.toList (Tryz.f8.params.toList++Rows.squeezeNeverSpec.plain.varTypes Tryz.prog ++ Tryz.f8.resultTypes.toList))=true:=by kernel_rfl
set_option maxRecDepth 100000 in
theorem QEb:joinedFacts Tryz.checked.prog 8 Tryz.f8 Rows.squeezeNeverSpec Rows.squeezeNeverRow=true:=by
 unfold joinedFacts
 exact (jf_ok (jf_ok (jf_ok (jf_ok (jf_ok (jf_ok (jf_ok (jf_ok (jf_ok (jf_ok (jf_ok (jf_ok (jf_ok (jf_ok (jf_ok (jf_ok (jf_ok (jf_ok (jf_ok (jf_ok (jf_ok (jf_ok (jf_ok (jf_ok (jf_ok (jf_ok (jf_ok (jf_ok (jf_ok (jf_ok (jf_ok Qkh Qlh) Qmh) Qnh) Qoh) Qph) Qqh) Qrh) Qsh) Qth) QMe) QNe) QOe) QPe) QQe) QRe) QSe) QTe) QUe) QVe) QWe) QXe) QYe) QZe) Q0f) Q1f) Q2f) Q3f) Q4f) Q5f) Q6f) Q7f)
theorem squeezeNever_named : Tryz.prog.funcNamed "muster/musterlaw22.SqueezeNever" = some 8 := by kernel_rfl
theorem Q8f:Rows.squeezeNeverRow.wfByText (OpenSpec.ofChange Rows.squeezeNeverSpec)=true:=by kernel_rfl
theorem Qvd : Tryz.prog.mainIs = some (true, "dae1aa68f08b665462c7e19f959389dfe4c0d8ff5d812cf9a780a93814aaddea".toList) := by kernel_rfl
theorem QNc:true = Tryz.prog.looks []:=by kernel_rfl
theorem Qud:false=Rows.squeezeNeverRow.goesBy Tryz.prog:=by kernel_rfl
end Go.Proofs.YtjpgfmbccohngaaGreatDoor
