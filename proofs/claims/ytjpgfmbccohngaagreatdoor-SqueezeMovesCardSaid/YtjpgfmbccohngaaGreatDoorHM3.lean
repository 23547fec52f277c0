/-
  What the row of this law says of the program is so: The program moves promises as the document does, and its due ones are the document's. No condition.
-/
import Derived.Test.YtjpgfmbccohngaaGreatDoorTie
import Derived.Test.YtjpgfmbccohngaaGreatDoorCards
import Derived.Test.YtjpgfmbccohngaaGreatDoorRows
import Derived.ProofKit
import Derived.LaidMore
import Derived.OpenShut
import Derived.SevenTiedAt
namespace Go.Proofs.YtjpgfmbccohngaaGreatDoor
set_option linter.unusedSimpArgs false
set_option linter.unusedVariables false
open Go.RowKit Go.ChangeShapes Go.WideShapes
theorem jf_ok {a b:Bool} (ha:a=true) (hb:b=true):(a&&b)=true:=by rw [ha,hb];rfl
theorem Q0g:(Rows.squeezeMovesRow.wf (OpenSpec.ofChange Rows.squeezeMovesSpec))=true:=by kernel_rfl
theorem Q1g:(laidOutB Tryz.prog)=true:=by kernel_rfl
theorem Q2g:(mapsRowed Tryz.prog)=true:=by kernel_rfl
theorem Q3g:(Tryz.f6.params.all (Tryz.prog.readableRec ·))=true:=by kernel_rfl
theorem Q4g:(namedTie Tryz.prog Rows.squeezeMovesRow.named Rows.squeezeMovesSpec.vars)=true:=by kernel_rfl
theorem Q5g:((Rows.squeezeMovesRow.stops==[]))=true:=by kernel_rfl
theorem Q6g:((Tryz.prog.stops==[]))=true:=by kernel_rfl
theorem Q7g:((Rows.squeezeMovesRow.knobs==[]))=true:=by kernel_rfl
theorem Q8g:((Tryz.prog.stopKnobs==[]))=true:=by kernel_rfl
theorem Q9g:((Rows.squeezeMovesRow.inPlace == Tryz.prog.inPlace 6))=true:=by kernel_rfl
theorem Q9e:((Rows.squeezeMovesRow.unfollowed == Tryz.prog.unfollowed 6))=true:=by kernel_rfl
theorem Qae:((Rows.squeezeMovesRow.recurses == Tryz.prog.recurses 6))=true:=by kernel_rfl
theorem Qbe:((Rows.squeezeMovesRow.named == Tryz.prog.varsNamed 6))=true:=by kernel_rfl
theorem Qce:((Rows.squeezeMovesRow.maps==(Tryz.f6.params.toList++Rows.squeezeMovesSpec.plain.varTypes Tryz.prog).any (Tryz.prog.mapsRec ·)))=true:=by kernel_rfl
theorem Qde:((Rows.squeezeMovesRow.ifaces==(Tryz.f6.params.toList++Rows.squeezeMovesSpec.plain.varTypes Tryz.prog).any (Tryz.prog.ifacesRec ·)))=true:=by kernel_rfl
theorem Qee:((Rows.squeezeMovesRow.mapsOut == Tryz.prog.mapsAmong Tryz.f6.resultTypes.toList))=true:=by kernel_rfl
theorem Qfe:((Rows.squeezeMovesRow.loops==(Tryz.f6.params.toList++Rows.squeezeMovesSpec.plain.varTypes Tryz.prog).any (Tryz.prog.loopsFrom ·)))=true:=by kernel_rfl
theorem Qge:((Rows.squeezeMovesRow.wideKeys==(Tryz.f6.params.toList++Rows.squeezeMovesSpec.plain.varTypes Tryz.prog ++ Tryz.f6.resultTypes.toList).any (Tryz.prog.wideKeysFrom ·)))=true:=by kernel_rfl
theorem Qhe:(Rows.squeezeMovesSpec.vars.all (Tryz.prog.varReadable ·))=true:=by kernel_rfl
theorem Qie:(Tryz.f6.resultTypes.all (fun t=>Tryz.prog.readableRec t&&decide (t < Tryz.prog.types.size)))=true:=by kernel_rfl
theorem Qje:((Rows.squeezeMovesRow.ifacesOut == Tryz.f6.resultTypes.toList.any (Tryz.prog.ifacesRec ·)))=true:=by kernel_rfl
theorem Qke:((Rows.squeezeMovesRow.loopsOut == Tryz.f6.resultTypes.toList.any (Tryz.prog.loopsFrom ·)))=true:=by kernel_rfl
theorem Qle:((Rows.squeezeMovesRow.plainKeys == Tryz.prog.plainKeys))=true:=by kernel_rfl
theorem Qme:(Rows.squeezeMovesRow.shortTexts.isNone)=true:=by kernel_rfl
theorem Qne:(Tryz.prog.stopsHeard)=true:=by kernel_rfl
theorem Qoe:(Tryz.prog.mayEnter)=true:=by kernel_rfl
theorem Qpe:((Rows.squeezeMovesRow.lifted == Tryz.prog.liftsFinal))=true:=by kernel_rfl
theorem Qqe:((Tryz.prog.make==some Rows.squeezeMovesRow.make))=true:=by kernel_rfl
theorem Qre:((Rows.squeezeMovesRow.kinds==(if Rows.squeezeMovesRow.domain.isEmpty then [] else Tryz.f6.params.toList.map fun t=>match Tryz.prog.underlying t with|some (.int k)=>some k|_=>none)))=true:=by kernel_rfl
theorem Qse:((Rows.squeezeMovesRow.pinned==Rows.squeezeMovesRow.pinnedBy))=true:=by kernel_rfl
theorem Qte:((Rows.squeezeMovesRow.veiled==(Tryz.f6.params.toList++Rows.squeezeMovesSpec.plain.varTypes Tryz.prog ++ Tryz.f6.resultTypes.toList).any (Tryz.prog.veiledRec ·)))=true:=by kernel_rfl
theorem Que:(Rows.squeezeMovesRow.veiledFits Tryz.prog Tryz.f6.params.toList (Tryz.f6.params.toList++Rows.squeezeMovesSpec.plain.varTypes Tryz.prog ++ Tryz.f6.resultTypes.toList))=true:=by kernel_rfl
set_option maxRecDepth 100000 in
theorem Qrb:joinedFacts Tryz.checked.prog 6 Tryz.f6 Rows.squeezeMovesSpec Rows.squeezeMovesRow=true:=by
 unfold joinedFacts
 exact (jf_ok (jf_ok (jf_ok (jf_ok (jf_ok (jf_ok (jf_ok (jf_ok (jf_ok (jf_ok (jf_ok (jf_ok (jf_ok (jf_ok (jf_ok (jf_ok (jf_ok (jf_ok (jf_ok (jf_ok (jf_ok (jf_ok (jf_ok (jf_ok (jf_ok (jf_ok (jf_ok (jf_ok (jf_ok (jf_ok (jf_ok Q0g Q1g) Q2g) Q3g) Q4g) Q5g) Q6g) Q7g) Q8g) Q9g) Q9e) Qae) Qbe) Qce) Qde) Qee) Qfe) Qge) Qhe) Qie) Qje) Qke) Qle) Qme) Qne) Qoe) Qpe) Qqe) Qre) Qse) Qte) Que)
theorem squeezeMoves_named : Tryz.prog.funcNamed "muster/musterlaw22.SqueezeMoves" = some 6 := by kernel_rfl
theorem Qve:Rows.squeezeMovesRow.wfByText (OpenSpec.ofChange Rows.squeezeMovesSpec)=true:=by kernel_rfl
theorem Qcd : Tryz.prog.mainIs = some (true, "dae1aa68f08b665462c7e19f959389dfe4c0d8ff5d812cf9a780a93814aaddea".toList) := by kernel_rfl
theorem Qzc:true = Tryz.prog.looks []:=by kernel_rfl
theorem Qbd:false=Rows.squeezeMovesRow.goesBy Tryz.prog:=by kernel_rfl
end Go.Proofs.YtjpgfmbccohngaaGreatDoor
