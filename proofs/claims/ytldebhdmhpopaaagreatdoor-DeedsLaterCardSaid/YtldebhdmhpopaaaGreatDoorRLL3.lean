/-
  What the row of this law says of the program is so: Unless all is planned anew no promise comes later, or is taken, but by a start; only then is something told to be raised. No condition.
-/
import Derived.Test.YtldebhdmhpopaaaGreatDoorTie
import Derived.Test.YtldebhdmhpopaaaGreatDoorCards
import Derived.Test.YtldebhdmhpopaaaGreatDoorRows
import Derived.ProofKit
import Derived.LaidMore
import Derived.OpenShut
import Derived.SevenTiedAt
namespace Go.Proofs.YtldebhdmhpopaaaGreatDoor
set_option linter.unusedSimpArgs false
set_option linter.unusedVariables false
open Go.RowKit Go.ChangeShapes Go.WideShapes
theorem jf_ok {a b:Bool} (ha:a=true) (hb:b=true):(a&&b)=true:=by rw [ha,hb];rfl
theorem deedsLater_j0:(Rows.deedsLaterRow.wf (OpenSpec.ofChange Rows.deedsLaterSpec))=true:=by kernel_rfl
theorem deedsLater_j1:(laidOutB Tryz.prog)=true:=by kernel_rfl
theorem deedsLater_j2:(mapsRowed Tryz.prog)=true:=by kernel_rfl
theorem deedsLater_j3:(Tryz.f3.params.all (Tryz.prog.readableRec ·))=true:=by kernel_rfl
theorem deedsLater_j4:(namedTie Tryz.prog Rows.deedsLaterRow.named Rows.deedsLaterSpec.vars)=true:=by kernel_rfl
theorem deedsLater_j5:((Rows.deedsLaterRow.stops==[]))=true:=by kernel_rfl
theorem deedsLater_j6:((Tryz.prog.stops==[]))=true:=by kernel_rfl
theorem deedsLater_j7:((Rows.deedsLaterRow.knobs==[]))=true:=by kernel_rfl
theorem deedsLater_j8:((Tryz.prog.stopKnobs==[]))=true:=by kernel_rfl
theorem deedsLater_j9:((Rows.deedsLaterRow.inPlace == Tryz.prog.inPlace 3))=true:=by kernel_rfl
theorem deedsLater_j10:((Rows.deedsLaterRow.unfollowed == Tryz.prog.unfollowed 3))=true:=by kernel_rfl
theorem deedsLater_j11:((Rows.deedsLaterRow.recurses == Tryz.prog.recurses 3))=true:=by kernel_rfl
theorem deedsLater_j12:((Rows.deedsLaterRow.named == Tryz.prog.varsNamed 3))=true:=by kernel_rfl
theorem deedsLater_j13:((Rows.deedsLaterRow.maps==(Tryz.f3.params.toList++Rows.deedsLaterSpec.plain.varTypes Tryz.prog).any (Tryz.prog.mapsRec ·)))=true:=by kernel_rfl
theorem deedsLater_j14:((Rows.deedsLaterRow.ifaces==(Tryz.f3.params.toList++Rows.deedsLaterSpec.plain.varTypes Tryz.prog).any (Tryz.prog.ifacesRec ·)))=true:=by kernel_rfl
theorem deedsLater_j15:((Rows.deedsLaterRow.mapsOut == Tryz.prog.mapsAmong Tryz.f3.resultTypes.toList))=true:=by kernel_rfl
theorem deedsLater_j16:((Rows.deedsLaterRow.loops==(Tryz.f3.params.toList++Rows.deedsLaterSpec.plain.varTypes Tryz.prog).any (Tryz.prog.loopsFrom ·)))=true:=by kernel_rfl
theorem deedsLater_j17:((Rows.deedsLaterRow.wideKeys==(Tryz.f3.params.toList++Rows.deedsLaterSpec.plain.varTypes Tryz.prog ++ Tryz.f3.resultTypes.toList).any (Tryz.prog.wideKeysFrom ·)))=true:=by kernel_rfl
theorem deedsLater_j18:(Rows.deedsLaterSpec.vars.all (Tryz.prog.varReadable ·))=true:=by kernel_rfl
theorem deedsLater_j19:(Tryz.f3.resultTypes.all (fun t=>Tryz.prog.readableRec t&&decide (t < Tryz.prog.types.size)))=true:=by kernel_rfl
theorem deedsLater_j20:((Rows.deedsLaterRow.ifacesOut == Tryz.f3.resultTypes.toList.any (Tryz.prog.ifacesRec ·)))=true:=by kernel_rfl
theorem deedsLater_j21:((Rows.deedsLaterRow.loopsOut == Tryz.f3.resultTypes.toList.any (Tryz.prog.loopsFrom ·)))=true:=by kernel_rfl
theorem deedsLater_j22:((Rows.deedsLaterRow.plainKeys == Tryz.prog.plainKeys))=true:=by kernel_rfl
theorem deedsLater_j23:(Rows.deedsLaterRow.shortTexts.isNone)=true:=by kernel_rfl
theorem deedsLater_j24:(Tryz.prog.stopsHeard)=true:=by kernel_rfl
theorem deedsLater_j25:(Tryz.prog.mayEnter)=true:=by kernel_rfl
theorem deedsLater_j26:((Rows.deedsLaterRow.lifted == Tryz.prog.liftsFinal))=true:=by kernel_rfl
theorem deedsLater_j27:((Tryz.prog.make==some Rows.deedsLaterRow.make))=true:=by kernel_rfl
theorem deedsLater_j28:((Rows.deedsLaterRow.kinds==(if Rows.deedsLaterRow.domain.isEmpty then [] else Tryz.f3.params.toList.map fun t=>match Tryz.prog.underlying t with|some (.int k)=>some k|_=>none)))=true:=by kernel_rfl
theorem deedsLater_j29:((Rows.deedsLaterRow.pinned==Rows.deedsLaterRow.pinnedBy))=true:=by kernel_rfl
theorem deedsLater_j30:((Rows.deedsLaterRow.veiled==(Tryz.f3.params.toList++Rows.deedsLaterSpec.plain.varTypes Tryz.prog ++ Tryz.f3.resultTypes.toList).any (Tryz.prog.veiledRec ·)))=true:=by kernel_rfl
theorem deedsLater_j31:(Rows.deedsLaterRow.veiledFits Tryz.prog Tryz.f3.params.toList (Tryz.f3.params.toList++Rows.deedsLaterSpec.plain.varTypes Tryz.prog ++ Tryz.f3.resultTypes.toList))=true:=by kernel_rfl
set_option maxRecDepth 100000 in
theorem Qgb:joinedFacts Tryz.checked.prog 3 Tryz.f3 Rows.deedsLaterSpec Rows.deedsLaterRow=true:=by
 unfold joinedFacts
 exact (jf_ok (jf_ok (jf_ok (jf_ok (jf_ok (jf_ok (jf_ok (jf_ok (jf_ok (jf_ok (jf_ok (jf_ok (jf_ok (jf_ok (jf_ok (jf_ok (jf_ok (jf_ok (jf_ok (jf_ok (jf_ok (jf_ok (jf_ok (jf_ok (jf_ok (jf_ok (jf_ok (jf_ok (jf_ok (jf_ok (jf_ok deedsLater_j0 deedsLater_j1) deedsLater_j2) deedsLater_j3) deedsLater_j4) deedsLater_j5) deedsLater_j6) deedsLater_j7) deedsLater_j8) deedsLater_j9) deedsLater_j10) deedsLater_j11) deedsLater_j12) deedsLater_j13) deedsLater_j14) deedsLater_j15) deedsLater_j16) deedsLater_j17) deedsLater_j18) deedsLater_j19) deedsLater_j20) deedsLater_j21) deedsLater_j22) deedsLater_j23) deedsLater_j24) deedsLater_j25) deedsLater_j26) deedsLater_j27) deedsLater_j28) deedsLater_j29) deedsLater_j30) deedsLater_j31)
theorem deedsLater_named : Tryz.prog.funcNamed "muster/musterlaw29.DeedsLater" = some 3 := by kernel_rfl
theorem deedsLater_wbt:Rows.deedsLaterRow.wfByText (OpenSpec.ofChange Rows.deedsLaterSpec)=true:=by kernel_rfl
theorem QUc : Tryz.prog.mainIs = some (true, "a95f2bcdfb03604222caae0f72289376bb28b312adf672ebf6866a3433d03d5e".toList) := by kernel_rfl
theorem Q8c:true = Tryz.prog.looks []:=by kernel_rfl
theorem QTc:false=Rows.deedsLaterRow.goesBy Tryz.prog:=by kernel_rfl
end Go.Proofs.YtldebhdmhpopaaaGreatDoor
