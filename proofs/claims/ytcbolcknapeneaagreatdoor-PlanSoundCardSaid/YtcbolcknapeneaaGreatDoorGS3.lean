/-
  What the row of this law says of the program is so: What was sound is sound behind new promises; all promised anew is sound. No condition.
-/
import Derived.Test.YtcbolcknapeneaaGreatDoorTie
import Derived.Test.YtcbolcknapeneaaGreatDoorCards
import Derived.Test.YtcbolcknapeneaaGreatDoorRows
import Derived.ProofKit
import Derived.LaidMore
import Derived.OpenShut
import Derived.SevenTiedAt
namespace Go.Proofs.YtcbolcknapeneaaGreatDoor
set_option linter.unusedSimpArgs false
set_option linter.unusedVariables false
open Go.RowKit Go.ChangeShapes Go.WideShapes
theorem jf_ok {a b:Bool} (ha:a=true) (hb:b=true):(a&&b)=true:=by rw [ha,hb];rfl
theorem planSound_j0:(Rows.planSoundRow.wf (OpenSpec.ofChange Rows.planSoundSpec))=true:=by kernel_rfl
theorem planSound_j1:(laidOutB Tryz.prog)=true:=by kernel_rfl
theorem planSound_j2:(mapsRowed Tryz.prog)=true:=by kernel_rfl
theorem planSound_j3:(Tryz.f5.params.all (Tryz.prog.readableRec ·))=true:=by kernel_rfl
theorem planSound_j4:(namedTie Tryz.prog Rows.planSoundRow.named Rows.planSoundSpec.vars)=true:=by kernel_rfl
theorem planSound_j5:((Rows.planSoundRow.stops==[]))=true:=by kernel_rfl
theorem planSound_j6:((Tryz.prog.stops==[]))=true:=by kernel_rfl
theorem planSound_j7:((Rows.planSoundRow.knobs==[]))=true:=by kernel_rfl
theorem planSound_j8:((Tryz.prog.stopKnobs==[]))=true:=by kernel_rfl
theorem planSound_j9:((Rows.planSoundRow.inPlace == Tryz.prog.inPlace 5))=true:=by kernel_rfl
theorem planSound_j10:((Rows.planSoundRow.unfollowed == Tryz.prog.unfollowed 5))=true:=by kernel_rfl
theorem planSound_j11:((Rows.planSoundRow.recurses == Tryz.prog.recurses 5))=true:=by kernel_rfl
theorem planSound_j12:((Rows.planSoundRow.named == Tryz.prog.varsNamed 5))=true:=by kernel_rfl
theorem planSound_j13:((Rows.planSoundRow.maps==(Tryz.f5.params.toList++Rows.planSoundSpec.plain.varTypes Tryz.prog).any (Tryz.prog.mapsRec ·)))=true:=by kernel_rfl
theorem planSound_j14:((Rows.planSoundRow.ifaces==(Tryz.f5.params.toList++Rows.planSoundSpec.plain.varTypes Tryz.prog).any (Tryz.prog.ifacesRec ·)))=true:=by kernel_rfl
theorem planSound_j15:((Rows.planSoundRow.mapsOut == Tryz.prog.mapsAmong Tryz.f5.resultTypes.toList))=true:=by kernel_rfl
theorem planSound_j16:((Rows.planSoundRow.loops==(Tryz.f5.params.toList++Rows.planSoundSpec.plain.varTypes Tryz.prog).any (Tryz.prog.loopsFrom ·)))=true:=by kernel_rfl
theorem planSound_j17:((Rows.planSoundRow.wideKeys==(Tryz.f5.params.toList++Rows.planSoundSpec.plain.varTypes Tryz.prog ++ Tryz.f5.resultTypes.toList).any (Tryz.prog.wideKeysFrom ·)))=true:=by kernel_rfl
theorem planSound_j18:(Rows.planSoundSpec.vars.all (Tryz.prog.varReadable ·))=true:=by kernel_rfl
theorem planSound_j19:(Tryz.f5.resultTypes.all (fun t=>Tryz.prog.readableRec t&&decide (t < Tryz.prog.types.size)))=true:=by kernel_rfl
theorem planSound_j20:((Rows.planSoundRow.ifacesOut == Tryz.f5.resultTypes.toList.any (Tryz.prog.ifacesRec ·)))=true:=by kernel_rfl
theorem planSound_j21:((Rows.planSoundRow.loopsOut == Tryz.f5.resultTypes.toList.any (Tryz.prog.loopsFrom ·)))=true:=by kernel_rfl
theorem planSound_j22:((Rows.planSoundRow.plainKeys == Tryz.prog.plainKeys))=true:=by kernel_rfl
theorem planSound_j23:(Rows.planSoundRow.shortTexts.isNone)=true:=by kernel_rfl
theorem planSound_j24:(Tryz.prog.stopsHeard)=true:=by kernel_rfl
theorem planSound_j25:(Tryz.prog.mayEnter)=true:=by kernel_rfl
theorem planSound_j26:((Rows.planSoundRow.lifted == Tryz.prog.liftsFinal))=true:=by kernel_rfl
theorem planSound_j27:((Tryz.prog.make==some Rows.planSoundRow.make))=true:=by kernel_rfl
theorem planSound_j28:((Rows.planSoundRow.kinds==(if Rows.planSoundRow.domain.isEmpty then [] else Tryz.f5.params.toList.map fun t=>match Tryz.prog.underlying t with|some (.int k)=>some k|_=>none)))=true:=by kernel_rfl
theorem planSound_j29:((Rows.planSoundRow.pinned==Rows.planSoundRow.pinnedBy))=true:=by kernel_rfl
theorem planSound_j30:((Rows.planSoundRow.veiled==(Tryz.f5.params.toList++Rows.planSoundSpec.plain.varTypes Tryz.prog ++ Tryz.f5.resultTypes.toList).any (Tryz.prog.veiledRec ·)))=true:=by kernel_rfl
theorem planSound_j31:(Rows.planSoundRow.veiledFits Tryz.prog Tryz.f5.params.toList (Tryz.f5.params.toList++Rows.planSoundSpec.plain.varTypes Tryz.prog ++ Tryz.f5.resultTypes.toList))=true:=by kernel_rfl
set_option maxRecDepth 100000 in
theorem Q8d:joinedFacts Tryz.checked.prog 5 Tryz.f5 Rows.planSoundSpec Rows.planSoundRow=true:=by
 unfold joinedFacts
 exact (jf_ok (jf_ok (jf_ok (jf_ok (jf_ok (jf_ok (jf_ok (jf_ok (jf_ok (jf_ok (jf_ok (jf_ok (jf_ok (jf_ok (jf_ok (jf_ok (jf_ok (jf_ok (jf_ok (jf_ok (jf_ok (jf_ok (jf_ok (jf_ok (jf_ok (jf_ok (jf_ok (jf_ok (jf_ok (jf_ok (jf_ok planSound_j0 planSound_j1) planSound_j2) planSound_j3) planSound_j4) planSound_j5) planSound_j6) planSound_j7) planSound_j8) planSound_j9) planSound_j10) planSound_j11) planSound_j12) planSound_j13) planSound_j14) planSound_j15) planSound_j16) planSound_j17) planSound_j18) planSound_j19) planSound_j20) planSound_j21) planSound_j22) planSound_j23) planSound_j24) planSound_j25) planSound_j26) planSound_j27) planSound_j28) planSound_j29) planSound_j30) planSound_j31)
theorem planSound_named : Tryz.prog.funcNamed "muster/musterlaw21.PlanSound" = some 5 := by kernel_rfl
theorem planSound_wbt:Rows.planSoundRow.wfByText (OpenSpec.ofChange Rows.planSoundSpec)=true:=by kernel_rfl
theorem planSound_main : Tryz.prog.mainIs = some (true, "f04241f516c1de0454f9c5d07f4c219339be6b9cad62827b7824ea62e3058dc3".toList) := by kernel_rfl
theorem Qwe:true = Tryz.prog.looks []:=by kernel_rfl
theorem planSound_goes:false=Rows.planSoundRow.goesBy Tryz.prog:=by kernel_rfl
end Go.Proofs.YtcbolcknapeneaaGreatDoor
