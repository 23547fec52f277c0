/-
  What the row of this law says of the program is so: What a job can be promised, and whether a plan is sound, is the document's answer. No condition.
-/
import Derived.Test.YtcbolcknapeneaaGreatDoorTie
import Derived.Test.YtcbolcknapeneaaGreatDoorCards
import Derived.Test.YtcbolcknapeneaaGreatDoorRows
import Derived.ProofKit
import Derived.LaidMore
import Derived.OpenShut
import Derived.SevenTiedAt
namespace Go.Proofs.YtcbolcknapeneaaGreatDoor
set_option linter.unusedSimpArgs false
set_option linter.unusedVariables false
open Go.RowKit Go.ChangeShapes Go.WideShapes
theorem jf_ok {a b:Bool} (ha:a=true) (hb:b=true):(a&&b)=true:=by rw [ha,hb];rfl
theorem planOne_j0:(Rows.planOneRow.wf (OpenSpec.ofChange Rows.planOneSpec))=true:=by kernel_rfl
theorem planOne_j1:(laidOutB Tryz.prog)=true:=by kernel_rfl
theorem planOne_j2:(mapsRowed Tryz.prog)=true:=by kernel_rfl
theorem planOne_j3:(Tryz.f3.params.all (Tryz.prog.readableRec ·))=true:=by kernel_rfl
theorem planOne_j4:(namedTie Tryz.prog Rows.planOneRow.named Rows.planOneSpec.vars)=true:=by kernel_rfl
theorem planOne_j5:((Rows.planOneRow.stops==[]))=true:=by kernel_rfl
theorem planOne_j6:((Tryz.prog.stops==[]))=true:=by kernel_rfl
theorem planOne_j7:((Rows.planOneRow.knobs==[]))=true:=by kernel_rfl
theorem planOne_j8:((Tryz.prog.stopKnobs==[]))=true:=by kernel_rfl
theorem planOne_j9:((Rows.planOneRow.inPlace == Tryz.prog.inPlace 3))=true:=by kernel_rfl
theorem planOne_j10:((Rows.planOneRow.unfollowed == Tryz.prog.unfollowed 3))=true:=by kernel_rfl
theorem planOne_j11:((Rows.planOneRow.recurses == Tryz.prog.recurses 3))=true:=by kernel_rfl
theorem planOne_j12:((Rows.planOneRow.named == Tryz.prog.varsNamed 3))=true:=by kernel_rfl
theorem planOne_j13:((Rows.planOneRow.maps==(Tryz.f3.params.toList++Rows.planOneSpec.plain.varTypes Tryz.prog).any (Tryz.prog.mapsRec ·)))=true:=by kernel_rfl
theorem planOne_j14:((Rows.planOneRow.ifaces==(Tryz.f3.params.toList++Rows.planOneSpec.plain.varTypes Tryz.prog).any (Tryz.prog.ifacesRec ·)))=true:=by kernel_rfl
theorem planOne_j15:((Rows.planOneRow.mapsOut == Tryz.prog.mapsAmong Tryz.f3.resultTypes.toList))=true:=by kernel_rfl
theorem planOne_j16:((Rows.planOneRow.loops==(Tryz.f3.params.toList++Rows.planOneSpec.plain.varTypes Tryz.prog).any (Tryz.prog.loopsFrom ·)))=true:=by kernel_rfl
theorem planOne_j17:((Rows.planOneRow.wideKeys==(Tryz.f3.params.toList++Rows.planOneSpec.plain.varTypes Tryz.prog ++ Tryz.f3.resultTypes.toList).any (Tryz.prog.wideKeysFrom ·)))=true:=by kernel_rfl
theorem planOne_j18:(Rows.planOneSpec.vars.all (Tryz.prog.varReadable ·))=true:=by kernel_rfl
theorem planOne_j19:(Tryz.f3.resultTypes.all (fun t=>Tryz.prog.readableRec t&&decide (t < Tryz.prog.types.size)))=true:=by kernel_rfl
theorem planOne_j20:((Rows.planOneRow.ifacesOut == Tryz.f3.resultTypes.toList.any (Tryz.prog.ifacesRec ·)))=true:=by kernel_rfl
theorem planOne_j21:((Rows.planOneRow.loopsOut == Tryz.f3.resultTypes.toList.any (Tryz.prog.loopsFrom ·)))=true:=by kernel_rfl
theorem planOne_j22:((Rows.planOneRow.plainKeys == Tryz.prog.plainKeys))=true:=by kernel_rfl
theorem planOne_j23:(Rows.planOneRow.shortTexts.isNone)=true:=by kernel_rfl
theorem planOne_j24:(Tryz.prog.stopsHeard)=true:=by kernel_rfl
theorem planOne_j25:(Tryz.prog.mayEnter)=true:=by kernel_rfl
theorem planOne_j26:((Rows.planOneRow.lifted == Tryz.prog.liftsFinal))=true:=by kernel_rfl
theorem planOne_j27:((Tryz.prog.make==some Rows.planOneRow.make))=true:=by kernel_rfl
theorem planOne_j28:((Rows.planOneRow.kinds==(if Rows.planOneRow.domain.isEmpty then [] else Tryz.f3.params.toList.map fun t=>match Tryz.prog.underlying t with|some (.int k)=>some k|_=>none)))=true:=by kernel_rfl
theorem planOne_j29:((Rows.planOneRow.pinned==Rows.planOneRow.pinnedBy))=true:=by kernel_rfl
theorem planOne_j30:((Rows.planOneRow.veiled==(Tryz.f3.params.toList++Rows.planOneSpec.plain.varTypes Tryz.prog ++ Tryz.f3.resultTypes.toList).any (Tryz.prog.veiledRec ·)))=true:=by kernel_rfl
theorem planOne_j31:(Rows.planOneRow.veiledFits Tryz.prog Tryz.f3.params.toList (Tryz.f3.params.toList++Rows.planOneSpec.plain.varTypes Tryz.prog ++ Tryz.f3.resultTypes.toList))=true:=by kernel_rfl
set_option maxRecDepth 100000 in
theorem planOne_joined:joinedFacts Tryz.checked.prog 3 Tryz.f3 Rows.planOneSpec Rows.planOneRow=true:=by
 unfold joinedFacts
 exact (jf_ok (jf_ok (jf_ok (jf_ok (jf_ok (jf_ok (jf_ok (jf_ok (jf_ok (jf_ok (jf_ok (jf_ok (jf_ok (jf_ok (jf_ok (jf_ok (jf_ok (jf_ok (jf_ok (jf_ok (jf_ok (jf_ok (jf_ok (jf_ok (jf_ok (jf_ok (jf_ok (jf_ok (jf_ok (jf_ok (jf_ok planOne_j0 planOne_j1) planOne_j2) planOne_j3) planOne_j4) planOne_j5) planOne_j6) planOne_j7) planOne_j8) planOne_j9) planOne_j10) planOne_j11) planOne_j12) planOne_j13) planOne_j14) planOne_j15) planOne_j16) planOne_j17) planOne_j18) planOne_j19) planOne_j20) planOne_j21) planOne_j22) planOne_j23) planOne_j24) planOne_j25) planOne_j26) planOne_j27) planOne_j28) planOne_j29) planOne_j30) planOne_j31)
theorem planOne_named : Tryz.prog.funcNamed "muster/musterlaw21.PlanOne" = some 3 := by kernel_rfl
theorem planOne_wbt:Rows.planOneRow.wfByText (OpenSpec.ofChange Rows.planOneSpec)=true:=by kernel_rfl
theorem planOne_main : Tryz.prog.mainIs = some (true, "f04241f516c1de0454f9c5d07f4c219339be6b9cad62827b7824ea62e3058dc3".toList) := by kernel_rfl
theorem planOne_looks:true = Tryz.prog.looks []:=by kernel_rfl
theorem planOne_goes:false=Rows.planOneRow.goesBy Tryz.prog:=by kernel_rfl
end Go.Proofs.YtcbolcknapeneaaGreatDoor
