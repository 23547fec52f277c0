/-
  What the row of this law says of the program is so: New promises change no job that had one, or may not start; who has none then fits nowhere. No condition.
-/
import Derived.Test.YtcbolcknapeneaaGreatDoorTie
import Derived.Test.YtcbolcknapeneaaGreatDoorCards
import Derived.Test.YtcbolcknapeneaaGreatDoorRows
import Derived.ProofKit
import Derived.LaidMore
import Derived.OpenShut
import Derived.SevenTiedAt
namespace Go.Proofs.YtcbolcknapeneaaGreatDoor
set_option linter.unusedSimpArgs false
set_option linter.unusedVariables false
open Go.RowKit Go.ChangeShapes Go.WideShapes
theorem jf_ok {a b:Bool} (ha:a=true) (hb:b=true):(a&&b)=true:=by rw [ha,hb];rfl
theorem planKept_j0:(Rows.planKeptRow.wf (OpenSpec.ofChange Rows.planKeptSpec))=true:=by kernel_rfl
theorem planKept_j1:(laidOutB Tryz.prog)=true:=by kernel_rfl
theorem planKept_j2:(mapsRowed Tryz.prog)=true:=by kernel_rfl
theorem planKept_j3:(Tryz.f4.params.all (Tryz.prog.readableRec ·))=true:=by kernel_rfl
theorem planKept_j4:(namedTie Tryz.prog Rows.planKeptRow.named Rows.planKeptSpec.vars)=true:=by kernel_rfl
theorem planKept_j5:((Rows.planKeptRow.stops==[]))=true:=by kernel_rfl
theorem planKept_j6:((Tryz.prog.stops==[]))=true:=by kernel_rfl
theorem planKept_j7:((Rows.planKeptRow.knobs==[]))=true:=by kernel_rfl
theorem planKept_j8:((Tryz.prog.stopKnobs==[]))=true:=by kernel_rfl
theorem planKept_j9:((Rows.planKeptRow.inPlace == Tryz.prog.inPlace 4))=true:=by kernel_rfl
theorem planKept_j10:((Rows.planKeptRow.unfollowed == Tryz.prog.unfollowed 4))=true:=by kernel_rfl
theorem planKept_j11:((Rows.planKeptRow.recurses == Tryz.prog.recurses 4))=true:=by kernel_rfl
theorem planKept_j12:((Rows.planKeptRow.named == Tryz.prog.varsNamed 4))=true:=by kernel_rfl
theorem planKept_j13:((Rows.planKeptRow.maps==(Tryz.f4.params.toList++Rows.planKeptSpec.plain.varTypes Tryz.prog).any (Tryz.prog.mapsRec ·)))=true:=by kernel_rfl
theorem planKept_j14:((Rows.planKeptRow.ifaces==(Tryz.f4.params.toList++Rows.planKeptSpec.plain.varTypes Tryz.prog).any (Tryz.prog.ifacesRec ·)))=true:=by kernel_rfl
theorem planKept_j15:((Rows.planKeptRow.mapsOut == Tryz.prog.mapsAmong Tryz.f4.resultTypes.toList))=true:=by kernel_rfl
theorem planKept_j16:((Rows.planKeptRow.loops==(Tryz.f4.params.toList++Rows.planKeptSpec.plain.varTypes Tryz.prog).any (Tryz.prog.loopsFrom ·)))=true:=by kernel_rfl
theorem planKept_j17:((Rows.planKeptRow.wideKeys==(Tryz.f4.params.toList++Rows.planKeptSpec.plain.varTypes Tryz.prog ++ Tryz.f4.resultTypes.toList).any (Tryz.prog.wideKeysFrom ·)))=true:=by kernel_rfl
theorem planKept_j18:(Rows.planKeptSpec.vars.all (Tryz.prog.varReadable ·))=true:=by kernel_rfl
theorem planKept_j19:(Tryz.f4.resultTypes.all (fun t=>Tryz.prog.readableRec t&&decide (t < Tryz.prog.types.size)))=true:=by kernel_rfl
theorem planKept_j20:((Rows.planKeptRow.ifacesOut == Tryz.f4.resultTypes.toList.any (Tryz.prog.ifacesRec ·)))=true:=by kernel_rfl
theorem planKept_j21:((Rows.planKeptRow.loopsOut == Tryz.f4.resultTypes.toList.any (Tryz.prog.loopsFrom ·)))=true:=by kernel_rfl
theorem planKept_j22:((Rows.planKeptRow.plainKeys == Tryz.prog.plainKeys))=true:=by kernel_rfl
theorem planKept_j23:(Rows.planKeptRow.shortTexts.isNone)=true:=by kernel_rfl
theorem planKept_j24:(Tryz.prog.stopsHeard)=true:=by kernel_rfl
theorem planKept_j25:(Tryz.prog.mayEnter)=true:=by kernel_rfl
theorem planKept_j26:((Rows.planKeptRow.lifted == Tryz.prog.liftsFinal))=true:=by kernel_rfl
theorem planKept_j27:((Tryz.prog.make==some Rows.planKeptRow.make))=true:=by kernel_rfl
theorem planKept_j28:((Rows.planKeptRow.kinds==(if Rows.planKeptRow.domain.isEmpty then [] else Tryz.f4.params.toList.map fun t=>match Tryz.prog.underlying t with|some (.int k)=>some k|_=>none)))=true:=by kernel_rfl
theorem planKept_j29:((Rows.planKeptRow.pinned==Rows.planKeptRow.pinnedBy))=true:=by kernel_rfl
theorem planKept_j30:((Rows.planKeptRow.veiled==(Tryz.f4.params.toList++Rows.planKeptSpec.plain.varTypes Tryz.prog ++ Tryz.f4.resultTypes.toList).any (Tryz.prog.veiledRec ·)))=true:=by kernel_rfl
theorem planKept_j31:(Rows.planKeptRow.veiledFits Tryz.prog Tryz.f4.params.toList (Tryz.f4.params.toList++Rows.planKeptSpec.plain.varTypes Tryz.prog ++ Tryz.f4.resultTypes.toList))=true:=by kernel_rfl
set_option maxRecDepth 100000 in
theorem Qte:joinedFacts Tryz.checked.prog 4 Tryz.f4 Rows.planKeptSpec Rows.planKeptRow=true:=by
 unfold joinedFacts
 exact (jf_ok (jf_ok (jf_ok (jf_ok (jf_ok (jf_ok (jf_ok (jf_ok (jf_ok (jf_ok (jf_ok (jf_ok (jf_ok (jf_ok (jf_ok (jf_ok (jf_ok (jf_ok (jf_ok (jf_ok (jf_ok (jf_ok (jf_ok (jf_ok (jf_ok (jf_ok (jf_ok (jf_ok (jf_ok (jf_ok (jf_ok planKept_j0 planKept_j1) planKept_j2) planKept_j3) planKept_j4) planKept_j5) planKept_j6) planKept_j7) planKept_j8) planKept_j9) planKept_j10) planKept_j11) planKept_j12) planKept_j13) planKept_j14) planKept_j15) planKept_j16) planKept_j17) planKept_j18) planKept_j19) planKept_j20) planKept_j21) planKept_j22) planKept_j23) planKept_j24) planKept_j25) planKept_j26) planKept_j27) planKept_j28) planKept_j29) planKept_j30) planKept_j31)
theorem planKept_named : Tryz.prog.funcNamed "muster/musterlaw21.PlanKept" = some 4 := by kernel_rfl
theorem planKept_wbt:Rows.planKeptRow.wfByText (OpenSpec.ofChange Rows.planKeptSpec)=true:=by kernel_rfl
theorem planKept_main : Tryz.prog.mainIs = some (true, "f04241f516c1de0454f9c5d07f4c219339be6b9cad62827b7824ea62e3058dc3".toList) := by kernel_rfl
theorem planKept_looks:true = Tryz.prog.looks []:=by kernel_rfl
theorem planKept_goes:false=Rows.planKeptRow.goesBy Tryz.prog:=by kernel_rfl
end Go.Proofs.YtcbolcknapeneaaGreatDoor
