/-
  What the row of this law says of the program is so: A node that was not free is free behind a note only if that tells that it was released, or fenced, with its epoch; and who is granted a node then gets one that was free, or is that one. No condition.
-/
import Derived.Test.YtgnlcjenoaoffaaGreatDoorTie
import Derived.Test.YtgnlcjenoaoffaaGreatDoorCards
import Derived.Test.YtgnlcjenoaoffaaGreatDoorRows
import Derived.ProofKit
import Derived.LaidMore
import Derived.OpenShut
import Derived.SevenTiedAt
namespace Go.Proofs.YtgnlcjenoaoffaaGreatDoor
set_option linter.unusedSimpArgs false
set_option linter.unusedVariables false
open Go.RowKit Go.ChangeShapes Go.WideShapes
theorem jf_ok {a b:Bool} (ha:a=true) (hb:b=true):(a&&b)=true:=by rw [ha,hb];rfl
theorem heedFreed_j0:(Rows.heedFreedRow.wf (OpenSpec.ofChange Rows.heedFreedSpec))=true:=by kernel_rfl
theorem heedFreed_j1:(laidOutB Tryz.prog)=true:=by kernel_rfl
theorem heedFreed_j2:(mapsRowed Tryz.prog)=true:=by kernel_rfl
theorem heedFreed_j3:(Tryz.f5.params.all (Tryz.prog.readableRec ·))=true:=by kernel_rfl
theorem heedFreed_j4:(namedTie Tryz.prog Rows.heedFreedRow.named Rows.heedFreedSpec.vars)=true:=by kernel_rfl
theorem heedFreed_j5:((Rows.heedFreedRow.stops==[]))=true:=by kernel_rfl
theorem heedFreed_j6:((Tryz.prog.stops==[]))=true:=by kernel_rfl
theorem heedFreed_j7:((Rows.heedFreedRow.knobs==[]))=true:=by kernel_rfl
theorem heedFreed_j8:((Tryz.prog.stopKnobs==[]))=true:=by kernel_rfl
theorem heedFreed_j9:((Rows.heedFreedRow.inPlace == Tryz.prog.inPlace 5))=true:=by kernel_rfl
theorem heedFreed_j10:((Rows.heedFreedRow.unfollowed == Tryz.prog.unfollowed 5))=true:=by kernel_rfl
theorem heedFreed_j11:((Rows.heedFreedRow.recurses == Tryz.prog.recurses 5))=true:=by kernel_rfl
theorem heedFreed_j12:((Rows.heedFreedRow.named == Tryz.prog.varsNamed 5))=true:=by kernel_rfl
theorem heedFreed_j13:((Rows.heedFreedRow.maps==(Tryz.f5.params.toList++Rows.heedFreedSpec.plain.varTypes Tryz.prog).any (Tryz.prog.mapsRec ·)))=true:=by kernel_rfl
theorem heedFreed_j14:((Rows.heedFreedRow.ifaces==(Tryz.f5.params.toList++Rows.heedFreedSpec.plain.varTypes Tryz.prog).any (Tryz.prog.ifacesRec ·)))=true:=by kernel_rfl
theorem heedFreed_j15:((Rows.heedFreedRow.mapsOut == Tryz.prog.mapsAmong Tryz.f5.resultTypes.toList))=true:=by kernel_rfl
theorem heedFreed_j16:((Rows.heedFreedRow.loops==(Tryz.f5.params.toList++Rows.heedFreedSpec.plain.varTypes Tryz.prog).any (Tryz.prog.loopsFrom ·)))=true:=by kernel_rfl
theorem heedFreed_j17:((Rows.heedFreedRow.wideKeys==(Tryz.f5.params.toList++Rows.heedFreedSpec.plain.varTypes Tryz.prog ++ Tryz.f5.resultTypes.toList).any (Tryz.prog.wideKeysFrom ·)))=true:=by kernel_rfl
theorem heedFreed_j18:(Rows.heedFreedSpec.vars.all (Tryz.prog.varReadable ·))=true:=by kernel_rfl
theorem heedFreed_j19:(Tryz.f5.resultTypes.all (fun t=>Tryz.prog.readableRec t&&decide (t < Tryz.prog.types.size)))=true:=by kernel_rfl
theorem heedFreed_j20:((Rows.heedFreedRow.ifacesOut == Tryz.f5.resultTypes.toList.any (Tryz.prog.ifacesRec ·)))=true:=by kernel_rfl
theorem heedFreed_j21:((Rows.heedFreedRow.loopsOut == Tryz.f5.resultTypes.toList.any (Tryz.prog.loopsFrom ·)))=true:=by kernel_rfl
theorem heedFreed_j22:((Rows.heedFreedRow.plainKeys == Tryz.prog.plainKeys))=true:=by kernel_rfl
theorem heedFreed_j23:(Rows.heedFreedRow.shortTexts.isNone)=true:=by kernel_rfl
theorem heedFreed_j24:(Tryz.prog.stopsHeard)=true:=by kernel_rfl
theorem heedFreed_j25:(Tryz.prog.mayEnter)=true:=by kernel_rfl
theorem heedFreed_j26:((Rows.heedFreedRow.lifted == Tryz.prog.liftsFinal))=true:=by kernel_rfl
theorem heedFreed_j27:((Tryz.prog.make==some Rows.heedFreedRow.make))=true:=by kernel_rfl
theorem heedFreed_j28:((Rows.heedFreedRow.kinds==(if Rows.heedFreedRow.domain.isEmpty then [] else Tryz.f5.params.toList.map fun t=>match Tryz.prog.underlying t with|some (.int k)=>some k|_=>none)))=true:=by kernel_rfl
theorem heedFreed_j29:((Rows.heedFreedRow.pinned==Rows.heedFreedRow.pinnedBy))=true:=by kernel_rfl
theorem heedFreed_j30:((Rows.heedFreedRow.veiled==(Tryz.f5.params.toList++Rows.heedFreedSpec.plain.varTypes Tryz.prog ++ Tryz.f5.resultTypes.toList).any (Tryz.prog.veiledRec ·)))=true:=by kernel_rfl
theorem heedFreed_j31:(Rows.heedFreedRow.veiledFits Tryz.prog Tryz.f5.params.toList (Tryz.f5.params.toList++Rows.heedFreedSpec.plain.varTypes Tryz.prog ++ Tryz.f5.resultTypes.toList))=true:=by kernel_rfl
set_option maxRecDepth 100000 in
theorem Q8d:joinedFacts Tryz.checked.prog 5 Tryz.f5 Rows.heedFreedSpec Rows.heedFreedRow=true:=by
 unfold joinedFacts;exact (jf_ok (jf_ok (jf_ok (jf_ok (jf_ok (jf_ok (jf_ok (jf_ok (jf_ok (jf_ok (jf_ok (jf_ok (jf_ok (jf_ok (jf_ok (jf_ok (jf_ok (jf_ok (jf_ok (jf_ok (jf_ok (jf_ok (jf_ok (jf_ok (jf_ok (jf_ok (jf_ok (jf_ok (jf_ok (jf_ok (jf_ok heedFreed_j0 heedFreed_j1) heedFreed_j2) heedFreed_j3) heedFreed_j4) heedFreed_j5) heedFreed_j6) heedFreed_j7) heedFreed_j8) heedFreed_j9) heedFreed_j10) heedFreed_j11) heedFreed_j12) heedFreed_j13) heedFreed_j14) heedFreed_j15) heedFreed_j16) heedFreed_j17) heedFreed_j18) heedFreed_j19) heedFreed_j20) heedFreed_j21) heedFreed_j22) heedFreed_j23) heedFreed_j24) heedFreed_j25) heedFreed_j26) heedFreed_j27) heedFreed_j28) heedFreed_j29) heedFreed_j30) heedFreed_j31)
theorem heedFreed_named : Tryz.prog.funcNamed "muster/musterlaw31.HeedFreed" = some 5 := by kernel_rfl
theorem heedFreed_wbt:Rows.heedFreedRow.wfByText (OpenSpec.ofChange Rows.heedFreedSpec)=true:=by kernel_rfl
theorem heedFreed_main : Tryz.prog.mainIs = some (true, "ab79425dc42da24502128ae33463c4d4b0400b1f44a0107441ee650d1a9e689e".toList) := by kernel_rfl
theorem Q7e:true = Tryz.prog.looks []:=by kernel_rfl
theorem heedFreed_goes:false=Rows.heedFreedRow.goesBy Tryz.prog:=by kernel_rfl
end Go.Proofs.YtgnlcjenoaoffaaGreatDoor
