/-
  What the row of this law says of the program is so: A change that is begun changes no promise; what was sound is sound. No condition.
-/
import Derived.Test.YtackngeeehiegaaGreatDoorTie
import Derived.Test.YtackngeeehiegaaGreatDoorCards
import Derived.Test.YtackngeeehiegaaGreatDoorRows
import Derived.ProofKit
import Derived.LaidMore
import Derived.OpenShut
import Derived.SevenTiedAt
namespace Go.Proofs.YtackngeeehiegaaGreatDoor
set_option linter.unusedSimpArgs false
set_option linter.unusedVariables false
open Go.RowKit Go.ChangeShapes Go.WideShapes
theorem jf_ok {a b:Bool} (ha:a=true) (hb:b=true):(a&&b)=true:=by rw [ha,hb];rfl
theorem resizeSound_j0:(Rows.resizeSoundRow.wf (OpenSpec.ofChange Rows.resizeSoundSpec))=true:=by kernel_rfl
theorem resizeSound_j1:(laidOutB Tryz.prog)=true:=by kernel_rfl
theorem resizeSound_j2:(mapsRowed Tryz.prog)=true:=by kernel_rfl
theorem resizeSound_j3:(Tryz.f7.params.all (Tryz.prog.readableRec ·))=true:=by kernel_rfl
theorem resizeSound_j4:(namedTie Tryz.prog Rows.resizeSoundRow.named Rows.resizeSoundSpec.vars)=true:=by kernel_rfl
theorem resizeSound_j5:((Rows.resizeSoundRow.stops==[]))=true:=by kernel_rfl
theorem resizeSound_j6:((Tryz.prog.stops==[]))=true:=by kernel_rfl
theorem resizeSound_j7:((Rows.resizeSoundRow.knobs==[]))=true:=by kernel_rfl
theorem resizeSound_j8:((Tryz.prog.stopKnobs==[]))=true:=by kernel_rfl
theorem resizeSound_j9:((Rows.resizeSoundRow.inPlace == Tryz.prog.inPlace 7))=true:=by kernel_rfl
theorem Qdg:((Rows.resizeSoundRow.unfollowed == Tryz.prog.unfollowed 7))=true:=by kernel_rfl
theorem Qeg:((Rows.resizeSoundRow.recurses == Tryz.prog.recurses 7))=true:=by kernel_rfl
theorem Qfg:((Rows.resizeSoundRow.named == Tryz.prog.varsNamed 7))=true:=by kernel_rfl
theorem Qgg:((Rows.resizeSoundRow.maps==(Tryz.f7.params.toList++Rows.resizeSoundSpec.plain.varTypes Tryz.prog).any (Tryz.prog.mapsRec ·)))=true:=by kernel_rfl
theorem Qhg:((Rows.resizeSoundRow.ifaces==(Tryz.f7.params.toList++Rows.resizeSoundSpec.plain.varTypes Tryz.prog).any (Tryz.prog.ifacesRec ·)))=true:=by kernel_rfl
theorem Qig:((Rows.resizeSoundRow.mapsOut == Tryz.prog.mapsAmong Tryz.f7.resultTypes.toList))=true:=by kernel_rfl
theorem Qjg:((Rows.resizeSoundRow.loops==(Tryz.f7.params.toList++Rows.resizeSoundSpec.plain.varTypes Tryz.prog).any (Tryz.prog.loopsFrom ·)))=true:=by kernel_rfl
theorem Qkg:((Rows.resizeSoundRow.wideKeys==(Tryz.f7.params.toList++Rows.resizeSoundSpec.plain.varTypes Tryz.prog ++ Tryz.f7.resultTypes.toList).any (Tryz.prog.wideKeysFrom ·)))=true:=by kernel_rfl
theorem Qlg:(Rows.resizeSoundSpec.vars.all (Tryz.prog.varReadable ·))=true:=by kernel_rfl
theorem Qmg:(Tryz.f7.resultTypes.all (fun t=>Tryz.prog.readableRec t&&decide (t < Tryz.prog.types.size)))=true:=by kernel_rfl
theorem Qng:((Rows.resizeSoundRow.ifacesOut == Tryz.f7.resultTypes.toList.any (Tryz.prog.ifacesRec ·)))=true:=by kernel_rfl
theorem Qog:((Rows.resizeSoundRow.loopsOut == Tryz.f7.resultTypes.toList.any (Tryz.prog.loopsFrom ·)))=true:=by kernel_rfl
theorem Qpg:((Rows.resizeSoundRow.plainKeys == Tryz.prog.plainKeys))=true:=by kernel_rfl
theorem Qqg:(Rows.resizeSoundRow.shortTexts.isNone)=true:=by kernel_rfl
theorem Qrg:(Tryz.prog.stopsHeard)=true:=by kernel_rfl
theorem Qsg:(Tryz.prog.mayEnter)=true:=by kernel_rfl
theorem Qtg:((Rows.resizeSoundRow.lifted == Tryz.prog.liftsFinal))=true:=by kernel_rfl
theorem Qug:((Tryz.prog.make==some Rows.resizeSoundRow.make))=true:=by kernel_rfl
theorem Qvg:((Rows.resizeSoundRow.kinds==(if Rows.resizeSoundRow.domain.isEmpty then [] else Tryz.f7.params.toList.map fun t=>match Tryz.prog.underlying t with|some (.int k)=>some k|_=>none)))=true:=by kernel_rfl
theorem Qwg:((Rows.resizeSoundRow.pinned==Rows.resizeSoundRow.pinnedBy))=true:=by kernel_rfl
theorem Qxg:((Rows.resizeSoundRow.veiled==(Tryz.f7.params.toList++Rows.resizeSoundSpec.plain.varTypes Tryz.prog ++ Tryz.f7.resultTypes.toList).any (Tryz.prog.veiledRec ·)))=true:=by kernel_rfl
theorem Qyg:(Rows.resizeSoundRow.veiledFits Tryz.prog Tryz.f7.params.toList (Tryz.f7.params.toList++Rows.resizeSoundSpec.plain.varTypes Tryz.prog ++ Tryz.f7.resultTypes.toList))=true:=by kernel_rfl
set_option maxRecDepth 100000 in
theorem QMc:joinedFacts Tryz.checked.prog 7 Tryz.f7 Rows.resizeSoundSpec Rows.resizeSoundRow=true:=by
 unfold joinedFacts;exact (jf_ok (jf_ok (jf_ok (jf_ok (jf_ok (jf_ok (jf_ok (jf_ok (jf_ok (jf_ok (jf_ok (jf_ok (jf_ok (jf_ok (jf_ok (jf_ok (jf_ok (jf_ok (jf_ok (jf_ok (jf_ok (jf_ok (jf_ok (jf_ok (jf_ok (jf_ok (jf_ok (jf_ok (jf_ok (jf_ok (jf_ok resizeSound_j0 resizeSound_j1) resizeSound_j2) resizeSound_j3) resizeSound_j4) resizeSound_j5) resizeSound_j6) resizeSound_j7) resizeSound_j8) resizeSound_j9) Qdg) Qeg) Qfg) Qgg) Qhg) Qig) Qjg) Qkg) Qlg) Qmg) Qng) Qog) Qpg) Qqg) Qrg) Qsg) Qtg) Qug) Qvg) Qwg) Qxg) Qyg)
theorem resizeSound_named : Tryz.prog.funcNamed "muster/musterlaw26.ResizeSound" = some 7 := by kernel_rfl
theorem Qzg:Rows.resizeSoundRow.wfByText (OpenSpec.ofChange Rows.resizeSoundSpec)=true:=by kernel_rfl
theorem QCe : Tryz.prog.mainIs = some (true, "0d9f5ecd6f9e78159df61c7f547d7bc6bd943f0def6562f313832cbb46e3e19e".toList) := by kernel_rfl
theorem QEd:true = Tryz.prog.looks []:=by kernel_rfl
theorem QBe:false=Rows.resizeSoundRow.goesBy Tryz.prog:=by kernel_rfl
end Go.Proofs.YtackngeeehiegaaGreatDoor
