/-
  What the beginning of a change of size does is the document's answer. No condition.
  ResizeBegins: What the beginning of a change of size does is the document's answer. No condition.
-/
import Derived.Test.YtackngeeehiegaaGreatDoorRBB2
import Derived.Test.YtackngeeehiegaaGreatDoorRBB4
import Derived.Test.YtackngeeehiegaaGreatDoorTie
import Derived.Test.YtackngeeehiegaaGreatDoorCards
import Derived.Test.YtackngeeehiegaaGreatDoorRows
import Derived.ProofKit
import Derived.LaidMore
import Derived.OpenShut
import Derived.SevenTiedAt
import Derived.Test.YtackngeeehiegaaGreatDoorRBB3
namespace Go.Proofs.YtackngeeehiegaaGreatDoor
set_option linter.unusedSimpArgs false
set_option linter.unusedVariables false
open Go.Fw Go.RowKit Go.ChangeShapes Go.WideShapes
theorem lawOwn:ownKnob Tryz.prog.godebug=none:=by kernel_rfl
theorem lawLaid:laidOutB Tryz.prog=true:=by kernel_rfl
theorem lawBool:Tryz.prog.underlying 4 = some .bool:=by kernel_rfl
set_option maxRecDepth 100000 in
theorem lawDoor (os:Os) (args:Array Value):laidMetH Tryz.prog Rows.resizeBeginsRow.laid ((World.doorLaid Tryz.prog 400 os).forCall (fun _ _=>0) ⟨#[],args,[]⟩).memory :=
 laidMetH_of_parts3 (fuel:=8) (laidMet_of_run' 8 (by kernel_rfl) (by kernel_rfl)) (by kernel_rfl) (by kernel_rfl)
set_option maxRecDepth 100000 in
theorem Qzc (law:∀ (a0:State) (a1:Int) (a2:Int),State.wf a0->(Lit.int .i64 a1).wf=true->(Lit.int .i64 a2).wf=true->AGives Tryz.prog 3 [State.a a0,.lit (.int .i64 a1),.lit (.int .i64 a2)] [] (.lit (.bool true))) (os:Os) (started:os.Started) (H:Type) (enc:TypeId × Value->H) :
  ReturnsInHanded {} Tryz.checked os 3 .any (fun w args=>(Rows.resizeBeginsSpec.pre enc Tryz.prog Tryz.f3 [] false w args∧laidMetH Tryz.prog Rows.resizeBeginsRow.laid w)∧sizedMet enc Tryz.prog Tryz.f3 (OpenSpec.ofChange Rows.resizeBeginsSpec) false w args)
   (Rows.resizeBeginsSpec.post enc Tryz.prog Tryz.f3 false true false false):=by
 refine QHg (C:=Tryz.checked) (tb:=4) lawOwn started (by kernel_rfl) Tryz.func3
  (ChangeSpec.witness_shaped (enc:=enc) (C:=Tryz.checked) (os:=os) (X:=fun w _=>laidMetH Tryz.prog Rows.resizeBeginsRow.laid w) false (World.doorLaid Tryz.prog 400 os) #[.agg #[.int .i64 0,.slice none 0 0,.slice none 0 0,.slice none 0 0,.slice none 0 0,.slice none 0 0,.int .i64 0,.int .i64 0],.int .i64 0,.int .i64 0] 8 rfl (World.shaped_of_RefB (by kernel_rfl) (by kernel_rfl)) (by kernel_rfl) (by kernel_rfl) (by kernel_rfl) (lawDoor os _)) rfl (by kernel_rfl) lawBool lawLaid (by kernel_rfl) ?_
  (.cons _ _ _ _ _ (ArgAs.struct rfl readState) (.cons _ _ _ _ _ (ArgAs.int ty0) (.cons _ _ _ _ _ (ArgAs.int ty0) .nil))) ?_
 ·intro ds hd
  match ds,hd with
  | [_,_,_],_=>rfl
 ·rintro l ⟨a0,m0,g0,⟨a1,m1,g1,⟨a2,m2,g2,rfl,rfl⟩,rfl⟩,rfl⟩;exact law a0 a1 a2 g0 g1 g2
theorem Qxc (law:∀ (a0:State) (a1:Int) (a2:Int),State.wf a0->(Lit.int .i64 a1).wf=true->(Lit.int .i64 a2).wf=true->AGives Tryz.prog 3 [State.a a0,.lit (.int .i64 a1),.lit (.int .i64 a2)] [] (.lit (.bool true))):Rows.ResizeBeginsSaid :=
 OpenClaim.holds_of_wide 3 Tryz.f3 rfl rfl rfl rfl rfl rfl rfl ⟨rfl,rfl,rfl,rfl,rfl⟩ rfl rfl rfl rfl rfl resizeBegins_named Tryz.func3 Qyc
  (yda (by kernel_rfl)) (by unfold Func.isWrapper;first|(rw [if_pos (by decide +kernel)];kernel_rfl)|(rw [if_neg (by decide +kernel)];exact ⟨rfl,rfl⟩))
  (fun os started H enc _=>Qzc law os started H enc)
theorem QC9 (law:∀ (a0:State) (a1:Int) (a2:Int),State.wf a0->(Lit.int .i64 a1).wf=true->(Lit.int .i64 a2).wf=true->AGives Tryz.prog 3 [State.a a0,.lit (.int .i64 a1),.lit (.int .i64 a2)] [] (.lit (.bool true))):Rows.ResizeBeginsCardSaid :=
 Claim7.holds_tied_plain_at .later [] [.data, .data, .data, .sentinel, .sentinel] true (true, "0d9f5ecd6f9e78159df61c7f547d7bc6bd943f0def6562f313832cbb46e3e19e") true
  (Qxc law) (fun _ h=>by cases h) QNf (fun _ h=>by cases h) resizeBegins_row_tie rfl ⟨rfl,rfl⟩ Qqe rfl
  (fun f fn hf hfn=>by
   obtain rfl:f = 3:=Option.some.inj (resizeBegins_named.symm.trans hf) |>.symm;obtain rfl:fn = Tryz.f3:=(Option.some.inj (Tryz.func3.symm.trans hfn)).symm
   exact ⟨QFd,fun j t ht=>by
    rcases j with _|_|_|j
    ·obtain rfl:t = 28:=(Option.some.inj ((show Tryz.f3.params[0]? = some 28 by kernel_rfl).symm.trans ht)).symm;exact (show Tryz.prog.wantsStandIn 28 = false by kernel_rfl)
    ·obtain rfl:t = 3:=(Option.some.inj ((show Tryz.f3.params[1]? = some 3 by kernel_rfl).symm.trans ht)).symm;exact (show Tryz.prog.wantsStandIn 3 = false by kernel_rfl)
    ·obtain rfl:t = 3:=(Option.some.inj ((show Tryz.f3.params[2]? = some 3 by kernel_rfl).symm.trans ht)).symm;exact (show Tryz.prog.wantsStandIn 3 = false by kernel_rfl)
    ·exact absurd ht (by rw [show Tryz.f3.params[j+3]? = none from ynb (by show Tryz.f3.params.size<=j+3;rw [show Tryz.f3.params.size=3 by kernel_rfl];omega)];exact fun h=>nomatch h)⟩)
  Qpe
#print axioms QC9
end Go.Proofs.YtackngeeehiegaaGreatDoor
namespace Go.Proofs.YtackngeeehiegaaGreatDoor
set_option linter.unusedSimpArgs false
set_option linter.unusedVariables false
open Go.Fw
theorem QEd (a:State) (b c:Int) (ha:a.wf) (_:(Lit.int .i64 b).wf=true) (_:(Lit.int .i64 c).wf=true):AGives Tryz.prog 3 [State.a a,.lit (.int .i64 b),.lit (.int .i64 c)] [] (.lit (.bool true)):=by
 have h:=QWb a b c (State.wf_szM ha) (WU.wf ha) [];rw [Qre (WU.wf ha) resize_awake] at h;exact h
theorem resizeBegins_card:Rows.ResizeBeginsCardSaid:=QC9 QEd
#print axioms resizeBegins_card
end Go.Proofs.YtackngeeehiegaaGreatDoor
