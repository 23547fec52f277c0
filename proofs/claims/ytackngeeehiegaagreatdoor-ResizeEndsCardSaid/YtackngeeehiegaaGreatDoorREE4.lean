/-
  Behind an end, a refusal, or as many agreements as nodes were asked, a change of size is over. No condition.
  ResizeEnds: Behind an end, a refusal, or as many agreements as nodes were asked, a change of size is over. No condition.
-/
import Derived.Test.YtackngeeehiegaaGreatDoorREE1
import Derived.Test.YtackngeeehiegaaGreatDoorREE3
import Derived.Test.YtackngeeehiegaaGreatDoorTie
import Derived.Test.YtackngeeehiegaaGreatDoorCards
import Derived.Test.YtackngeeehiegaaGreatDoorRows
import Derived.ProofKit
import Derived.LaidMore
import Derived.OpenShut
import Derived.SevenTiedAt
import Derived.Test.YtackngeeehiegaaGreatDoorREE2
namespace Go.Proofs.YtackngeeehiegaaGreatDoor
set_option linter.unusedSimpArgs false
set_option linter.unusedVariables false
open Go.Fw Go.RowKit Go.ChangeShapes Go.WideShapes
theorem lawOwn:ownKnob Tryz.prog.godebug=none:=by kernel_rfl
theorem lawLaid:laidOutB Tryz.prog=true:=by kernel_rfl
theorem lawBool:Tryz.prog.underlying 4 = some .bool:=by kernel_rfl
set_option maxRecDepth 100000 in
theorem lawDoor (os:Os) (args:Array Value):laidMetH Tryz.prog Rows.resizeEndsRow.laid ((World.doorLaid Tryz.prog 400 os).forCall (fun _ _=>0) ⟨#[],args,[]⟩).memory :=
 laidMetH_of_parts3 (fuel:=8) (laidMet_of_run' 8 (by kernel_rfl) (by kernel_rfl)) (by kernel_rfl) (by kernel_rfl)
set_option maxRecDepth 100000 in
theorem Qnc (law:∀ (a0:State) (a1:Int) (a2:Bool),State.wf a0->(Lit.int .i64 a1).wf=true->True->AGives Tryz.prog 5 [State.a a0,.lit (.int .i64 a1),.lit (.bool a2)] [] (.lit (.bool true))) (os:Os) (started:os.Started) (H:Type) (enc:TypeId × Value->H) :
  ReturnsInHanded {} Tryz.checked os 5 .any (fun w args=>(Rows.resizeEndsSpec.pre enc Tryz.prog Tryz.f5 [] false w args∧laidMetH Tryz.prog Rows.resizeEndsRow.laid w)∧sizedMet enc Tryz.prog Tryz.f5 (OpenSpec.ofChange Rows.resizeEndsSpec) false w args)
   (Rows.resizeEndsSpec.post enc Tryz.prog Tryz.f5 false true false false):=by
 refine Qd9 (C:=Tryz.checked) (tb:=4) lawOwn started (by kernel_rfl) Tryz.func5
  (ChangeSpec.witness_shaped (enc:=enc) (C:=Tryz.checked) (os:=os) (X:=fun w _=>laidMetH Tryz.prog Rows.resizeEndsRow.laid w) false (World.doorLaid Tryz.prog 400 os) #[.agg #[.int .i64 0,.slice none 0 0,.slice none 0 0,.slice none 0 0,.slice none 0 0,.slice none 0 0,.int .i64 0,.int .i64 0],.int .i64 0,.bool false] 8 rfl (World.shaped_of_RefB (by kernel_rfl) (by kernel_rfl)) (by kernel_rfl) (by kernel_rfl) (by kernel_rfl) (lawDoor os _)) rfl (by kernel_rfl) lawBool lawLaid (by kernel_rfl) ?_
  (.cons _ _ _ _ _ (ArgAs.struct rfl readState) (.cons _ _ _ _ _ (ArgAs.int ty0) (.cons _ _ _ _ _ (ArgAs.bool ty1) .nil))) ?_
 ·intro ds hd
  match ds,hd with
  | [_,_,_],_=>rfl
 ·rintro l ⟨a0,m0,g0,⟨a1,m1,g1,⟨a2,m2,g2,rfl,rfl⟩,rfl⟩,rfl⟩
  exact law a0 a1 a2 g0 g1 g2
theorem Qlc (law:∀ (a0:State) (a1:Int) (a2:Bool),State.wf a0->(Lit.int .i64 a1).wf=true->True->AGives Tryz.prog 5 [State.a a0,.lit (.int .i64 a1),.lit (.bool a2)] [] (.lit (.bool true))):Rows.ResizeEndsSaid :=
 OpenClaim.holds_of_wide 5 Tryz.f5 rfl rfl rfl rfl rfl rfl rfl ⟨rfl,rfl,rfl,rfl,rfl⟩ rfl rfl rfl rfl rfl resizeEnds_named Tryz.func5 Qmc
  (of_decide_eq_true (by kernel_rfl)) (by unfold Func.isWrapper;first|(rw [if_pos (by decide +kernel)];kernel_rfl)|(rw [if_neg (by decide +kernel)];exact ⟨rfl,rfl⟩))
  (fun os started H enc _=>Qnc law os started H enc)
theorem QU8 (law:∀ (a0:State) (a1:Int) (a2:Bool),State.wf a0->(Lit.int .i64 a1).wf=true->True->AGives Tryz.prog 5 [State.a a0,.lit (.int .i64 a1),.lit (.bool a2)] [] (.lit (.bool true))):Rows.ResizeEndsCardSaid :=
 Claim7.holds_tied_plain_at .later [] [.data, .data, .data, .sentinel, .sentinel] true (true, "0d9f5ecd6f9e78159df61c7f547d7bc6bd943f0def6562f313832cbb46e3e19e") true
  (Qlc law) (fun _ h=>by cases h) resizeEnds_wbt (fun _ h=>by cases h) resizeEnds_row_tie rfl ⟨rfl,rfl⟩ QHe rfl
  (fun f fn hf hfn=>by
   obtain rfl:f = 5:=Option.some.inj (resizeEnds_named.symm.trans hf) |>.symm
   obtain rfl:fn = Tryz.f5:=(Option.some.inj (Tryz.func5.symm.trans hfn)).symm
   exact ⟨Qed,fun j t ht=>by
    rcases j with _|_|_|j
    ·obtain rfl:t = 28:=(Option.some.inj ((show Tryz.f5.params[0]? = some 28 by kernel_rfl).symm.trans ht)).symm
     exact (show Tryz.prog.wantsStandIn 28 = false by kernel_rfl)
    ·obtain rfl:t = 3:=(Option.some.inj ((show Tryz.f5.params[1]? = some 3 by kernel_rfl).symm.trans ht)).symm
     exact (show Tryz.prog.wantsStandIn 3 = false by kernel_rfl)
    ·obtain rfl:t = 4:=(Option.some.inj ((show Tryz.f5.params[2]? = some 4 by kernel_rfl).symm.trans ht)).symm
     exact (show Tryz.prog.wantsStandIn 4 = false by kernel_rfl)
    ·exact absurd ht (by rw [show Tryz.f5.params[j+3]? = none from Array.getElem?_eq_none (by show Tryz.f5.params.size<=j+3;rw [show Tryz.f5.params.size=3 by kernel_rfl];omega)];exact fun h=>nomatch h)⟩)
  QGe
#print axioms QU8
end Go.Proofs.YtackngeeehiegaaGreatDoor
namespace Go.Proofs.YtackngeeehiegaaGreatDoor
set_option linter.unusedSimpArgs false
set_option linter.unusedVariables false
open Go.Fw
theorem Qdd (a:State) (b:Int) (c:Bool) (ha:a.wf) (_:(Lit.int .i64 b).wf=true) (_:True):AGives Tryz.prog 5 [State.a a,.lit (.int .i64 b),.lit (.bool c)] [] (.lit (.bool true)):=by
 have h:=Qhb a b c (State.wf_szM ha) (WU.wf ha) []
 rw [QIe (WU.wf ha) QPc] at h
 exact h
theorem resizeEnds_card:Rows.ResizeEndsCardSaid:=QU8 Qdd
#print axioms resizeEnds_card
end Go.Proofs.YtackngeeehiegaaGreatDoor
