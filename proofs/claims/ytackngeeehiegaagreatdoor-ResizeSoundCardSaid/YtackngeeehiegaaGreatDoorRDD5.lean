/-
  A change that is begun changes no promise; what was sound is sound. No condition.
  ResizeSound: A change that is begun changes no promise; what was sound is sound. No condition.
-/
import Derived.Test.YtackngeeehiegaaGreatDoorRDD2
import Derived.Test.YtackngeeehiegaaGreatDoorRDD4
import Derived.Test.YtackngeeehiegaaGreatDoorTie
import Derived.Test.YtackngeeehiegaaGreatDoorCards
import Derived.Test.YtackngeeehiegaaGreatDoorRows
import Derived.ProofKit
import Derived.LaidMore
import Derived.OpenShut
import Derived.SevenTiedAt
import Derived.Test.YtackngeeehiegaaGreatDoorRDD3
namespace Go.Proofs.YtackngeeehiegaaGreatDoor
set_option linter.unusedSimpArgs false
set_option linter.unusedVariables false
open Go.Fw Go.RowKit Go.ChangeShapes Go.WideShapes
theorem lawOwn:ownKnob Tryz.prog.godebug=none:=by kernel_rfl
theorem lawLaid:laidOutB Tryz.prog=true:=by kernel_rfl
theorem lawBool:Tryz.prog.underlying 4 = some .bool:=by kernel_rfl
set_option maxRecDepth 100000 in
theorem lawDoor (os:Os) (args:Array Value):laidMetH Tryz.prog Rows.resizeSoundRow.laid ((World.doorLaid Tryz.prog 400 os).forCall (fun _ _=>0) ⟨#[],args,[]⟩).memory :=
 laidMetH_of_parts3 (fuel:=8) (laidMet_of_run' 8 (by kernel_rfl) (by kernel_rfl)) (by kernel_rfl) (by kernel_rfl)
set_option maxRecDepth 100000 in
theorem QNc (law:∀ (a0:State) (a1:Int) (a2:Int),State.wf a0->(Lit.int .i64 a1).wf=true->(Lit.int .i64 a2).wf=true->AGives Tryz.prog 7 [State.a a0,.lit (.int .i64 a1),.lit (.int .i64 a2)] [] (.lit (.bool true))) (os:Os) (started:os.Started) (H:Type) (enc:TypeId × Value->H) :
  ReturnsInHanded {} Tryz.checked os 7 .any (fun w args=>(Rows.resizeSoundSpec.pre enc Tryz.prog Tryz.f7 [] false w args∧laidMetH Tryz.prog Rows.resizeSoundRow.laid w)∧sizedMet enc Tryz.prog Tryz.f7 (OpenSpec.ofChange Rows.resizeSoundSpec) false w args)
   (Rows.resizeSoundSpec.post enc Tryz.prog Tryz.f7 false true false false):=by
 refine QEf (C:=Tryz.checked) (tb:=4) lawOwn started (by kernel_rfl) Tryz.func7
  (ChangeSpec.witness_shaped (enc:=enc) (C:=Tryz.checked) (os:=os) (X:=fun w _=>laidMetH Tryz.prog Rows.resizeSoundRow.laid w) false (World.doorLaid Tryz.prog 400 os) #[.agg #[.int .i64 0,.slice none 0 0,.slice none 0 0,.slice none 0 0,.slice none 0 0,.slice none 0 0,.int .i64 0,.int .i64 0],.int .i64 0,.int .i64 0] 8 rfl (World.shaped_of_RefB (by kernel_rfl) (by kernel_rfl)) (by kernel_rfl) (by kernel_rfl) (by kernel_rfl) (lawDoor os _)) rfl (by kernel_rfl) lawBool lawLaid (by kernel_rfl) ?_
  (.cons _ _ _ _ _ (ArgAs.struct rfl readState) (.cons _ _ _ _ _ (ArgAs.int ty0) (.cons _ _ _ _ _ (ArgAs.int ty0) .nil))) ?_
 ·intro ds hd
  match ds,hd with
  | [_,_,_],_=>rfl
 ·rintro l ⟨a0,m0,g0,⟨a1,m1,g1,⟨a2,m2,g2,rfl,rfl⟩,rfl⟩,rfl⟩;exact law a0 a1 a2 g0 g1 g2
theorem QLc (law:∀ (a0:State) (a1:Int) (a2:Int),State.wf a0->(Lit.int .i64 a1).wf=true->(Lit.int .i64 a2).wf=true->AGives Tryz.prog 7 [State.a a0,.lit (.int .i64 a1),.lit (.int .i64 a2)] [] (.lit (.bool true))):Rows.ResizeSoundSaid :=
 OpenClaim.holds_of_wide 7 Tryz.f7 rfl rfl rfl rfl rfl rfl rfl ⟨rfl,rfl,rfl,rfl,rfl⟩ rfl rfl rfl rfl rfl resizeSound_named Tryz.func7 QMc
  (yfa (by kernel_rfl)) (by unfold Func.isWrapper;first|(rw [if_pos (by decide +kernel)];kernel_rfl)|(rw [if_neg (by decide +kernel)];exact ⟨rfl,rfl⟩))
  (fun os started H enc _=>QNc law os started H enc)
theorem Qa9 (law:∀ (a0:State) (a1:Int) (a2:Int),State.wf a0->(Lit.int .i64 a1).wf=true->(Lit.int .i64 a2).wf=true->AGives Tryz.prog 7 [State.a a0,.lit (.int .i64 a1),.lit (.int .i64 a2)] [] (.lit (.bool true))):Rows.ResizeSoundCardSaid :=
 Claim7.holds_tied_plain_at .later [] [.data, .data, .data, .sentinel, .sentinel] true (true, "0d9f5ecd6f9e78159df61c7f547d7bc6bd943f0def6562f313832cbb46e3e19e") true
  (QLc law) (fun _ h=>by cases h) Qzg (fun _ h=>by cases h) resizeSound_row_tie rfl ⟨rfl,rfl⟩ QCe rfl
  (fun f fn hf hfn=>by
   obtain rfl:f = 7:=Option.some.inj (resizeSound_named.symm.trans hf) |>.symm;obtain rfl:fn = Tryz.f7:=(Option.some.inj (Tryz.func7.symm.trans hfn)).symm
   exact ⟨QEd,fun j t ht=>by
    rcases j with _|_|_|j
    ·obtain rfl:t = 28:=(Option.some.inj ((show Tryz.f7.params[0]? = some 28 by kernel_rfl).symm.trans ht)).symm;exact (show Tryz.prog.wantsStandIn 28 = false by kernel_rfl)
    ·obtain rfl:t = 3:=(Option.some.inj ((show Tryz.f7.params[1]? = some 3 by kernel_rfl).symm.trans ht)).symm;exact (show Tryz.prog.wantsStandIn 3 = false by kernel_rfl)
    ·obtain rfl:t = 3:=(Option.some.inj ((show Tryz.f7.params[2]? = some 3 by kernel_rfl).symm.trans ht)).symm;exact (show Tryz.prog.wantsStandIn 3 = false by kernel_rfl)
    ·exact absurd ht (by rw [show Tryz.f7.params[j+3]? = none from y9a (by show Tryz.f7.params.size<=j+3;rw [show Tryz.f7.params.size=3 by kernel_rfl];omega)];exact fun h=>nomatch h)⟩)
  QBe
#print axioms Qa9
end Go.Proofs.YtackngeeehiegaaGreatDoor
namespace Go.Proofs.YtackngeeehiegaaGreatDoor
set_option linter.unusedSimpArgs false
set_option linter.unusedVariables false
open Go.Fw
theorem QDd (a:State) (b c:Int) (ha:a.wf) (_:(Lit.int .i64 b).wf=true) (_:(Lit.int .i64 c).wf=true):AGives Tryz.prog 7 [State.a a,.lit (.int .i64 b),.lit (.int .i64 c)] [] (.lit (.bool true)):=by
 have h:=QGb a b c (State.wf_szM ha) (WU.wf ha) [];rw [QDe (WU.wf ha) resize_awake] at h;exact h
theorem resizeSound_card:Rows.ResizeSoundCardSaid:=Qa9 QDd
#print axioms resizeSound_card
end Go.Proofs.YtackngeeehiegaaGreatDoor
