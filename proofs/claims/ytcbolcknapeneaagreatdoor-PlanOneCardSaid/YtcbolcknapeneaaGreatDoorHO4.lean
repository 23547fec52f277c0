/-
  What a job can be promised, and whether a plan is sound, is the document's answer. No condition.
  PlanOne: What a job can be promised, and whether a plan is sound, is the document's answer. No condition.
-/
import Derived.Test.YtcbolcknapeneaaGreatDoorHO2
import Derived.Test.YtcbolcknapeneaaGreatDoorHO3
import Derived.Test.YtcbolcknapeneaaGreatDoorTie
import Derived.Test.YtcbolcknapeneaaGreatDoorCards
import Derived.Test.YtcbolcknapeneaaGreatDoorRows
import Derived.ProofKit
import Derived.LaidMore
import Derived.OpenShut
import Derived.SevenTiedAt
namespace Go.Proofs.YtcbolcknapeneaaGreatDoor
set_option linter.unusedSimpArgs false
set_option linter.unusedVariables false
open Go.Fw Go.RowKit Go.ChangeShapes Go.WideShapes
theorem lawOwn:ownKnob Tryz.prog.godebug=none:=by kernel_rfl
theorem lawLaid:laidOutB Tryz.prog=true:=by kernel_rfl
theorem lawBool:Tryz.prog.underlying 4 = some .bool:=by kernel_rfl
set_option maxRecDepth 100000 in
theorem lawDoor (os:Os) (args:Array Value):laidMetH Tryz.prog Rows.planOneRow.laid ((World.doorLaid Tryz.prog 400 os).forCall (fun _ _=>0) ⟨#[],args,[]⟩).memory :=
 laidMetH_of_parts3 (fuel:=8) (laidMet_of_run' 8 (by kernel_rfl) (by kernel_rfl)) (by kernel_rfl) (by kernel_rfl)
set_option maxRecDepth 100000 in
theorem planOne_lifted (law:∀ (a0:State) (a1:Job) (a2:Int),State.wf a0->Job.wf a1->(Lit.int .i64 a2).wf=true->AGives Tryz.prog 3 [State.a a0,Job.a a1,.lit (.int .i64 a2)] [] (.lit (.bool true))) (os:Os) (started:os.Started) (H:Type) (enc:TypeId × Value->H) :
  ReturnsInHanded {} Tryz.checked os 3 .any (fun w args=>(Rows.planOneSpec.pre enc Tryz.prog Tryz.f3 [] false w args∧laidMetH Tryz.prog Rows.planOneRow.laid w)∧sizedMet enc Tryz.prog Tryz.f3 (OpenSpec.ofChange Rows.planOneSpec) false w args)
   (Rows.planOneSpec.post enc Tryz.prog Tryz.f3 false true false false):=by
 refine QQd (C:=Tryz.checked) (tb:=4) lawOwn started (by kernel_rfl) Tryz.func3
  (ChangeSpec.witness_shaped (enc:=enc) (C:=Tryz.checked) (os:=os) (X:=fun w _=>laidMetH Tryz.prog Rows.planOneRow.laid w) false (World.doorLaid Tryz.prog 400 os) #[.agg #[.int .i64 0,.slice none 0 0,.slice none 0 0,.slice none 0 0,.slice none 0 0,.slice none 0 0,.int .i64 0,.int .i64 0],.agg #[.int .i64 0,.string ⟨#[]⟩,.string ⟨#[]⟩,.string ⟨#[]⟩,.int .i64 0,.slice none 0 0,.int .i64 0,.int .i64 0,.int .i64 0,.int .i64 0,.slice none 0 0,.int .i64 0,.bool false,.int .i64 0,.int .i64 0,.int .i64 0,.int .i64 0,.int .i64 0,.int .u64 0,.int .i64 0],.int .i64 0] 8 rfl (World.shaped_of_RefB (by kernel_rfl) (by kernel_rfl)) (by kernel_rfl) (by kernel_rfl) (by kernel_rfl) (lawDoor os _)) rfl (by kernel_rfl) lawBool lawLaid (by kernel_rfl) ?_
  (.cons _ _ _ _ _ (ArgAs.struct rfl readState) (.cons _ _ _ _ _ (ArgAs.struct rfl readJob) (.cons _ _ _ _ _ (ArgAs.int ty0) .nil))) ?_
 ·intro ds hd
  match ds,hd with
  | [_,_,_],_=>rfl
 ·rintro l ⟨a0,m0,g0,⟨a1,m1,g1,⟨a2,m2,g2,rfl,rfl⟩,rfl⟩,rfl⟩
  exact law a0 a1 a2 g0 g1 g2
theorem planOne_holds0 (law:∀ (a0:State) (a1:Job) (a2:Int),State.wf a0->Job.wf a1->(Lit.int .i64 a2).wf=true->AGives Tryz.prog 3 [State.a a0,Job.a a1,.lit (.int .i64 a2)] [] (.lit (.bool true))):Rows.PlanOneSaid :=
 OpenClaim.holds_of_wide 3 Tryz.f3 rfl rfl rfl rfl rfl rfl rfl ⟨rfl,rfl,rfl,rfl,rfl⟩ rfl rfl rfl rfl rfl planOne_named Tryz.func3 planOne_joined
  (of_decide_eq_true (by kernel_rfl)) (by unfold Func.isWrapper;first|(rw [if_pos (by decide +kernel)];kernel_rfl)|(rw [if_neg (by decide +kernel)];exact ⟨rfl,rfl⟩))
  (fun os started H enc _=>planOne_lifted law os started H enc)
theorem Qhb (law:∀ (a0:State) (a1:Job) (a2:Int),State.wf a0->Job.wf a1->(Lit.int .i64 a2).wf=true->AGives Tryz.prog 3 [State.a a0,Job.a a1,.lit (.int .i64 a2)] [] (.lit (.bool true))):Rows.PlanOneCardSaid :=
 Claim7.holds_tied_plain_at .later [] [.data, .data, .data, .sentinel, .sentinel] true (true, "f04241f516c1de0454f9c5d07f4c219339be6b9cad62827b7824ea62e3058dc3") true
  (planOne_holds0 law) (fun _ h=>by cases h) planOne_wbt (fun _ h=>by cases h) planOne_row_tie rfl ⟨rfl,rfl⟩ planOne_main rfl
  (fun f fn hf hfn=>by
   obtain rfl:f = 3:=Option.some.inj (planOne_named.symm.trans hf) |>.symm
   obtain rfl:fn = Tryz.f3:=(Option.some.inj (Tryz.func3.symm.trans hfn)).symm
   exact ⟨planOne_looks,fun j t ht=>by
    rcases j with _|_|_|j
    ·obtain rfl:t = 28:=(Option.some.inj ((show Tryz.f3.params[0]? = some 28 by kernel_rfl).symm.trans ht)).symm
     exact (show Tryz.prog.wantsStandIn 28 = false by kernel_rfl)
    ·obtain rfl:t = 35:=(Option.some.inj ((show Tryz.f3.params[1]? = some 35 by kernel_rfl).symm.trans ht)).symm
     exact (show Tryz.prog.wantsStandIn 35 = false by kernel_rfl)
    ·obtain rfl:t = 3:=(Option.some.inj ((show Tryz.f3.params[2]? = some 3 by kernel_rfl).symm.trans ht)).symm
     exact (show Tryz.prog.wantsStandIn 3 = false by kernel_rfl)
    ·exact absurd ht (by rw [show Tryz.f3.params[j+3]? = none from Array.getElem?_eq_none (by show Tryz.f3.params.size<=j+3;rw [show Tryz.f3.params.size=3 by kernel_rfl];omega)];exact fun h=>nomatch h)⟩)
  planOne_goes
#print axioms Qhb
end Go.Proofs.YtcbolcknapeneaaGreatDoor
namespace Go.Proofs.YtcbolcknapeneaaGreatDoor
set_option linter.unusedSimpArgs false
set_option linter.unusedVariables false
open Go.Fw
theorem planOne_gives (a:State) (b:Job) (c:Int) (ha:a.wf) (hb:b.wf) (_:(Lit.int .i64 c).wf=true):AGives Tryz.prog 3 [State.a a,Job.a b,.lit (.int .i64 c)] [] (.lit (.bool true)):=by
 have h:=QPd a b c (State.wf_szM ha) (Job.wf_szM hb) []
 rw [planOne_true (fun x hx=>Job.wf_u64 (ha.2.2.1.2 x hx)) (Job.wf_u64 hb) plan_awake] at h
 exact h
theorem planOne_card:Rows.PlanOneCardSaid:=Qhb planOne_gives
#print axioms planOne_card
end Go.Proofs.YtcbolcknapeneaaGreatDoor
