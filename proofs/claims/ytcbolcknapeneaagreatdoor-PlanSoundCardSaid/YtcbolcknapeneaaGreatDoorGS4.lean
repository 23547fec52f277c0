/-
  What was sound is sound behind new promises; all promised anew is sound. No condition.
  PlanSound: What was sound is sound behind new promises; all promised anew is sound. No condition.
-/
import Derived.Test.YtcbolcknapeneaaGreatDoorGS2
import Derived.Test.YtcbolcknapeneaaGreatDoorGS3
import Derived.Test.YtcbolcknapeneaaGreatDoorTie
import Derived.Test.YtcbolcknapeneaaGreatDoorCards
import Derived.Test.YtcbolcknapeneaaGreatDoorRows
import Derived.ProofKit
import Derived.LaidMore
import Derived.OpenShut
import Derived.SevenTiedAt
namespace Go.Proofs.YtcbolcknapeneaaGreatDoor
set_option linter.unusedSimpArgs false
set_option linter.unusedVariables false
open Go.Fw Go.RowKit Go.ChangeShapes Go.WideShapes
theorem lawOwn:ownKnob Tryz.prog.godebug=none:=by kernel_rfl
theorem lawLaid:laidOutB Tryz.prog=true:=by kernel_rfl
theorem lawBool:Tryz.prog.underlying 4 = some .bool:=by kernel_rfl
set_option maxRecDepth 100000 in
theorem lawDoor (os:Os) (args:Array Value):laidMetH Tryz.prog Rows.planSoundRow.laid ((World.doorLaid Tryz.prog 400 os).forCall (fun _ _=>0) ⟨#[],args,[]⟩).memory :=
 laidMetH_of_parts3 (fuel:=8) (laidMet_of_run' 8 (by kernel_rfl) (by kernel_rfl)) (by kernel_rfl) (by kernel_rfl)
set_option maxRecDepth 100000 in
theorem Q9d (law:∀ (a0:State),State.wf a0->AGives Tryz.prog 5 [State.a a0] [] (.lit (.bool true))) (os:Os) (started:os.Started) (H:Type) (enc:TypeId × Value->H) :
  ReturnsInHanded {} Tryz.checked os 5 .any (fun w args=>(Rows.planSoundSpec.pre enc Tryz.prog Tryz.f5 [] false w args∧laidMetH Tryz.prog Rows.planSoundRow.laid w)∧sizedMet enc Tryz.prog Tryz.f5 (OpenSpec.ofChange Rows.planSoundSpec) false w args)
   (Rows.planSoundSpec.post enc Tryz.prog Tryz.f5 false true false false):=by
 refine Qa9 (C:=Tryz.checked) (tb:=4) lawOwn started (by kernel_rfl) Tryz.func5
  (ChangeSpec.witness_shaped (enc:=enc) (C:=Tryz.checked) (os:=os) (X:=fun w _=>laidMetH Tryz.prog Rows.planSoundRow.laid w) false (World.doorLaid Tryz.prog 400 os) #[.agg #[.int .i64 0,.slice none 0 0,.slice none 0 0,.slice none 0 0,.slice none 0 0,.slice none 0 0,.int .i64 0,.int .i64 0]] 8 rfl (World.shaped_of_RefB (by kernel_rfl) (by kernel_rfl)) (by kernel_rfl) (by kernel_rfl) (by kernel_rfl) (lawDoor os _)) rfl (by kernel_rfl) lawBool lawLaid (by kernel_rfl) ?_
  (.cons _ _ _ _ _ (ArgAs.struct rfl readState) .nil) ?_
 ·intro ds hd
  match ds,hd with
  | [_],_=>rfl
 ·rintro l ⟨a0,m0,g0,rfl,rfl⟩
  exact law a0 g0
theorem Q7d (law:∀ (a0:State),State.wf a0->AGives Tryz.prog 5 [State.a a0] [] (.lit (.bool true))):Rows.PlanSoundSaid :=
 OpenClaim.holds_of_wide 5 Tryz.f5 rfl rfl rfl rfl rfl rfl rfl ⟨rfl,rfl,rfl,rfl,rfl⟩ rfl rfl rfl rfl rfl planSound_named Tryz.func5 Q8d
  (of_decide_eq_true (by kernel_rfl)) (by unfold Func.isWrapper;first|(rw [if_pos (by decide +kernel)];kernel_rfl)|(rw [if_neg (by decide +kernel)];exact ⟨rfl,rfl⟩))
  (fun os started H enc _=>Q9d law os started H enc)
theorem Qh9 (law:∀ (a0:State),State.wf a0->AGives Tryz.prog 5 [State.a a0] [] (.lit (.bool true))):Rows.PlanSoundCardSaid :=
 Claim7.holds_tied_plain_at .later [] [.data, .data, .data, .sentinel, .sentinel] true (true, "f04241f516c1de0454f9c5d07f4c219339be6b9cad62827b7824ea62e3058dc3") true
  (Q7d law) (fun _ h=>by cases h) planSound_wbt (fun _ h=>by cases h) planSound_row_tie rfl ⟨rfl,rfl⟩ planSound_main rfl
  (fun f fn hf hfn=>by
   obtain rfl:f = 5:=Option.some.inj (planSound_named.symm.trans hf) |>.symm
   obtain rfl:fn = Tryz.f5:=(Option.some.inj (Tryz.func5.symm.trans hfn)).symm
   exact ⟨Qwe,fun j t ht=>by
    rcases j with _|j
    ·obtain rfl:t = 28:=(Option.some.inj ((show Tryz.f5.params[0]? = some 28 by kernel_rfl).symm.trans ht)).symm
     exact (show Tryz.prog.wantsStandIn 28 = false by kernel_rfl)
    ·exact absurd ht (by rw [show Tryz.f5.params[j+1]? = none from Array.getElem?_eq_none (by show Tryz.f5.params.size<=j+1;rw [show Tryz.f5.params.size=1 by kernel_rfl];omega)];exact fun h=>nomatch h)⟩)
  planSound_goes
#print axioms Qh9
end Go.Proofs.YtcbolcknapeneaaGreatDoor
namespace Go.Proofs.YtcbolcknapeneaaGreatDoor
set_option linter.unusedSimpArgs false
set_option linter.unusedVariables false
open Go.Fw
theorem Qve (a:State) (ha:a.wf):AGives Tryz.prog 5 [State.a a] [] (.lit (.bool true)):=by
 have h:=Q4c a (State.wf_szM ha) []
 rw [planSound_true (fun x hx=>Job.wf_u64 (ha.2.2.1.2 x hx)) plan_awake] at h
 exact h
theorem planSound_card:Rows.PlanSoundCardSaid:=Qh9 Qve
#print axioms planSound_card
end Go.Proofs.YtcbolcknapeneaaGreatDoor
