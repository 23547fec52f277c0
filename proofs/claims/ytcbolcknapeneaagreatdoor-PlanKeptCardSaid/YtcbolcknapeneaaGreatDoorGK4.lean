/-
  New promises change no job that had one, or may not start; who has none then fits nowhere. No condition.
  PlanKept: New promises change no job that had one, or may not start; who has none then fits nowhere. No condition.
-/
import Derived.Test.YtcbolcknapeneaaGreatDoorGK2
import Derived.Test.YtcbolcknapeneaaGreatDoorGK3
import Derived.Test.YtcbolcknapeneaaGreatDoorTie
import Derived.Test.YtcbolcknapeneaaGreatDoorCards
import Derived.Test.YtcbolcknapeneaaGreatDoorRows
import Derived.ProofKit
import Derived.LaidMore
import Derived.OpenShut
import Derived.SevenTiedAt
namespace Go.Proofs.YtcbolcknapeneaaGreatDoor
set_option linter.unusedSimpArgs false
set_option linter.unusedVariables false
open Go.Fw Go.RowKit Go.ChangeShapes Go.WideShapes
theorem lawOwn:ownKnob Tryz.prog.godebug=none:=by kernel_rfl
theorem lawLaid:laidOutB Tryz.prog=true:=by kernel_rfl
theorem lawBool:Tryz.prog.underlying 4 = some .bool:=by kernel_rfl
set_option maxRecDepth 100000 in
theorem lawDoor (os:Os) (args:Array Value):laidMetH Tryz.prog Rows.planKeptRow.laid ((World.doorLaid Tryz.prog 400 os).forCall (fun _ _=>0) ⟨#[],args,[]⟩).memory :=
 laidMetH_of_parts3 (fuel:=8) (laidMet_of_run' 8 (by kernel_rfl) (by kernel_rfl)) (by kernel_rfl) (by kernel_rfl)
set_option maxRecDepth 100000 in
theorem Que (law:∀ (a0:State),State.wf a0->AGives Tryz.prog 4 [State.a a0] [] (.lit (.bool true))) (os:Os) (started:os.Started) (H:Type) (enc:TypeId × Value->H) :
  ReturnsInHanded {} Tryz.checked os 4 .any (fun w args=>(Rows.planKeptSpec.pre enc Tryz.prog Tryz.f4 [] false w args∧laidMetH Tryz.prog Rows.planKeptRow.laid w)∧sizedMet enc Tryz.prog Tryz.f4 (OpenSpec.ofChange Rows.planKeptSpec) false w args)
   (Rows.planKeptSpec.post enc Tryz.prog Tryz.f4 false true false false):=by
 refine Qa9 (C:=Tryz.checked) (tb:=4) lawOwn started (by kernel_rfl) Tryz.func4
  (ChangeSpec.witness_shaped (enc:=enc) (C:=Tryz.checked) (os:=os) (X:=fun w _=>laidMetH Tryz.prog Rows.planKeptRow.laid w) false (World.doorLaid Tryz.prog 400 os) #[.agg #[.int .i64 0,.slice none 0 0,.slice none 0 0,.slice none 0 0,.slice none 0 0,.slice none 0 0,.int .i64 0,.int .i64 0]] 8 rfl (World.shaped_of_RefB (by kernel_rfl) (by kernel_rfl)) (by kernel_rfl) (by kernel_rfl) (by kernel_rfl) (lawDoor os _)) rfl (by kernel_rfl) lawBool lawLaid (by kernel_rfl) ?_
  (.cons _ _ _ _ _ (ArgAs.struct rfl readState) .nil) ?_
 ·intro ds hd
  match ds,hd with
  | [_],_=>rfl
 ·rintro l ⟨a0,m0,g0,rfl,rfl⟩
  exact law a0 g0
theorem Qse (law:∀ (a0:State),State.wf a0->AGives Tryz.prog 4 [State.a a0] [] (.lit (.bool true))):Rows.PlanKeptSaid :=
 OpenClaim.holds_of_wide 4 Tryz.f4 rfl rfl rfl rfl rfl rfl rfl ⟨rfl,rfl,rfl,rfl,rfl⟩ rfl rfl rfl rfl rfl planKept_named Tryz.func4 Qte
  (of_decide_eq_true (by kernel_rfl)) (by unfold Func.isWrapper;first|(rw [if_pos (by decide +kernel)];kernel_rfl)|(rw [if_neg (by decide +kernel)];exact ⟨rfl,rfl⟩))
  (fun os started H enc _=>Que law os started H enc)
theorem Q4a (law:∀ (a0:State),State.wf a0->AGives Tryz.prog 4 [State.a a0] [] (.lit (.bool true))):Rows.PlanKeptCardSaid :=
 Claim7.holds_tied_plain_at .later [] [.data, .data, .data, .sentinel, .sentinel] true (true, "f04241f516c1de0454f9c5d07f4c219339be6b9cad62827b7824ea62e3058dc3") true
  (Qse law) (fun _ h=>by cases h) planKept_wbt (fun _ h=>by cases h) planKept_row_tie rfl ⟨rfl,rfl⟩ planKept_main rfl
  (fun f fn hf hfn=>by
   obtain rfl:f = 4:=Option.some.inj (planKept_named.symm.trans hf) |>.symm
   obtain rfl:fn = Tryz.f4:=(Option.some.inj (Tryz.func4.symm.trans hfn)).symm
   exact ⟨planKept_looks,fun j t ht=>by
    rcases j with _|j
    ·obtain rfl:t = 28:=(Option.some.inj ((show Tryz.f4.params[0]? = some 28 by kernel_rfl).symm.trans ht)).symm
     exact (show Tryz.prog.wantsStandIn 28 = false by kernel_rfl)
    ·exact absurd ht (by rw [show Tryz.f4.params[j+1]? = none from Array.getElem?_eq_none (by show Tryz.f4.params.size<=j+1;rw [show Tryz.f4.params.size=1 by kernel_rfl];omega)];exact fun h=>nomatch h)⟩)
  planKept_goes
#print axioms Q4a
end Go.Proofs.YtcbolcknapeneaaGreatDoor
namespace Go.Proofs.YtcbolcknapeneaaGreatDoor
set_option linter.unusedSimpArgs false
set_option linter.unusedVariables false
open Go.Fw
theorem planKept_gives (a:State) (ha:a.wf):AGives Tryz.prog 4 [State.a a] [] (.lit (.bool true)):=by
 have h:=Q4d a (State.wf_szM ha) []
 rw [planKept_true (fun x hx=>Job.wf_u64 (ha.2.2.1.2 x hx)) plan_awake] at h
 exact h
theorem planKept_card:Rows.PlanKeptCardSaid:=Q4a planKept_gives
#print axioms planKept_card
end Go.Proofs.YtcbolcknapeneaaGreatDoor
