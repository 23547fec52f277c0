/-
  What is due may start now. No condition.
  SqueezeDue: What is due may start now. No condition.
-/
import Derived.Test.YtjpgfmbccohngaaGreatDoorGD2
import Derived.Test.YtjpgfmbccohngaaGreatDoorGD3
import Derived.Test.YtjpgfmbccohngaaGreatDoorTie
import Derived.Test.YtjpgfmbccohngaaGreatDoorCards
import Derived.Test.YtjpgfmbccohngaaGreatDoorRows
import Derived.ProofKit
import Derived.LaidMore
import Derived.OpenShut
import Derived.SevenTiedAt
namespace Go.Proofs.YtjpgfmbccohngaaGreatDoor
set_option linter.unusedSimpArgs false
set_option linter.unusedVariables false
open Go.Fw Go.RowKit Go.ChangeShapes Go.WideShapes
theorem lawOwn:ownKnob Tryz.prog.godebug=none:=by kernel_rfl
theorem lawLaid:laidOutB Tryz.prog=true:=by kernel_rfl
theorem lawBool:Tryz.prog.underlying 4 = some .bool:=by kernel_rfl
set_option maxRecDepth 100000 in
theorem lawDoor (os:Os) (args:Array Value):laidMetH Tryz.prog Rows.squeezeDueRow.laid ((World.doorLaid Tryz.prog 400 os).forCall (fun _ _=>0) ⟨#[],args,[]⟩).memory :=
 laidMetH_of_parts3 (fuel:=8) (laidMet_of_run' 8 (by kernel_rfl) (by kernel_rfl)) (by kernel_rfl) (by kernel_rfl)
set_option maxRecDepth 100000 in
theorem Qqd (law:∀ (a0:State),State.wf a0->AGives Tryz.prog 10 [State.a a0] [] (.lit (.bool true))) (os:Os) (started:os.Started) (H:Type) (enc:TypeId × Value->H) :
  ReturnsInHanded {} Tryz.checked os 10 .any (fun w args=>(Rows.squeezeDueSpec.pre enc Tryz.prog Tryz.f10 [] false w args∧laidMetH Tryz.prog Rows.squeezeDueRow.laid w)∧sizedMet enc Tryz.prog Tryz.f10 (OpenSpec.ofChange Rows.squeezeDueSpec) false w args)
   (Rows.squeezeDueSpec.post enc Tryz.prog Tryz.f10 false true false false):=by
 refine QI6 (C:=Tryz.checked) (tb:=4) lawOwn started (by kernel_rfl) Tryz.func10
  (ChangeSpec.witness_shaped (enc:=enc) (C:=Tryz.checked) (os:=os) (X:=fun w _=>laidMetH Tryz.prog Rows.squeezeDueRow.laid w) false (World.doorLaid Tryz.prog 400 os) #[.agg #[.int .i64 0,.slice none 0 0,.slice none 0 0,.slice none 0 0,.slice none 0 0,.slice none 0 0,.int .i64 0,.int .i64 0]] 8 rfl (World.shaped_of_RefB (by kernel_rfl) (by kernel_rfl)) (by kernel_rfl) (by kernel_rfl) (by kernel_rfl) (lawDoor os _)) rfl (by kernel_rfl) lawBool lawLaid (by kernel_rfl) ?_
  (.cons _ _ _ _ _ (ArgAs.struct rfl QKg) .nil) ?_
 ·intro ds hd
  match ds,hd with
  | [_],_=>rfl
 ·rintro l ⟨a0,m0,g0,rfl,rfl⟩
  exact law a0 g0
theorem Qod (law:∀ (a0:State),State.wf a0->AGives Tryz.prog 10 [State.a a0] [] (.lit (.bool true))):Rows.SqueezeDueSaid :=
 OpenClaim.holds_of_wide 10 Tryz.f10 rfl rfl rfl rfl rfl rfl rfl ⟨rfl,rfl,rfl,rfl,rfl⟩ rfl rfl rfl rfl rfl squeezeDue_named Tryz.func10 Qpd
  (of_decide_eq_true (by kernel_rfl)) (by unfold Func.isWrapper;first|(rw [if_pos (by decide +kernel)];kernel_rfl)|(rw [if_neg (by decide +kernel)];exact ⟨rfl,rfl⟩))
  (fun os started H enc _=>Qqd law os started H enc)
theorem QU9 (law:∀ (a0:State),State.wf a0->AGives Tryz.prog 10 [State.a a0] [] (.lit (.bool true))):Rows.SqueezeDueCardSaid :=
 Claim7.holds_tied_plain_at .later [] [.data, .data, .data, .sentinel, .sentinel] true (true, "dae1aa68f08b665462c7e19f959389dfe4c0d8ff5d812cf9a780a93814aaddea") true
  (Qod law) (fun _ h=>by cases h) squeezeDue_wbt (fun _ h=>by cases h) squeezeDue_row_tie rfl ⟨rfl,rfl⟩ Q8h rfl
  (fun f fn hf hfn=>by
   obtain rfl:f = 10:=Option.some.inj (squeezeDue_named.symm.trans hf) |>.symm
   obtain rfl:fn = Tryz.f10:=(Option.some.inj (Tryz.func10.symm.trans hfn)).symm
   exact ⟨Qoe,fun j t ht=>by
    rcases j with _|j
    ·obtain rfl:t = 28:=(Option.some.inj ((show Tryz.f10.params[0]? = some 28 by kernel_rfl).symm.trans ht)).symm
     exact (show Tryz.prog.wantsStandIn 28 = false by kernel_rfl)
    ·exact absurd ht (by rw [show Tryz.f10.params[j+1]? = none from Array.getElem?_eq_none (by show Tryz.f10.params.size<=j+1;rw [show Tryz.f10.params.size=1 by kernel_rfl];omega)];exact fun h=>nomatch h)⟩)
  Q7h
#print axioms QU9
end Go.Proofs.YtjpgfmbccohngaaGreatDoor
namespace Go.Proofs.YtjpgfmbccohngaaGreatDoor
set_option linter.unusedSimpArgs false
set_option linter.unusedVariables false
open Go.Fw
theorem Qne (a:State) (ha:a.wf):AGives Tryz.prog 10 [State.a a] [] (.lit (.bool true)):=by
 have h:=Qhc a (State.wf_szM ha) []
 rw [Q9h (fun x hx=>Job.wf_u64 (ha.2.2.1.2 x hx)) QN7] at h
 exact h
theorem squeezeDue_card:Rows.SqueezeDueCardSaid:=QU9 Qne
#print axioms squeezeDue_card
end Go.Proofs.YtjpgfmbccohngaaGreatDoor
