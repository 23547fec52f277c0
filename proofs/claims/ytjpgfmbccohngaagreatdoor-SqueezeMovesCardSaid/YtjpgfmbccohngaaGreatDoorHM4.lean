/-
  The program moves promises as the document does, and its due ones are the document's. No condition.
  SqueezeMoves: The program moves promises as the document does, and its due ones are the document's. No condition.
-/
import Derived.Test.YtjpgfmbccohngaaGreatDoorHM2
import Derived.Test.YtjpgfmbccohngaaGreatDoorHM3
import Derived.Test.YtjpgfmbccohngaaGreatDoorTie
import Derived.Test.YtjpgfmbccohngaaGreatDoorCards
import Derived.Test.YtjpgfmbccohngaaGreatDoorRows
import Derived.ProofKit
import Derived.LaidMore
import Derived.OpenShut
import Derived.SevenTiedAt
namespace Go.Proofs.YtjpgfmbccohngaaGreatDoor
set_option linter.unusedSimpArgs false
set_option linter.unusedVariables false
open Go.Fw Go.RowKit Go.ChangeShapes Go.WideShapes
theorem lawOwn:ownKnob Tryz.prog.godebug=none:=by kernel_rfl
theorem lawLaid:laidOutB Tryz.prog=true:=by kernel_rfl
theorem lawBool:Tryz.prog.underlying 4 = some .bool:=by kernel_rfl
set_option maxRecDepth 100000 in
theorem lawDoor (os:Os) (args:Array Value):laidMetH Tryz.prog Rows.squeezeMovesRow.laid ((World.doorLaid Tryz.prog 400 os).forCall (fun _ _=>0) ⟨#[],args,[]⟩).memory :=
 laidMetH_of_parts3 (fuel:=8) (laidMet_of_run' 8 (by kernel_rfl) (by kernel_rfl)) (by kernel_rfl) (by kernel_rfl)
set_option maxRecDepth 100000 in
theorem Qsb (law:∀ (a0:State),State.wf a0->AGives Tryz.prog 6 [State.a a0] [] (.lit (.bool true))) (os:Os) (started:os.Started) (H:Type) (enc:TypeId × Value->H) :
  ReturnsInHanded {} Tryz.checked os 6 .any (fun w args=>(Rows.squeezeMovesSpec.pre enc Tryz.prog Tryz.f6 [] false w args∧laidMetH Tryz.prog Rows.squeezeMovesRow.laid w)∧sizedMet enc Tryz.prog Tryz.f6 (OpenSpec.ofChange Rows.squeezeMovesSpec) false w args)
   (Rows.squeezeMovesSpec.post enc Tryz.prog Tryz.f6 false true false false):=by
 refine Qnf (C:=Tryz.checked) (tb:=4) lawOwn started (by kernel_rfl) Tryz.func6
  (ChangeSpec.witness_shaped (enc:=enc) (C:=Tryz.checked) (os:=os) (X:=fun w _=>laidMetH Tryz.prog Rows.squeezeMovesRow.laid w) false (World.doorLaid Tryz.prog 400 os) #[.agg #[.int .i64 0,.slice none 0 0,.slice none 0 0,.slice none 0 0,.slice none 0 0,.slice none 0 0,.int .i64 0,.int .i64 0]] 8 rfl (World.shaped_of_RefB (by kernel_rfl) (by kernel_rfl)) (by kernel_rfl) (by kernel_rfl) (by kernel_rfl) (lawDoor os _)) rfl (by kernel_rfl) lawBool lawLaid (by kernel_rfl) ?_
  (.cons _ _ _ _ _ (ArgAs.struct rfl readState) .nil) ?_
 ·intro ds hd
  match ds,hd with
  | [_],_=>rfl
 ·rintro l ⟨a0,m0,g0,rfl,rfl⟩
  exact law a0 g0
theorem Qqb (law:∀ (a0:State),State.wf a0->AGives Tryz.prog 6 [State.a a0] [] (.lit (.bool true))):Rows.SqueezeMovesSaid :=
 OpenClaim.holds_of_wide 6 Tryz.f6 rfl rfl rfl rfl rfl rfl rfl ⟨rfl,rfl,rfl,rfl,rfl⟩ rfl rfl rfl rfl rfl squeezeMoves_named Tryz.func6 Qrb
  (of_decide_eq_true (by kernel_rfl)) (by unfold Func.isWrapper;first|(rw [if_pos (by decide +kernel)];kernel_rfl)|(rw [if_neg (by decide +kernel)];exact ⟨rfl,rfl⟩))
  (fun os started H enc _=>Qsb law os started H enc)
theorem QE8 (law:∀ (a0:State),State.wf a0->AGives Tryz.prog 6 [State.a a0] [] (.lit (.bool true))):Rows.SqueezeMovesCardSaid :=
 Claim7.holds_tied_plain_at .later [] [.data, .data, .data, .sentinel, .sentinel] true (true, "dae1aa68f08b665462c7e19f959389dfe4c0d8ff5d812cf9a780a93814aaddea") true
  (Qqb law) (fun _ h=>by cases h) Qve (fun _ h=>by cases h) squeezeMoves_row_tie rfl ⟨rfl,rfl⟩ Qcd rfl
  (fun f fn hf hfn=>by
   obtain rfl:f = 6:=Option.some.inj (squeezeMoves_named.symm.trans hf) |>.symm
   obtain rfl:fn = Tryz.f6:=(Option.some.inj (Tryz.func6.symm.trans hfn)).symm
   exact ⟨Qzc,fun j t ht=>by
    rcases j with _|j
    ·obtain rfl:t = 28:=(Option.some.inj ((show Tryz.f6.params[0]? = some 28 by kernel_rfl).symm.trans ht)).symm
     exact (show Tryz.prog.wantsStandIn 28 = false by kernel_rfl)
    ·exact absurd ht (by rw [show Tryz.f6.params[j+1]? = none from Array.getElem?_eq_none (by show Tryz.f6.params.size<=j+1;rw [show Tryz.f6.params.size=1 by kernel_rfl];omega)];exact fun h=>nomatch h)⟩)
  Qbd
#print axioms QE8
end Go.Proofs.YtjpgfmbccohngaaGreatDoor
namespace Go.Proofs.YtjpgfmbccohngaaGreatDoor
set_option linter.unusedSimpArgs false
set_option linter.unusedVariables false
open Go.Fw
theorem Qyc (a:State) (ha:a.wf):AGives Tryz.prog 6 [State.a a] [] (.lit (.bool true)):=by
 have h:=QNa a (State.wf_szM ha) []
 rw [Qdd (fun x hx=>Job.wf_u64 (ha.2.2.1.2 x hx)) squeeze_awake] at h
 exact h
theorem squeezeMoves_card:Rows.SqueezeMovesCardSaid:=QE8 Qyc
#print axioms squeezeMoves_card
end Go.Proofs.YtjpgfmbccohngaaGreatDoor
