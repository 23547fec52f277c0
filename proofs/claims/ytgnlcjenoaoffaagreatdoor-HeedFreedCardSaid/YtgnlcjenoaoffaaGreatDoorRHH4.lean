/-
  A node that was not free is free behind a note only if that tells that it was released, or fenced, with its epoch; and who is granted a node then gets one that was free, or is that one. No condition.
  HeedFreed: A node that was not free is free behind a note only if that tells that it was released, or fenced, with its epoch; and who is granted a node then gets one that was free, or is that one. No condition.
-/
import Derived.Test.YtgnlcjenoaoffaaGreatDoorRHH2
import Derived.Test.YtgnlcjenoaoffaaGreatDoorRHH3
import Derived.Test.YtgnlcjenoaoffaaGreatDoorTie
import Derived.Test.YtgnlcjenoaoffaaGreatDoorCards
import Derived.Test.YtgnlcjenoaoffaaGreatDoorRows
import Derived.ProofKit
import Derived.LaidMore
import Derived.OpenShut
import Derived.SevenTiedAt
namespace Go.Proofs.YtgnlcjenoaoffaaGreatDoor
set_option linter.unusedSimpArgs false
set_option linter.unusedVariables false
open Go.Fw Go.RowKit Go.ChangeShapes Go.WideShapes
theorem lawOwn:ownKnob Tryz.prog.godebug=none:=by kernel_rfl
theorem lawLaid:laidOutB Tryz.prog=true:=by kernel_rfl
theorem lawBool:Tryz.prog.underlying 4 = some .bool:=by kernel_rfl
set_option maxRecDepth 100000 in
theorem lawDoor (os:Os) (args:Array Value):laidMetH Tryz.prog Rows.heedFreedRow.laid ((World.doorLaid Tryz.prog 400 os).forCall (fun _ _=>0) ⟨#[],args,[]⟩).memory :=
 laidMetH_of_parts3 (fuel:=8) (laidMet_of_run' 8 (by kernel_rfl) (by kernel_rfl)) (by kernel_rfl) (by kernel_rfl)
set_option maxRecDepth 100000 in
theorem Q9d (law:∀ (a0:State) (a1:Note),State.wf a0->Note.wf a1->AGives Tryz.prog 5 [State.a a0,Note.a a1] [] (.lit (.bool true))) (os:Os) (started:os.Started) (H:Type) (enc:TypeId × Value->H) :
  ReturnsInHanded {} Tryz.checked os 5 .any (fun w args=>(Rows.heedFreedSpec.pre enc Tryz.prog Tryz.f5 [] false w args∧laidMetH Tryz.prog Rows.heedFreedRow.laid w)∧sizedMet enc Tryz.prog Tryz.f5 (OpenSpec.ofChange Rows.heedFreedSpec) false w args)
   (Rows.heedFreedSpec.post enc Tryz.prog Tryz.f5 false true false false):=by
 refine Qoe (C:=Tryz.checked) (tb:=4) lawOwn started (by kernel_rfl) Tryz.func5
  (ChangeSpec.witness_shaped (enc:=enc) (C:=Tryz.checked) (os:=os) (X:=fun w _=>laidMetH Tryz.prog Rows.heedFreedRow.laid w) false (World.doorLaid Tryz.prog 400 os) #[.agg #[.int .i64 0,.slice none 0 0,.slice none 0 0,.slice none 0 0,.slice none 0 0,.slice none 0 0,.int .i64 0,.int .i64 0],.agg #[.int .i64 0,.int .i64 0,.int .i64 0,.int .i64 0]] 8 rfl (World.shaped_of_RefB (by kernel_rfl) (by kernel_rfl)) (by kernel_rfl) (by kernel_rfl) (by kernel_rfl) (lawDoor os _)) rfl (by kernel_rfl) lawBool lawLaid (by kernel_rfl) ?_
  (.cons _ _ _ _ _ (ArgAs.struct rfl readState) (.cons _ _ _ _ _ (ArgAs.struct rfl readNote) .nil)) ?_
 ·intro ds hd
  match ds,hd with
  | [_,_],_=>rfl
 ·rintro l ⟨a0,m0,g0,⟨a1,m1,g1,rfl,rfl⟩,rfl⟩;exact law a0 a1 g0 g1
theorem Q7d (law:∀ (a0:State) (a1:Note),State.wf a0->Note.wf a1->AGives Tryz.prog 5 [State.a a0,Note.a a1] [] (.lit (.bool true))):Rows.HeedFreedSaid :=
 OpenClaim.holds_of_wide 5 Tryz.f5 rfl rfl rfl rfl rfl rfl rfl ⟨rfl,rfl,rfl,rfl,rfl⟩ rfl rfl rfl rfl rfl heedFreed_named Tryz.func5 Q8d
  (yca (by kernel_rfl)) (by unfold Func.isWrapper;first|(rw [if_pos (by decide +kernel)];kernel_rfl)|(rw [if_neg (by decide +kernel)];exact ⟨rfl,rfl⟩))
  (fun os started H enc _=>Q9d law os started H enc)
theorem QB9 (law:∀ (a0:State) (a1:Note),State.wf a0->Note.wf a1->AGives Tryz.prog 5 [State.a a0,Note.a a1] [] (.lit (.bool true))):Rows.HeedFreedCardSaid :=
 Claim7.holds_tied_plain_at .later [] [.data, .data, .data, .sentinel, .sentinel] true (true, "ab79425dc42da24502128ae33463c4d4b0400b1f44a0107441ee650d1a9e689e") true
  (Q7d law) (fun _ h=>by cases h) heedFreed_wbt (fun _ h=>by cases h) heedFreed_row_tie rfl ⟨rfl,rfl⟩ heedFreed_main rfl
  (fun f fn hf hfn=>by
   obtain rfl:f = 5:=Option.some.inj (heedFreed_named.symm.trans hf) |>.symm;obtain rfl:fn = Tryz.f5:=(Option.some.inj (Tryz.func5.symm.trans hfn)).symm
   exact ⟨Q7e,fun j t ht=>by
    rcases j with _|_|j
    ·obtain rfl:t = 28:=(Option.some.inj ((show Tryz.f5.params[0]? = some 28 by kernel_rfl).symm.trans ht)).symm;exact (show Tryz.prog.wantsStandIn 28 = false by kernel_rfl)
    ·obtain rfl:t = 30:=(Option.some.inj ((show Tryz.f5.params[1]? = some 30 by kernel_rfl).symm.trans ht)).symm;exact (show Tryz.prog.wantsStandIn 30 = false by kernel_rfl)
    ·exact absurd ht (by rw [show Tryz.f5.params[j+2]? = none from yZa (by show Tryz.f5.params.size<=j+2;rw [show Tryz.f5.params.size=2 by kernel_rfl];omega)];exact fun h=>nomatch h)⟩)
  heedFreed_goes
#print axioms QB9
end Go.Proofs.YtgnlcjenoaoffaaGreatDoor
namespace Go.Proofs.YtgnlcjenoaoffaaGreatDoor
set_option linter.unusedSimpArgs false
set_option linter.unusedVariables false
open Go.Fw
theorem Q6e (a:State) (b:Note) (ha:a.wf) (hb:b.wf):AGives Tryz.prog 5 [State.a a,Note.a b] [] (Bo true):=by
 have h:=Q9c a b (State.wf_szM ha) [];rw [heedFreed_true heed_awake] at h;exact h
theorem heedFreed_card:Rows.HeedFreedCardSaid:=QB9 Q6e
#print axioms heedFreed_card
end Go.Proofs.YtgnlcjenoaoffaaGreatDoor
