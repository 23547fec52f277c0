/-
  Unless all is planned anew no promise comes later, or is taken, but by a start; only then is something told to be raised. No condition.
  DeedsLater: Unless all is planned anew no promise comes later, or is taken, but by a start; only then is something told to be raised. No condition.
-/
import Derived.Test.YtldebhdmhpopaaaGreatDoorRLL2
import Derived.Test.YtldebhdmhpopaaaGreatDoorRLL3
import Derived.Test.YtldebhdmhpopaaaGreatDoorTie
import Derived.Test.YtldebhdmhpopaaaGreatDoorCards
import Derived.Test.YtldebhdmhpopaaaGreatDoorRows
import Derived.ProofKit
import Derived.LaidMore
import Derived.OpenShut
import Derived.SevenTiedAt
import Derived.Test.YtldebhdmhpopaaaGreatDoorRLL1
namespace Go.Proofs.YtldebhdmhpopaaaGreatDoor
set_option linter.unusedSimpArgs false
set_option linter.unusedVariables false
open Go.Fw Go.RowKit Go.ChangeShapes Go.WideShapes
theorem lawOwn:ownKnob Tryz.prog.godebug=none:=by kernel_rfl
theorem lawLaid:laidOutB Tryz.prog=true:=by kernel_rfl
theorem lawBool:Tryz.prog.underlying 4 = some .bool:=by kernel_rfl
set_option maxRecDepth 100000 in
theorem lawDoor (os:Os) (args:Array Value):laidMetH Tryz.prog Rows.deedsLaterRow.laid ((World.doorLaid Tryz.prog 400 os).forCall (fun _ _=>0) ⟨#[],args,[]⟩).memory :=
 laidMetH_of_parts3 (fuel:=8) (laidMet_of_run' 8 (by kernel_rfl) (by kernel_rfl)) (by kernel_rfl) (by kernel_rfl)
set_option maxRecDepth 100000 in
theorem Qhb (law:∀ (a0:State) (a1:Bool),State.wf a0->True->AGives Tryz.prog 3 [State.a a0,.lit (.bool a1)] [] (.lit (.bool true))) (os:Os) (started:os.Started) (H:Type) (enc:TypeId × Value->H) :
  ReturnsInHanded {} Tryz.checked os 3 .any (fun w args=>(Rows.deedsLaterSpec.pre enc Tryz.prog Tryz.f3 [] false w args∧laidMetH Tryz.prog Rows.deedsLaterRow.laid w)∧sizedMet enc Tryz.prog Tryz.f3 (OpenSpec.ofChange Rows.deedsLaterSpec) false w args)
   (Rows.deedsLaterSpec.post enc Tryz.prog Tryz.f3 false true false false):=by
 refine Qkd (C:=Tryz.checked) (tb:=4) lawOwn started (by kernel_rfl) Tryz.func3
  (ChangeSpec.witness_shaped (enc:=enc) (C:=Tryz.checked) (os:=os) (X:=fun w _=>laidMetH Tryz.prog Rows.deedsLaterRow.laid w) false (World.doorLaid Tryz.prog 400 os) #[.agg #[.int .i64 0,.slice none 0 0,.slice none 0 0,.slice none 0 0,.slice none 0 0,.slice none 0 0,.int .i64 0,.int .i64 0],.bool false] 8 rfl (World.shaped_of_RefB (by kernel_rfl) (by kernel_rfl)) (by kernel_rfl) (by kernel_rfl) (by kernel_rfl) (lawDoor os _)) rfl (by kernel_rfl) lawBool lawLaid (by kernel_rfl) ?_
  (.cons _ _ _ _ _ (ArgAs.struct rfl readState) (.cons _ _ _ _ _ (ArgAs.bool ty1) .nil)) ?_
 ·intro ds hd
  match ds,hd with
  | [_,_],_=>rfl
 ·rintro l ⟨a0,m0,g0,⟨a1,m1,g1,rfl,rfl⟩,rfl⟩
  exact law a0 a1 g0 g1
theorem Qfb (law:∀ (a0:State) (a1:Bool),State.wf a0->True->AGives Tryz.prog 3 [State.a a0,.lit (.bool a1)] [] (.lit (.bool true))):Rows.DeedsLaterSaid :=
 OpenClaim.holds_of_wide 3 Tryz.f3 rfl rfl rfl rfl rfl rfl rfl ⟨rfl,rfl,rfl,rfl,rfl⟩ rfl rfl rfl rfl rfl deedsLater_named Tryz.func3 Qgb
  (of_decide_eq_true (by kernel_rfl)) (by unfold Func.isWrapper;first|(rw [if_pos (by decide +kernel)];kernel_rfl)|(rw [if_neg (by decide +kernel)];exact ⟨rfl,rfl⟩))
  (fun os started H enc _=>Qhb law os started H enc)
theorem Qw8 (law:∀ (a0:State) (a1:Bool),State.wf a0->True->AGives Tryz.prog 3 [State.a a0,.lit (.bool a1)] [] (.lit (.bool true))):Rows.DeedsLaterCardSaid :=
 Claim7.holds_tied_plain_at .later [] [.data, .data, .data, .sentinel, .sentinel] true (true, "a95f2bcdfb03604222caae0f72289376bb28b312adf672ebf6866a3433d03d5e") true
  (Qfb law) (fun _ h=>by cases h) deedsLater_wbt (fun _ h=>by cases h) deedsLater_row_tie rfl ⟨rfl,rfl⟩ QUc rfl
  (fun f fn hf hfn=>by
   obtain rfl:f = 3:=Option.some.inj (deedsLater_named.symm.trans hf) |>.symm
   obtain rfl:fn = Tryz.f3:=(Option.some.inj (Tryz.func3.symm.trans hfn)).symm
   exact ⟨Q8c,fun j t ht=>by
    rcases j with _|_|j
    ·obtain rfl:t = 28:=(Option.some.inj ((show Tryz.f3.params[0]? = some 28 by kernel_rfl).symm.trans ht)).symm
     exact (show Tryz.prog.wantsStandIn 28 = false by kernel_rfl)
    ·obtain rfl:t = 4:=(Option.some.inj ((show Tryz.f3.params[1]? = some 4 by kernel_rfl).symm.trans ht)).symm
     exact (show Tryz.prog.wantsStandIn 4 = false by kernel_rfl)
    ·exact absurd ht (by rw [show Tryz.f3.params[j+2]? = none from Array.getElem?_eq_none (by show Tryz.f3.params.size<=j+2;rw [show Tryz.f3.params.size=2 by kernel_rfl];omega)];exact fun h=>nomatch h)⟩)
  QTc
#print axioms Qw8
end Go.Proofs.YtldebhdmhpopaaaGreatDoor
namespace Go.Proofs.YtldebhdmhpopaaaGreatDoor
set_option linter.unusedSimpArgs false
set_option linter.unusedVariables false
open Go.Fw
theorem Q7c (a:State) (b:Bool) (ha:a.wf) (_:True):AGives Tryz.prog 3 [State.a a,.lit (.bool b)] [] (.lit (.bool true)):=by
 have h:=QHa a b (State.wf_szM ha) []
 rw [QVc deeds_awake] at h
 exact h
theorem deedsLater_card:Rows.DeedsLaterCardSaid:=Qw8 Q7c
#print axioms deedsLater_card
end Go.Proofs.YtldebhdmhpopaaaGreatDoor
