/-
  There is never more room than is free; without a job's claim there is as much more as it claims, while it does. No condition.
  RoomLess: There is never more room than is free; without a job's claim there is as much more as it claims, while it does. No condition.
-/
import Derived.Test.YtiiaifgeekdpaaaGreatDoorGS2
import Derived.Test.YtiiaifgeekdpaaaGreatDoorTie
import Derived.Test.YtiiaifgeekdpaaaGreatDoorCards
import Derived.Test.YtiiaifgeekdpaaaGreatDoorRows
import Derived.ProofKit
import Derived.LaidMore
import Derived.OpenShut
import Derived.SevenTiedAt
import Derived.Test.YtiiaifgeekdpaaaGreatDoorGS1
namespace Go.Proofs.YtiiaifgeekdpaaaGreatDoor
set_option linter.unusedSimpArgs false
set_option linter.unusedVariables false
open Go.Fw Go.RowKit Go.ChangeShapes Go.WideShapes
theorem lawOwn:ownKnob Tryz.prog.godebug=none:=by kernel_rfl
theorem lawLaid:laidOutB Tryz.prog=true:=by kernel_rfl
theorem lawBool:Tryz.prog.underlying 4 = some .bool:=by kernel_rfl
set_option maxRecDepth 100000 in
theorem lawDoor (os:Os) (args:Array Value):laidMetH Tryz.prog Rows.roomLessRow.laid ((World.doorLaid Tryz.prog 400 os).forCall (fun _ _=>0) ⟨#[],args,[]⟩).memory :=
 laidMetH_of_parts3 (fuel:=8) (laidMet_of_run' 8 (by kernel_rfl) (by kernel_rfl)) (by kernel_rfl) (by kernel_rfl)
set_option maxRecDepth 100000 in
theorem Q8c (law:∀ (a0:State) (a1:Int) (a2:Int),State.wf a0->(Lit.int .i64 a1).wf=true->(Lit.int .i64 a2).wf=true->AGives Tryz.prog 6 [State.a a0,.lit (.int .i64 a1),.lit (.int .i64 a2)] [] (.lit (.bool true))) (os:Os) (started:os.Started) (H:Type) (enc:TypeId × Value->H) :
  ReturnsInHanded {} Tryz.checked os 6 .any (fun w args=>(Rows.roomLessSpec.pre enc Tryz.prog Tryz.f6 [] false w args∧laidMetH Tryz.prog Rows.roomLessRow.laid w)∧sizedMet enc Tryz.prog Tryz.f6 (OpenSpec.ofChange Rows.roomLessSpec) false w args)
   (Rows.roomLessSpec.post enc Tryz.prog Tryz.f6 false true false false):=by
 refine Qm6 (C:=Tryz.checked) (tb:=4) lawOwn started (by kernel_rfl) Tryz.func6
  (ChangeSpec.witness_shaped (enc:=enc) (C:=Tryz.checked) (os:=os) (X:=fun w _=>laidMetH Tryz.prog Rows.roomLessRow.laid w) false (World.doorLaid Tryz.prog 400 os) #[.agg #[.int .i64 0,.slice none 0 0,.slice none 0 0,.slice none 0 0,.slice none 0 0,.slice none 0 0,.int .i64 0,.int .i64 0],.int .i64 0,.int .i64 0] 8 rfl (World.shaped_of_RefB (by kernel_rfl) (by kernel_rfl)) (by kernel_rfl) (by kernel_rfl) (by kernel_rfl) (lawDoor os _)) rfl (by kernel_rfl) lawBool lawLaid (by kernel_rfl) ?_
  (.cons _ _ _ _ _ (ArgAs.struct rfl QTb) (.cons _ _ _ _ _ (ArgAs.int ty0) (.cons _ _ _ _ _ (ArgAs.int ty0) .nil))) ?_
 ·intro ds hd
  match ds,hd with
  | [_,_,_],_=>rfl
 ·rintro l ⟨a0,m0,g0,⟨a1,m1,g1,⟨a2,m2,g2,rfl,rfl⟩,rfl⟩,rfl⟩
  exact law a0 a1 a2 g0 g1 g2
theorem Q7c (law:∀ (a0:State) (a1:Int) (a2:Int),State.wf a0->(Lit.int .i64 a1).wf=true->(Lit.int .i64 a2).wf=true->AGives Tryz.prog 6 [State.a a0,.lit (.int .i64 a1),.lit (.int .i64 a2)] [] (.lit (.bool true))):Rows.RoomLessSaid :=
 OpenClaim.holds_of_wide 6 Tryz.f6 rfl rfl rfl rfl rfl rfl rfl ⟨rfl,rfl,rfl,rfl,rfl⟩ rfl rfl rfl rfl rfl (by kernel_rfl) Tryz.func6 (by kernel_rfl)
  (of_decide_eq_true (by kernel_rfl)) (by unfold Func.isWrapper;first|(rw [if_pos (by decide +kernel)];kernel_rfl)|(rw [if_neg (by decide +kernel)];exact ⟨rfl,rfl⟩))
  (fun os started H enc _=>Q8c law os started H enc)
theorem Qu8 (law:∀ (a0:State) (a1:Int) (a2:Int),State.wf a0->(Lit.int .i64 a1).wf=true->(Lit.int .i64 a2).wf=true->AGives Tryz.prog 6 [State.a a0,.lit (.int .i64 a1),.lit (.int .i64 a2)] [] (.lit (.bool true))):Rows.RoomLessCardSaid :=
 Claim7.holds_tied_plain_at .later [] [.data, .data, .data, .sentinel, .sentinel] true (true, "d3e32341b8367b555bd965d08c0025777ca31e742c62422c152c68100ac60a6e") true
  (Q7c law) (fun _ h=>by cases h) (by kernel_rfl) (fun _ h=>by cases h) roomLess_row_tie rfl ⟨rfl,rfl⟩ (by kernel_rfl) rfl
  (fun f fn hf hfn=>by
   obtain rfl : f = 6 := Option.some.inj ((show Tryz.prog.funcNamed "muster/musterlaw20.RoomLess" = some 6 by kernel_rfl).symm.trans hf) |>.symm
   obtain rfl:fn = Tryz.f6:=(Option.some.inj (Tryz.func6.symm.trans hfn)).symm
   exact ⟨by kernel_rfl,fun j t ht=>by
    rcases j with _|_|_|j
    ·obtain rfl:t = 28:=(Option.some.inj ((show Tryz.f6.params[0]? = some 28 by kernel_rfl).symm.trans ht)).symm
     exact (show Tryz.prog.wantsStandIn 28 = false by kernel_rfl)
    ·obtain rfl:t = 3:=(Option.some.inj ((show Tryz.f6.params[1]? = some 3 by kernel_rfl).symm.trans ht)).symm
     exact (show Tryz.prog.wantsStandIn 3 = false by kernel_rfl)
    ·obtain rfl:t = 3:=(Option.some.inj ((show Tryz.f6.params[2]? = some 3 by kernel_rfl).symm.trans ht)).symm
     exact (show Tryz.prog.wantsStandIn 3 = false by kernel_rfl)
    ·exact absurd ht (by rw [show Tryz.f6.params[j+3]? = none from Array.getElem?_eq_none (by show Tryz.f6.params.size<=j+3;rw [show Tryz.f6.params.size=3 by kernel_rfl];omega)];exact fun h=>nomatch h)⟩)
  (by kernel_rfl)
#print axioms Qu8
end Go.Proofs.YtiiaifgeekdpaaaGreatDoor
namespace Go.Proofs.YtiiaifgeekdpaaaGreatDoor
set_option linter.unusedSimpArgs false
set_option linter.unusedVariables false
open Go.Fw
theorem roomLess_gives (a:State) (b c:Int) (ha:a.wf) (_:(Lit.int .i64 b).wf=true) (_:(Lit.int .i64 c).wf=true):AGives Tryz.prog 6 [State.a a,.lit (.int .i64 b),.lit (.int .i64 c)] [] (.lit (.bool true)):=by
 have h:=QUa a b c (State.wf_szM ha) []
 rw [roomLess_true (fun x hx=>Job.wf_u64 (ha.2.2.1.2 x hx)) Qca b c] at h
 exact h
theorem roomLess_card:Rows.RoomLessCardSaid:=Qu8 roomLess_gives
#print axioms roomLess_card
end Go.Proofs.YtiiaifgeekdpaaaGreatDoor
