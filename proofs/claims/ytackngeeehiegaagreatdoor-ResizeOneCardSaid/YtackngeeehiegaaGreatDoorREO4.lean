/-
  Whatever is answered, the state may be; the job's nodes are what they were, or all that were asked are joined or left. No condition.
  ResizeOne: Whatever is answered, the state may be; the job's nodes are what they were, or all that were asked are joined or left. No condition.
-/
import Derived.Test.YtackngeeehiegaaGreatDoorREO2
import Derived.Test.YtackngeeehiegaaGreatDoorREO3
import Derived.Test.YtackngeeehiegaaGreatDoorTie
import Derived.Test.YtackngeeehiegaaGreatDoorCards
import Derived.Test.YtackngeeehiegaaGreatDoorRows
import Derived.ProofKit
import Derived.LaidMore
import Derived.OpenShut
import Derived.SevenTiedAt
import Derived.Test.YtackngeeehiegaaGreatDoorREO1
namespace Go.Proofs.YtackngeeehiegaaGreatDoor
set_option linter.unusedSimpArgs false
set_option linter.unusedVariables false
open Go.Fw Go.RowKit Go.ChangeShapes Go.WideShapes
theorem lawOwn:ownKnob Tryz.prog.godebug=none:=by kernel_rfl
theorem lawLaid:laidOutB Tryz.prog=true:=by kernel_rfl
theorem lawBool:Tryz.prog.underlying 4 = some .bool:=by kernel_rfl
set_option maxRecDepth 100000 in
theorem lawDoor (os:Os) (args:Array Value):laidMetH Tryz.prog Rows.resizeOneRow.laid ((World.doorLaid Tryz.prog 400 os).forCall (fun _ _=>0) ⟨#[],args,[]⟩).memory :=
 laidMetH_of_parts3 (fuel:=8) (laidMet_of_run' 8 (by kernel_rfl) (by kernel_rfl)) (by kernel_rfl) (by kernel_rfl)
set_option maxRecDepth 100000 in
theorem Qhd (law:∀ (a0:State) (a1:Note) (a2:Int),State.wf a0->Note.wf a1->(Lit.int .i64 a2).wf=true->AGives Tryz.prog 6 [State.a a0,Note.a a1,.lit (.int .i64 a2)] [] (.lit (.bool true))) (os:Os) (started:os.Started) (H:Type) (enc:TypeId × Value->H) :
  ReturnsInHanded {} Tryz.checked os 6 .any (fun w args=>(Rows.resizeOneSpec.pre enc Tryz.prog Tryz.f6 [] false w args∧laidMetH Tryz.prog Rows.resizeOneRow.laid w)∧sizedMet enc Tryz.prog Tryz.f6 (OpenSpec.ofChange Rows.resizeOneSpec) false w args)
   (Rows.resizeOneSpec.post enc Tryz.prog Tryz.f6 false true false false):=by
 refine Qd9 (C:=Tryz.checked) (tb:=4) lawOwn started (by kernel_rfl) Tryz.func6
  (ChangeSpec.witness_shaped (enc:=enc) (C:=Tryz.checked) (os:=os) (X:=fun w _=>laidMetH Tryz.prog Rows.resizeOneRow.laid w) false (World.doorLaid Tryz.prog 400 os) #[.agg #[.int .i64 0,.slice none 0 0,.slice none 0 0,.slice none 0 0,.slice none 0 0,.slice none 0 0,.int .i64 0,.int .i64 0],.agg #[.int .i64 0,.int .i64 0,.int .i64 0,.int .i64 0],.int .i64 0] 8 rfl (World.shaped_of_RefB (by kernel_rfl) (by kernel_rfl)) (by kernel_rfl) (by kernel_rfl) (by kernel_rfl) (lawDoor os _)) rfl (by kernel_rfl) lawBool lawLaid (by kernel_rfl) ?_
  (.cons _ _ _ _ _ (ArgAs.struct rfl readState) (.cons _ _ _ _ _ (ArgAs.struct rfl readNote) (.cons _ _ _ _ _ (ArgAs.int ty0) .nil))) ?_
 ·intro ds hd
  match ds,hd with
  | [_,_,_],_=>rfl
 ·rintro l ⟨a0,m0,g0,⟨a1,m1,g1,⟨a2,m2,g2,rfl,rfl⟩,rfl⟩,rfl⟩
  exact law a0 a1 a2 g0 g1 g2
theorem Qfd (law:∀ (a0:State) (a1:Note) (a2:Int),State.wf a0->Note.wf a1->(Lit.int .i64 a2).wf=true->AGives Tryz.prog 6 [State.a a0,Note.a a1,.lit (.int .i64 a2)] [] (.lit (.bool true))):Rows.ResizeOneSaid :=
 OpenClaim.holds_of_wide 6 Tryz.f6 rfl rfl rfl rfl rfl rfl rfl ⟨rfl,rfl,rfl,rfl,rfl⟩ rfl rfl rfl rfl rfl resizeOne_named Tryz.func6 Qgd
  (of_decide_eq_true (by kernel_rfl)) (by unfold Func.isWrapper;first|(rw [if_pos (by decide +kernel)];kernel_rfl)|(rw [if_neg (by decide +kernel)];exact ⟨rfl,rfl⟩))
  (fun os started H enc _=>Qhd law os started H enc)
theorem Qo9 (law:∀ (a0:State) (a1:Note) (a2:Int),State.wf a0->Note.wf a1->(Lit.int .i64 a2).wf=true->AGives Tryz.prog 6 [State.a a0,Note.a a1,.lit (.int .i64 a2)] [] (.lit (.bool true))):Rows.ResizeOneCardSaid :=
 Claim7.holds_tied_plain_at .later [] [.data, .data, .data, .sentinel, .sentinel] true (true, "0d9f5ecd6f9e78159df61c7f547d7bc6bd943f0def6562f313832cbb46e3e19e") true
  (Qfd law) (fun _ h=>by cases h) resizeOne_wbt (fun _ h=>by cases h) resizeOne_row_tie rfl ⟨rfl,rfl⟩ resizeOne_main rfl
  (fun f fn hf hfn=>by
   obtain rfl:f = 6:=Option.some.inj (resizeOne_named.symm.trans hf) |>.symm
   obtain rfl:fn = Tryz.f6:=(Option.some.inj (Tryz.func6.symm.trans hfn)).symm
   exact ⟨QKe,fun j t ht=>by
    rcases j with _|_|_|j
    ·obtain rfl:t = 28:=(Option.some.inj ((show Tryz.f6.params[0]? = some 28 by kernel_rfl).symm.trans ht)).symm
     exact (show Tryz.prog.wantsStandIn 28 = false by kernel_rfl)
    ·obtain rfl:t = 41:=(Option.some.inj ((show Tryz.f6.params[1]? = some 41 by kernel_rfl).symm.trans ht)).symm
     exact (show Tryz.prog.wantsStandIn 41 = false by kernel_rfl)
    ·obtain rfl:t = 3:=(Option.some.inj ((show Tryz.f6.params[2]? = some 3 by kernel_rfl).symm.trans ht)).symm
     exact (show Tryz.prog.wantsStandIn 3 = false by kernel_rfl)
    ·exact absurd ht (by rw [show Tryz.f6.params[j+3]? = none from Array.getElem?_eq_none (by show Tryz.f6.params.size<=j+3;rw [show Tryz.f6.params.size=3 by kernel_rfl];omega)];exact fun h=>nomatch h)⟩)
  resizeOne_goes
#print axioms Qo9
end Go.Proofs.YtackngeeehiegaaGreatDoor
namespace Go.Proofs.YtackngeeehiegaaGreatDoor
set_option linter.unusedSimpArgs false
set_option linter.unusedVariables false
open Go.Fw
theorem QJe (a:State) (b:Note) (c:Int) (ha:a.wf) (_:b.wf) (_:(Lit.int .i64 c).wf=true):AGives Tryz.prog 6 [State.a a,Note.a b,.lit (.int .i64 c)] [] (.lit (.bool true)):=by
 have h:=Q9c a b c (State.wf_szM ha) (WU.wf ha) []
 rw [resizeOne_true (WU.wf ha) QPc] at h
 exact h
theorem resizeOne_card:Rows.ResizeOneCardSaid:=Qo9 QJe
#print axioms resizeOne_card
end Go.Proofs.YtackngeeehiegaaGreatDoor
