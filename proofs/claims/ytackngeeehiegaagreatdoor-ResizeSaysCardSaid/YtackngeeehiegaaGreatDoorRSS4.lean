/-
  What a note does to a change of size, and what its end does, is the document's answer. No condition.
  ResizeSays: What a note does to a change of size, and what its end does, is the document's answer. No condition.
-/
import Derived.Test.YtackngeeehiegaaGreatDoorRSS2
import Derived.Test.YtackngeeehiegaaGreatDoorRSS3
import Derived.Test.YtackngeeehiegaaGreatDoorTie
import Derived.Test.YtackngeeehiegaaGreatDoorCards
import Derived.Test.YtackngeeehiegaaGreatDoorRows
import Derived.ProofKit
import Derived.LaidMore
import Derived.OpenShut
import Derived.SevenTiedAt
import Derived.Test.YtackngeeehiegaaGreatDoorRSS1
namespace Go.Proofs.YtackngeeehiegaaGreatDoor
set_option linter.unusedSimpArgs false
set_option linter.unusedVariables false
open Go.Fw Go.RowKit Go.ChangeShapes Go.WideShapes
theorem lawOwn:ownKnob Tryz.prog.godebug=none:=by kernel_rfl
theorem lawLaid:laidOutB Tryz.prog=true:=by kernel_rfl
theorem lawBool:Tryz.prog.underlying 4 = some .bool:=by kernel_rfl
set_option maxRecDepth 100000 in
theorem lawDoor (os:Os) (args:Array Value):laidMetH Tryz.prog Rows.resizeSaysRow.laid ((World.doorLaid Tryz.prog 400 os).forCall (fun _ _=>0) ⟨#[],args,[]⟩).memory :=
 laidMetH_of_parts3 (fuel:=8) (laidMet_of_run' 8 (by kernel_rfl) (by kernel_rfl)) (by kernel_rfl) (by kernel_rfl)
set_option maxRecDepth 100000 in
theorem Qjd (law:∀ (a0:State) (a1:Note),State.wf a0->Note.wf a1->AGives Tryz.prog 4 [State.a a0,Note.a a1] [] (.lit (.bool true))) (os:Os) (started:os.Started) (H:Type) (enc:TypeId × Value->H) :
  ReturnsInHanded {} Tryz.checked os 4 .any (fun w args=>(Rows.resizeSaysSpec.pre enc Tryz.prog Tryz.f4 [] false w args∧laidMetH Tryz.prog Rows.resizeSaysRow.laid w)∧sizedMet enc Tryz.prog Tryz.f4 (OpenSpec.ofChange Rows.resizeSaysSpec) false w args)
   (Rows.resizeSaysSpec.post enc Tryz.prog Tryz.f4 false true false false):=by
 refine Qef (C:=Tryz.checked) (tb:=4) lawOwn started (by kernel_rfl) Tryz.func4
  (ChangeSpec.witness_shaped (enc:=enc) (C:=Tryz.checked) (os:=os) (X:=fun w _=>laidMetH Tryz.prog Rows.resizeSaysRow.laid w) false (World.doorLaid Tryz.prog 400 os) #[.agg #[.int .i64 0,.slice none 0 0,.slice none 0 0,.slice none 0 0,.slice none 0 0,.slice none 0 0,.int .i64 0,.int .i64 0],.agg #[.int .i64 0,.int .i64 0,.int .i64 0,.int .i64 0]] 8 rfl (World.shaped_of_RefB (by kernel_rfl) (by kernel_rfl)) (by kernel_rfl) (by kernel_rfl) (by kernel_rfl) (lawDoor os _)) rfl (by kernel_rfl) lawBool lawLaid (by kernel_rfl) ?_
  (.cons _ _ _ _ _ (ArgAs.struct rfl readState) (.cons _ _ _ _ _ (ArgAs.struct rfl readNote) .nil)) ?_
 ·intro ds hd
  match ds,hd with
  | [_,_],_=>rfl
 ·rintro l ⟨a0,m0,g0,⟨a1,m1,g1,rfl,rfl⟩,rfl⟩
  exact law a0 a1 g0 g1
theorem Qhd (law:∀ (a0:State) (a1:Note),State.wf a0->Note.wf a1->AGives Tryz.prog 4 [State.a a0,Note.a a1] [] (.lit (.bool true))):Rows.ResizeSaysSaid :=
 OpenClaim.holds_of_wide 4 Tryz.f4 rfl rfl rfl rfl rfl rfl rfl ⟨rfl,rfl,rfl,rfl,rfl⟩ rfl rfl rfl rfl rfl resizeSays_named Tryz.func4 Qid
  (of_decide_eq_true (by kernel_rfl)) (by unfold Func.isWrapper;first|(rw [if_pos (by decide +kernel)];kernel_rfl)|(rw [if_neg (by decide +kernel)];exact ⟨rfl,rfl⟩))
  (fun os started H enc _=>Qjd law os started H enc)
theorem QZ9 (law:∀ (a0:State) (a1:Note),State.wf a0->Note.wf a1->AGives Tryz.prog 4 [State.a a0,Note.a a1] [] (.lit (.bool true))):Rows.ResizeSaysCardSaid :=
 Claim7.holds_tied_plain_at .later [] [.data, .data, .data, .sentinel, .sentinel] true (true, "0d9f5ecd6f9e78159df61c7f547d7bc6bd943f0def6562f313832cbb46e3e19e") true
  (Qhd law) (fun _ h=>by cases h) resizeSays_wbt (fun _ h=>by cases h) resizeSays_row_tie rfl ⟨rfl,rfl⟩ QEf rfl
  (fun f fn hf hfn=>by
   obtain rfl:f = 4:=Option.some.inj (resizeSays_named.symm.trans hf) |>.symm
   obtain rfl:fn = Tryz.f4:=(Option.some.inj (Tryz.func4.symm.trans hfn)).symm
   exact ⟨Qhe,fun j t ht=>by
    rcases j with _|_|j
    ·obtain rfl:t = 28:=(Option.some.inj ((show Tryz.f4.params[0]? = some 28 by kernel_rfl).symm.trans ht)).symm
     exact (show Tryz.prog.wantsStandIn 28 = false by kernel_rfl)
    ·obtain rfl:t = 41:=(Option.some.inj ((show Tryz.f4.params[1]? = some 41 by kernel_rfl).symm.trans ht)).symm
     exact (show Tryz.prog.wantsStandIn 41 = false by kernel_rfl)
    ·exact absurd ht (by rw [show Tryz.f4.params[j+2]? = none from Array.getElem?_eq_none (by show Tryz.f4.params.size<=j+2;rw [show Tryz.f4.params.size=2 by kernel_rfl];omega)];exact fun h=>nomatch h)⟩)
  QDf
#print axioms QZ9
end Go.Proofs.YtackngeeehiegaaGreatDoor
namespace Go.Proofs.YtackngeeehiegaaGreatDoor
set_option linter.unusedSimpArgs false
set_option linter.unusedVariables false
open Go.Fw
theorem Qge (a:State) (b:Note) (ha:a.wf) (_:b.wf):AGives Tryz.prog 4 [State.a a,Note.a b] [] (.lit (.bool true)):=by
 have h:=Qic a b (State.wf_szM ha) (WU.wf ha) []
 rw [QFf (WU.wf ha) resize_awake] at h
 exact h
theorem resizeSays_card:Rows.ResizeSaysCardSaid:=QZ9 Qge
#print axioms resizeSays_card
end Go.Proofs.YtackngeeehiegaaGreatDoor
