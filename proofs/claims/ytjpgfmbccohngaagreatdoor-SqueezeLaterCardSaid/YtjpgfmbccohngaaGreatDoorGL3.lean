/-
  The promises that came later are those of the document. No condition.
  SqueezeLater: The promises that came later are those of the document. No condition.
-/
import Derived.Test.YtjpgfmbccohngaaGreatDoorGL1
import Derived.Test.YtjpgfmbccohngaaGreatDoorGL2
import Derived.Test.YtjpgfmbccohngaaGreatDoorTie
import Derived.Test.YtjpgfmbccohngaaGreatDoorCards
import Derived.Test.YtjpgfmbccohngaaGreatDoorRows
import Derived.ProofKit
import Derived.LaidMore
import Derived.OpenShut
import Derived.SevenTiedAt
namespace Go.Proofs.YtjpgfmbccohngaaGreatDoor
set_option linter.unusedSimpArgs false
set_option linter.unusedVariables false
open Go.Fw Go.RowKit Go.ChangeShapes Go.WideShapes
theorem lawOwn:ownKnob Tryz.prog.godebug=none:=by kernel_rfl
theorem lawLaid:laidOutB Tryz.prog=true:=by kernel_rfl
theorem lawBool:Tryz.prog.underlying 4 = some .bool:=by kernel_rfl
set_option maxRecDepth 100000 in
theorem lawDoor (os:Os) (args:Array Value):laidMetH Tryz.prog Rows.squeezeLaterRow.laid ((World.doorLaid Tryz.prog 400 os).forCall (fun _ _=>0) ⟨#[],args,[]⟩).memory :=
 laidMetH_of_parts3 (fuel:=8) (laidMet_of_run' 8 (by kernel_rfl) (by kernel_rfl)) (by kernel_rfl) (by kernel_rfl)
set_option maxRecDepth 100000 in
theorem QCb (law:∀ (a0:List Job) (a1:List Job),(a0.length<=maxLen ∧ ∀ a ∈ a0,Job.wf a)->(a1.length<=maxLen ∧ ∀ a ∈ a1,Job.wf a)->AGives Tryz.prog 7 [jobL a0,jobL a1] [] (.lit (.bool true))) (os:Os) (started:os.Started) (H:Type) (enc:TypeId × Value->H) :
  ReturnsInHanded {} Tryz.checked os 7 .any (fun w args=>(Rows.squeezeLaterSpec.pre enc Tryz.prog Tryz.f7 [] false w args∧laidMetH Tryz.prog Rows.squeezeLaterRow.laid w)∧sizedMet enc Tryz.prog Tryz.f7 (OpenSpec.ofChange Rows.squeezeLaterSpec) false w args)
   (Rows.squeezeLaterSpec.post enc Tryz.prog Tryz.f7 false true false false):=by
 refine QI6 (C:=Tryz.checked) (tb:=4) lawOwn started (by kernel_rfl) Tryz.func7
  (ChangeSpec.witness_shaped (enc:=enc) (C:=Tryz.checked) (os:=os) (X:=fun w _=>laidMetH Tryz.prog Rows.squeezeLaterRow.laid w) false (World.doorLaid Tryz.prog 400 os) #[.slice none 0 0,.slice none 0 0] 8 rfl (World.shaped_of_RefB (by kernel_rfl) (by kernel_rfl)) (by kernel_rfl) (by kernel_rfl) (by kernel_rfl) (lawDoor os _)) rfl (by kernel_rfl) lawBool lawLaid (by kernel_rfl) ?_
  (.cons _ _ _ _ _ (ArgAs.slice (e:=35) (by kernel_rfl) readJobs) (.cons _ _ _ _ _ (ArgAs.slice (e:=35) (by kernel_rfl) readJobs) .nil)) ?_
 ·intro ds hd
  match ds,hd with
  | [_,_],_=>rfl
 ·rintro l ⟨a0,m0,g0,⟨a1,m1,g1,rfl,rfl⟩,rfl⟩
  exact law a0 a1 g0 g1
theorem QAb (law:∀ (a0:List Job) (a1:List Job),(a0.length<=maxLen ∧ ∀ a ∈ a0,Job.wf a)->(a1.length<=maxLen ∧ ∀ a ∈ a1,Job.wf a)->AGives Tryz.prog 7 [jobL a0,jobL a1] [] (.lit (.bool true))):Rows.SqueezeLaterSaid :=
 OpenClaim.holds_of_wide 7 Tryz.f7 rfl rfl rfl rfl rfl rfl rfl ⟨rfl,rfl,rfl,rfl,rfl⟩ rfl rfl rfl rfl rfl squeezeLater_named Tryz.func7 QBb
  (of_decide_eq_true (by kernel_rfl)) (by unfold Func.isWrapper;first|(rw [if_pos (by decide +kernel)];kernel_rfl)|(rw [if_neg (by decide +kernel)];exact ⟨rfl,rfl⟩))
  (fun os started H enc _=>QCb law os started H enc)
theorem QB8 (law:∀ (a0:List Job) (a1:List Job),(a0.length<=maxLen ∧ ∀ a ∈ a0,Job.wf a)->(a1.length<=maxLen ∧ ∀ a ∈ a1,Job.wf a)->AGives Tryz.prog 7 [jobL a0,jobL a1] [] (.lit (.bool true))):Rows.SqueezeLaterCardSaid :=
 Claim7.holds_tied_plain_at .later [] [.data, .data, .data, .sentinel, .sentinel] true (true, "dae1aa68f08b665462c7e19f959389dfe4c0d8ff5d812cf9a780a93814aaddea") true
  (QAb law) (fun _ h=>by cases h) QLe (fun _ h=>by cases h) squeezeLater_row_tie rfl ⟨rfl,rfl⟩ Qsd rfl
  (fun f fn hf hfn=>by
   obtain rfl:f = 7:=Option.some.inj (squeezeLater_named.symm.trans hf) |>.symm
   obtain rfl:fn = Tryz.f7:=(Option.some.inj (Tryz.func7.symm.trans hfn)).symm
   exact ⟨QLc,fun j t ht=>by
    rcases j with _|_|j
    ·obtain rfl:t = 23:=(Option.some.inj ((show Tryz.f7.params[0]? = some 23 by kernel_rfl).symm.trans ht)).symm
     exact (show Tryz.prog.wantsStandIn 23 = false by kernel_rfl)
    ·obtain rfl:t = 23:=(Option.some.inj ((show Tryz.f7.params[1]? = some 23 by kernel_rfl).symm.trans ht)).symm
     exact (show Tryz.prog.wantsStandIn 23 = false by kernel_rfl)
    ·exact absurd ht (by rw [show Tryz.f7.params[j+2]? = none from Array.getElem?_eq_none (by show Tryz.f7.params.size<=j+2;rw [show Tryz.f7.params.size=2 by kernel_rfl];omega)];exact fun h=>nomatch h)⟩)
  Qrd
#print axioms QB8
end Go.Proofs.YtjpgfmbccohngaaGreatDoor
namespace Go.Proofs.YtjpgfmbccohngaaGreatDoor
set_option linter.unusedSimpArgs false
set_option linter.unusedVariables false
open Go.Fw
theorem QKc (a b:List Job) (ha:a.length<=maxLen ∧ ∀ x ∈ a,Job.wf x) (hb:b.length<=maxLen ∧ ∀ x ∈ b,Job.wf x):AGives Tryz.prog 7 [jobL a,jobL b] [] (.lit (.bool true)):=by
 have h:=QNa a b ⟨Nat.le_trans ha.1 (by decide),fun x hx=>Job.wf_szM (ha.2 x hx)⟩ ⟨Nat.le_trans hb.1 (by decide),fun x hx=>Job.wf_szM (hb.2 x hx)⟩ []
 rw [Qtd (fun x hx=>Job.wf_u64 (ha.2 x hx)) (fun x hx=>Job.wf_u64 (hb.2 x hx)) QN7] at h
 exact h
theorem squeezeLater_card:Rows.SqueezeLaterCardSaid:=QB8 QKc
#print axioms squeezeLater_card
end Go.Proofs.YtjpgfmbccohngaaGreatDoor
