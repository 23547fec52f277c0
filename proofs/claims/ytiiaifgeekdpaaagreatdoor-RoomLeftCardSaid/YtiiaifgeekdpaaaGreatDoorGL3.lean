/-
  Any state has the document's room, but for any jobs; any job has its claim, or none. No condition.
  RoomLeft: Any state has the document's room, but for any jobs; any job has its claim, or none. No condition.
-/
import Derived.Test.YtiiaifgeekdpaaaGreatDoorGL2
import Derived.Test.YtiiaifgeekdpaaaGreatDoorTie
import Derived.Test.YtiiaifgeekdpaaaGreatDoorCards
import Derived.Test.YtiiaifgeekdpaaaGreatDoorRows
import Derived.ProofKit
import Derived.LaidMore
import Derived.OpenShut
import Derived.SevenTiedAt
import Derived.Test.YtiiaifgeekdpaaaGreatDoorGL1
namespace Go.Proofs.YtiiaifgeekdpaaaGreatDoor
set_option linter.unusedSimpArgs false
set_option linter.unusedVariables false
open Go.Fw Go.RowKit Go.ChangeShapes Go.WideShapes
theorem lawOwn:ownKnob Tryz.prog.godebug=none:=by kernel_rfl
theorem lawLaid:laidOutB Tryz.prog=true:=by kernel_rfl
theorem lawBool:Tryz.prog.underlying 4 = some .bool:=by kernel_rfl
set_option maxRecDepth 100000 in
theorem lawDoor (os:Os) (args:Array Value):laidMetH Tryz.prog Rows.roomLeftRow.laid ((World.doorLaid Tryz.prog 400 os).forCall (fun _ _=>0) ⟨#[],args,[]⟩).memory :=
 laidMetH_of_parts3 (fuel:=8) (laidMet_of_run' 8 (by kernel_rfl) (by kernel_rfl)) (by kernel_rfl) (by kernel_rfl)
set_option maxRecDepth 100000 in
theorem Q6c (law:∀ (a0:State) (a1:List Int) (a2:Job),State.wf a0->(a1.length<=maxLen ∧ ∀ a ∈ a1,(Lit.int .i64 a).wf=true)->Job.wf a2->AGives Tryz.prog 4 [State.a a0,ints a1,Job.a a2] [] (.lit (.bool true))) (os:Os) (started:os.Started) (H:Type) (enc:TypeId × Value->H) :
  ReturnsInHanded {} Tryz.checked os 4 .any (fun w args=>(Rows.roomLeftSpec.pre enc Tryz.prog Tryz.f4 [] false w args∧laidMetH Tryz.prog Rows.roomLeftRow.laid w)∧sizedMet enc Tryz.prog Tryz.f4 (OpenSpec.ofChange Rows.roomLeftSpec) false w args)
   (Rows.roomLeftSpec.post enc Tryz.prog Tryz.f4 false true false false):=by
 refine Qm6 (C:=Tryz.checked) (tb:=4) lawOwn started (by kernel_rfl) Tryz.func4
  (ChangeSpec.witness_shaped (enc:=enc) (C:=Tryz.checked) (os:=os) (X:=fun w _=>laidMetH Tryz.prog Rows.roomLeftRow.laid w) false (World.doorLaid Tryz.prog 400 os) #[.agg #[.int .i64 0,.slice none 0 0,.slice none 0 0,.slice none 0 0,.slice none 0 0,.slice none 0 0,.int .i64 0,.int .i64 0],.slice none 0 0,.agg #[.int .i64 0,.string ⟨#[]⟩,.string ⟨#[]⟩,.string ⟨#[]⟩,.int .i64 0,.slice none 0 0,.int .i64 0,.int .i64 0,.int .i64 0,.int .i64 0,.slice none 0 0,.int .i64 0,.bool false,.int .i64 0,.int .i64 0,.int .i64 0,.int .i64 0,.int .i64 0,.int .u64 0,.int .i64 0]] 8 rfl (World.shaped_of_RefB (by kernel_rfl) (by kernel_rfl)) (by kernel_rfl) (by kernel_rfl) (by kernel_rfl) (lawDoor os _)) rfl (by kernel_rfl) lawBool lawLaid (by kernel_rfl) ?_
  (.cons _ _ _ _ _ (ArgAs.struct rfl QTb) (.cons _ _ _ _ _ (ArgAs.slice (e:=3) (by kernel_rfl) readInts) (.cons _ _ _ _ _ (ArgAs.struct rfl readJob) .nil))) ?_
 ·intro ds hd
  match ds,hd with
  | [_,_,_],_=>rfl
 ·rintro l ⟨a0,m0,g0,⟨a1,m1,g1,⟨a2,m2,g2,rfl,rfl⟩,rfl⟩,rfl⟩
  exact law a0 a1 a2 g0 g1 g2
theorem Q5c (law:∀ (a0:State) (a1:List Int) (a2:Job),State.wf a0->(a1.length<=maxLen ∧ ∀ a ∈ a1,(Lit.int .i64 a).wf=true)->Job.wf a2->AGives Tryz.prog 4 [State.a a0,ints a1,Job.a a2] [] (.lit (.bool true))):Rows.RoomLeftSaid :=
 OpenClaim.holds_of_wide 4 Tryz.f4 rfl rfl rfl rfl rfl rfl rfl ⟨rfl,rfl,rfl,rfl,rfl⟩ rfl rfl rfl rfl rfl (by kernel_rfl) Tryz.func4 (by kernel_rfl)
  (of_decide_eq_true (by kernel_rfl)) (by unfold Func.isWrapper;first|(rw [if_pos (by decide +kernel)];kernel_rfl)|(rw [if_neg (by decide +kernel)];exact ⟨rfl,rfl⟩))
  (fun os started H enc _=>Q6c law os started H enc)
theorem Qt8 (law:∀ (a0:State) (a1:List Int) (a2:Job),State.wf a0->(a1.length<=maxLen ∧ ∀ a ∈ a1,(Lit.int .i64 a).wf=true)->Job.wf a2->AGives Tryz.prog 4 [State.a a0,ints a1,Job.a a2] [] (.lit (.bool true))):Rows.RoomLeftCardSaid :=
 Claim7.holds_tied_plain_at .later [] [.data, .data, .data, .sentinel, .sentinel] true (true, "d3e32341b8367b555bd965d08c0025777ca31e742c62422c152c68100ac60a6e") true
  (Q5c law) (fun _ h=>by cases h) (by kernel_rfl) (fun _ h=>by cases h) roomLeft_row_tie rfl ⟨rfl,rfl⟩ (by kernel_rfl) rfl
  (fun f fn hf hfn=>by
   obtain rfl : f = 4 := Option.some.inj ((show Tryz.prog.funcNamed "muster/musterlaw20.RoomLeft" = some 4 by kernel_rfl).symm.trans hf) |>.symm
   obtain rfl:fn = Tryz.f4:=(Option.some.inj (Tryz.func4.symm.trans hfn)).symm
   exact ⟨by kernel_rfl,fun j t ht=>by
    rcases j with _|_|_|j
    ·obtain rfl:t = 28:=(Option.some.inj ((show Tryz.f4.params[0]? = some 28 by kernel_rfl).symm.trans ht)).symm
     exact (show Tryz.prog.wantsStandIn 28 = false by kernel_rfl)
    ·obtain rfl:t = 39:=(Option.some.inj ((show Tryz.f4.params[1]? = some 39 by kernel_rfl).symm.trans ht)).symm
     exact (show Tryz.prog.wantsStandIn 39 = false by kernel_rfl)
    ·obtain rfl:t = 46:=(Option.some.inj ((show Tryz.f4.params[2]? = some 46 by kernel_rfl).symm.trans ht)).symm
     exact (show Tryz.prog.wantsStandIn 46 = false by kernel_rfl)
    ·exact absurd ht (by rw [show Tryz.f4.params[j+3]? = none from Array.getElem?_eq_none (by show Tryz.f4.params.size<=j+3;rw [show Tryz.f4.params.size=3 by kernel_rfl];omega)];exact fun h=>nomatch h)⟩)
  (by kernel_rfl)
#print axioms Qt8
end Go.Proofs.YtiiaifgeekdpaaaGreatDoor
namespace Go.Proofs.YtiiaifgeekdpaaaGreatDoor
set_option linter.unusedSimpArgs false
set_option linter.unusedVariables false
open Go.Fw
theorem roomLeft_gives (a:State) (b:List Int) (c:Job) (ha:a.wf) (hb:b.length<=maxLen ∧ ∀ a ∈ b,(Lit.int .i64 a).wf=true) (hc:c.wf):AGives Tryz.prog 4 [State.a a,ints b,Job.a c] [] (.lit (.bool true)):=by
 have h:=QTa a b c (State.wf_szM ha) (Nat.le_trans hb.1 (by decide)) (Job.wf_szM hc) []
 rw [roomLeft_true (fun x hx=>Job.wf_u64 (ha.2.2.1.2 x hx)) Qca b (Job.wf_u64 hc)] at h
 exact h
theorem roomLeft_card:Rows.RoomLeftCardSaid:=Qt8 roomLeft_gives
#print axioms roomLeft_card
end Go.Proofs.YtiiaifgeekdpaaaGreatDoor
