/-
  Contracts of functions, printed by a program of this repo (wip/dec). No condition beyond those that stand in each.
  Any bytes are the document's state, as a plain statement. Conditions stand in each lemma.
  Any bytes are the documents state, or nones. No condition.
  ImageDecodes: Any bytes are the document's state, or none's. No condition.
-/
import Derived.Test.YtgjcljceccfgjaaGreatDoorGD2
import Derived.Test.YtgjcljceccfgjaaGreatDoorProg
import Derived.Test.YtgjcljceccfgjaaGreatDoorTie
import Derived.Test.YtgjcljceccfgjaaGreatDoorCards
import Derived.Test.YtgjcljceccfgjaaGreatDoorRows
import Derived.ProofKit
import Derived.LaidMore
import Derived.OpenShut
import Derived.SevenTiedAt
namespace Go.Proofs.YtgjcljceccfgjaaGreatDoor
set_option linter.unusedSimpArgs false
set_option linter.unusedVariables false
open Go.Fw
set_option maxRecDepth 20000
set_option maxHeartbeats 4000000
attribute [local irreducible] ACalls AMoves
def QW5 (b:ByteArray):Bool:=bif (decide ((ByteArray.size b:Int) > 100000)) then Qe2 else (((Q08 ((Qv0 b).1) ((Q34 b).1))&&((Qv0 b).2==(Q34 b).2))&&Qe2)
theorem Q0c (b:ByteArray) (hs0:b.size<=9223372036854775807):∀ objs,AGives Tryz.prog 4 [Sg b] objs (Bo (QW5 b)):=by
 generalize hR:QW5 b=R;refine ga (l1 .nil) lx (kp 7 [9]) Tryz.func4 ?_;have hk0:=hs0;obtain z3:b.size<=9223372036854775807:=hs0;refine ai (fun h1=>?_) (fun h2=>?_)
 ·have qh1:=of_decide_eq_true h1;refine us (Q83 _) ?_;obtain rfl:=foll hR (ct h1 rfl);exact Q30 lx sr
 ·have qh2:=of_decide_eq_false h2;refine us (QX3 b (by first|((first|omega|exact QR0 (by omega)|(rw [Q07 (by omega)];exact QR0 (by omega))))|exact szA) _) ?_;refine us (ref28_Decode_c b (by first|((first|omega|exact QR0 (by omega)|(rw [Q07 (by omega)];exact QR0 (by omega))))|exact szA) _) ?_;refine us (Qnb ((Qv0 b).1) ((Q34 b).1) (by first|((first|omega|exact QR0 (by omega)|(rw [Q07 (by omega)];exact QR0 (by omega))))|exact szA) (by first|((first|omega|exact QR0 (by omega)|(rw [Q07 (by omega)];exact QR0 (by omega))))|exact szA) _) ?_;(first|apply u3g|apply u4g);exact fun hg=>Q83 _;obtain rfl:=foll hR (cf h2 rfl);exact Q30 lx sr
end Go.Proofs.YtgjcljceccfgjaaGreatDoor
namespace Go.Proofs.YtgjcljceccfgjaaGreatDoor
set_option linter.unusedSimpArgs false
set_option linter.unusedVariables false
open Go.Fw
theorem awake_true:Qe2=true:=by kernel_rfl
theorem decodes_true (b:ByteArray):QW5 b=true:=by
 unfold QW5
 cases hf:decide ((ByteArray.size b:Int) > 100000) with
 | true=>exact awake_true
 | false =>
  have:=of_decide_eq_false hf
  rw [Q07 (by omega),awake_true,(ref25_same _ _).2 rfl]
  simp
end Go.Proofs.YtgjcljceccfgjaaGreatDoor
namespace Go.Proofs.YtgjcljceccfgjaaGreatDoor
set_option linter.unusedSimpArgs false
set_option linter.unusedVariables false
open Go.Fw Go.RowKit Go.ChangeShapes Go.WideShapes
theorem lawOwn:ownKnob Tryz.prog.godebug=none:=by kernel_rfl
theorem lawLaid:laidOutB Tryz.prog=true:=by kernel_rfl
theorem lawBool:Tryz.prog.underlying 4 = some .bool:=by kernel_rfl
set_option maxRecDepth 100000 in
theorem lawDoor (os:Os) (args:Array Value):laidMetH Tryz.prog Rows.imageDecodesRow.laid ((World.doorLaid Tryz.prog 400 os).forCall (fun _ _=>0) ⟨#[],args,[]⟩).memory :=
 laidMetH_of_parts3 (fuel:=8) (laidMet_of_run' 8 (by kernel_rfl) (by kernel_rfl)) (by kernel_rfl) (by kernel_rfl)
set_option maxRecDepth 100000 in
theorem QCc (law:∀ (a0:ByteArray),a0.size<=maxLen->AGives Tryz.prog 4 [Sg a0] [] (.lit (.bool true))) (os:Os) (started:os.Started) (H:Type) (enc:TypeId × Value->H) :
  ReturnsInHanded {} Tryz.checked os 4 .any (fun w args=>(Rows.imageDecodesSpec.pre enc Tryz.prog Tryz.f4 [] false w args∧laidMetH Tryz.prog Rows.imageDecodesRow.laid w)∧sizedMet enc Tryz.prog Tryz.f4 (OpenSpec.ofChange Rows.imageDecodesSpec) false w args)
   (Rows.imageDecodesSpec.post enc Tryz.prog Tryz.f4 false true false false):=by
 refine QC7 (C:=Tryz.checked) (tb:=4) lawOwn started (by kernel_rfl) Tryz.func4
  (ChangeSpec.witness_shaped (enc:=enc) (C:=Tryz.checked) (os:=os) (X:=fun w _=>laidMetH Tryz.prog Rows.imageDecodesRow.laid w) false (World.doorLaid Tryz.prog 400 os) #[.string ⟨#[]⟩] 8 rfl (World.shaped_of_RefB (by kernel_rfl) (by kernel_rfl)) (by kernel_rfl) (by kernel_rfl) (by kernel_rfl) (lawDoor os _)) rfl (by kernel_rfl) lawBool lawLaid (by kernel_rfl) ?_
  (.cons _ _ _ _ _ (ArgAs.string ty2) .nil) ?_
 ·intro ds hd
  match ds,hd with
  | [_],_=>rfl
 ·rintro l ⟨a0,m0,g0,rfl,rfl⟩
  exact law a0 g0
theorem QBc (law:∀ (a0:ByteArray),a0.size<=maxLen->AGives Tryz.prog 4 [Sg a0] [] (.lit (.bool true))):Rows.ImageDecodesSaid :=
 OpenClaim.holds_of_wide 4 Tryz.f4 rfl rfl rfl rfl rfl rfl rfl ⟨rfl,rfl,rfl,rfl,rfl⟩ rfl rfl rfl rfl rfl (by kernel_rfl) Tryz.func4 (by kernel_rfl)
  (of_decide_eq_true (by kernel_rfl)) (by unfold Func.isWrapper;first|(rw [if_pos (by decide +kernel)];kernel_rfl)|(rw [if_neg (by decide +kernel)];exact ⟨rfl,rfl⟩))
  (fun os started H enc _=>QCc law os started H enc)
theorem Qs9 (law:∀ (a0:ByteArray),a0.size<=maxLen->AGives Tryz.prog 4 [Sg a0] [] (.lit (.bool true))):Rows.ImageDecodesCardSaid :=
 Claim7.holds_tied_plain_at .later [] [.data, .data, .data, .sentinel, .sentinel] true (true, "0de8dfd6e9f6e6fd0252637fa26b7ecdc593213eb0a69015ca25051db5914a86") true
  (QBc law) (fun _ h=>by cases h) (by kernel_rfl) (fun _ h=>by cases h) imageDecodes_row_tie rfl ⟨rfl,rfl⟩ (by kernel_rfl) rfl
  (fun f fn hf hfn=>by
   obtain rfl : f = 4 := Option.some.inj ((show Tryz.prog.funcNamed "muster/musterlaw28.ImageDecodes" = some 4 by kernel_rfl).symm.trans hf) |>.symm
   obtain rfl:fn = Tryz.f4:=(Option.some.inj (Tryz.func4.symm.trans hfn)).symm
   exact ⟨by kernel_rfl,fun j t ht=>by
    rcases j with _|j
    ·obtain rfl:t = 9:=(Option.some.inj ((show Tryz.f4.params[0]? = some 9 by kernel_rfl).symm.trans ht)).symm
     exact (show Tryz.prog.wantsStandIn 9 = false by kernel_rfl)
    ·exact absurd ht (by rw [show Tryz.f4.params[j+1]? = none from Array.getElem?_eq_none (by show Tryz.f4.params.size<=j+1;rw [show Tryz.f4.params.size=1 by kernel_rfl];omega)];exact fun h=>nomatch h)⟩)
  (by kernel_rfl)
#print axioms Qs9
end Go.Proofs.YtgjcljceccfgjaaGreatDoor
namespace Go.Proofs.YtgjcljceccfgjaaGreatDoor
set_option linter.unusedSimpArgs false
set_option linter.unusedVariables false
open Go.Fw
theorem Qid (a:ByteArray) (ha:a.size<=maxLen):AGives Tryz.prog 4 [Sg a] [] (.lit (.bool true)):=by
 have h:=Q0c a ha []
 rw [decodes_true a] at h
 exact h
theorem imageDecodes_card:Rows.ImageDecodesCardSaid:=Qs9 Qid
#print axioms imageDecodes_card
end Go.Proofs.YtgjcljceccfgjaaGreatDoor
