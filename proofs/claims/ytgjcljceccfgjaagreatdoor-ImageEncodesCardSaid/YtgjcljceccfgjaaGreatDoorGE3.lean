/-
  Contracts of functions, printed by a program of this repo (wip/dec). No condition beyond those that stand in each.
  Any state has the document's image, as a plain statement. Conditions stand in each lemma.
  Any state has the documents image, or none. No condition.
  ImageEncodes: Any state has the document's image, or none. No condition.
-/
import Derived.Test.YtgjcljceccfgjaaGreatDoorGE2
import Derived.Test.YtgjcljceccfgjaaGreatDoorProg
import Derived.Test.YtgjcljceccfgjaaGreatDoorTie
import Derived.Test.YtgjcljceccfgjaaGreatDoorCards
import Derived.Test.YtgjcljceccfgjaaGreatDoorRows
import Derived.ProofKit
import Derived.LaidMore
import Derived.OpenShut
import Derived.SevenTiedAt
namespace Go.Proofs.YtgjcljceccfgjaaGreatDoor
set_option linter.unusedSimpArgs false
set_option linter.unusedVariables false
open Go.Fw
set_option maxRecDepth 20000
set_option maxHeartbeats 4000000
attribute [local irreducible] ACalls AMoves
def QX5 (s:State):Bool:=bif (!(Q73 s)) then Qe2 else (((ByteArray.toList (QB0 s).1==ByteArray.toList (Qv1 s).1)&&((QB0 s).2==(Qv1 s).2))&&Qe2)
theorem Q1c (s:State) (hs0:s.szM):∀ objs,AGives Tryz.prog 3 [State.a s] objs (Bo (QX5 s)):=by
 generalize hR:QX5 s=R;refine ga (.cons (State.low _ _) .nil) lx (kp 7 [9]) Tryz.func3 ?_;have hk0:=hs0;obtain ⟨z3,z4,z5,z6,z7,z8,z9⟩:=hs0;refine us (QXf s (by first|((have hF:Q73 s=true:=(by have q:=h2;simp at q;first|exact q|exact q.1);have hE:=QT1 hF;first|exact Qr5 hF|exact Qy3 hF|omega|(rw [ByteArray.size_append];omega)|(rw [ByteArray.size_extract];omega)|exact QR0 (by omega)))|exact szA) _) ?_;refine ai (fun h1=>?_) (fun h2=>?_)
 ·refine us (Q83 _) ?_;obtain rfl:=foll hR (ct h1 rfl);exact Q30 lx sr
 ·refine us (QE6 s (by first|((have hF:Q73 s=true:=(by have q:=h2;simp at q;first|exact q|exact q.1);have hE:=QT1 hF;first|exact Qr5 hF|exact Qy3 hF|omega|(rw [ByteArray.size_append];omega)|(rw [ByteArray.size_extract];omega)|exact QR0 (by omega)))|exact szA) (by have hF:Q73 s=true:=(by have q:=h2;simp at q;first|exact q|exact q.1);have hE:=QT1 hF;first|exact Qr5 hF|exact Qy3 hF|omega|(rw [ByteArray.size_append];omega)|(rw [ByteArray.size_extract];omega)|exact QR0 (by omega)) _) ?_;refine us (Qjc s (by first|((have hF:Q73 s=true:=(by have q:=h2;simp at q;first|exact q|exact q.1);have hE:=QT1 hF;first|exact Qr5 hF|exact Qy3 hF|omega|(rw [ByteArray.size_append];omega)|(rw [ByteArray.size_extract];omega)|exact QR0 (by omega)))|exact szA) (by have hF:Q73 s=true:=(by have q:=h2;simp at q;first|exact q|exact q.1);have hE:=QT1 hF;first|exact Qr5 hF|exact Qy3 hF|omega|(rw [ByteArray.size_append];omega)|(rw [ByteArray.size_extract];omega)|exact QR0 (by omega)) _) ?_;(first|apply u3g|apply u4g);exact fun hg=>Q83 _;obtain rfl:=foll hR (cf h2 rfl);exact Q30 lx sr
end Go.Proofs.YtgjcljceccfgjaaGreatDoor
namespace Go.Proofs.YtgjcljceccfgjaaGreatDoor
set_option linter.unusedSimpArgs false
set_option linter.unusedVariables false
open Go.Fw
theorem awake_true:Qe2=true:=by kernel_rfl
theorem encodes_true {s:State} (hu:UW s):QX5 s=true:=by
 unfold QX5
 cases hf:Q73 s with
 | false=>exact awake_true
 | true =>
  rw [encode_same hu hf,awake_true]
  simp
end Go.Proofs.YtgjcljceccfgjaaGreatDoor
namespace Go.Proofs.YtgjcljceccfgjaaGreatDoor
set_option linter.unusedSimpArgs false
set_option linter.unusedVariables false
open Go.Fw Go.RowKit Go.ChangeShapes Go.WideShapes
theorem lawOwn:ownKnob Tryz.prog.godebug=none:=by kernel_rfl
theorem lawLaid:laidOutB Tryz.prog=true:=by kernel_rfl
theorem lawBool:Tryz.prog.underlying 4 = some .bool:=by kernel_rfl
set_option maxRecDepth 100000 in
theorem lawDoor (os:Os) (args:Array Value):laidMetH Tryz.prog Rows.imageEncodesRow.laid ((World.doorLaid Tryz.prog 400 os).forCall (fun _ _=>0) ⟨#[],args,[]⟩).memory :=
 laidMetH_of_parts3 (fuel:=8) (laidMet_of_run' 8 (by kernel_rfl) (by kernel_rfl)) (by kernel_rfl) (by kernel_rfl)
set_option maxRecDepth 100000 in
theorem QEc (law:∀ (a0:State),State.wf a0->AGives Tryz.prog 3 [State.a a0] [] (.lit (.bool true))) (os:Os) (started:os.Started) (H:Type) (enc:TypeId × Value->H) :
  ReturnsInHanded {} Tryz.checked os 3 .any (fun w args=>(Rows.imageEncodesSpec.pre enc Tryz.prog Tryz.f3 [] false w args∧laidMetH Tryz.prog Rows.imageEncodesRow.laid w)∧sizedMet enc Tryz.prog Tryz.f3 (OpenSpec.ofChange Rows.imageEncodesSpec) false w args)
   (Rows.imageEncodesSpec.post enc Tryz.prog Tryz.f3 false true false false):=by
 refine QC7 (C:=Tryz.checked) (tb:=4) lawOwn started (by kernel_rfl) Tryz.func3
  (ChangeSpec.witness_shaped (enc:=enc) (C:=Tryz.checked) (os:=os) (X:=fun w _=>laidMetH Tryz.prog Rows.imageEncodesRow.laid w) false (World.doorLaid Tryz.prog 400 os) #[.agg #[.int .i64 0,.slice none 0 0,.slice none 0 0,.slice none 0 0,.slice none 0 0,.slice none 0 0,.int .i64 0,.int .i64 0]] 8 rfl (World.shaped_of_RefB (by kernel_rfl) (by kernel_rfl)) (by kernel_rfl) (by kernel_rfl) (by kernel_rfl) (lawDoor os _)) rfl (by kernel_rfl) lawBool lawLaid (by kernel_rfl) ?_
  (.cons _ _ _ _ _ (ArgAs.struct rfl readState) .nil) ?_
 ·intro ds hd
  match ds,hd with
  | [_],_=>rfl
 ·rintro l ⟨a0,m0,g0,rfl,rfl⟩
  exact law a0 g0
theorem QDc (law:∀ (a0:State),State.wf a0->AGives Tryz.prog 3 [State.a a0] [] (.lit (.bool true))):Rows.ImageEncodesSaid :=
 OpenClaim.holds_of_wide 3 Tryz.f3 rfl rfl rfl rfl rfl rfl rfl ⟨rfl,rfl,rfl,rfl,rfl⟩ rfl rfl rfl rfl rfl (by kernel_rfl) Tryz.func3 (by kernel_rfl)
  (of_decide_eq_true (by kernel_rfl)) (by unfold Func.isWrapper;first|(rw [if_pos (by decide +kernel)];kernel_rfl)|(rw [if_neg (by decide +kernel)];exact ⟨rfl,rfl⟩))
  (fun os started H enc _=>QEc law os started H enc)
theorem Qt9 (law:∀ (a0:State),State.wf a0->AGives Tryz.prog 3 [State.a a0] [] (.lit (.bool true))):Rows.ImageEncodesCardSaid :=
 Claim7.holds_tied_plain_at .later [] [.data, .data, .data, .sentinel, .sentinel] true (true, "0de8dfd6e9f6e6fd0252637fa26b7ecdc593213eb0a69015ca25051db5914a86") true
  (QDc law) (fun _ h=>by cases h) (by kernel_rfl) (fun _ h=>by cases h) imageEncodes_row_tie rfl ⟨rfl,rfl⟩ (by kernel_rfl) rfl
  (fun f fn hf hfn=>by
   obtain rfl : f = 3 := Option.some.inj ((show Tryz.prog.funcNamed "muster/musterlaw28.ImageEncodes" = some 3 by kernel_rfl).symm.trans hf) |>.symm
   obtain rfl:fn = Tryz.f3:=(Option.some.inj (Tryz.func3.symm.trans hfn)).symm
   exact ⟨by kernel_rfl,fun j t ht=>by
    rcases j with _|j
    ·obtain rfl:t = 28:=(Option.some.inj ((show Tryz.f3.params[0]? = some 28 by kernel_rfl).symm.trans ht)).symm
     exact (show Tryz.prog.wantsStandIn 28 = false by kernel_rfl)
    ·exact absurd ht (by rw [show Tryz.f3.params[j+1]? = none from Array.getElem?_eq_none (by show Tryz.f3.params.size<=j+1;rw [show Tryz.f3.params.size=1 by kernel_rfl];omega)];exact fun h=>nomatch h)⟩)
  (by kernel_rfl)
#print axioms Qt9
end Go.Proofs.YtgjcljceccfgjaaGreatDoor
namespace Go.Proofs.YtgjcljceccfgjaaGreatDoor
set_option linter.unusedSimpArgs false
set_option linter.unusedVariables false
open Go.Fw
theorem wf_UW {s:State} (h:s.wf):UW s :=
 ⟨fun x hx=>by obtain ⟨_,_,_,_,_,_,_,_,_,_,_,_,_,_,q,_⟩:=h.2.2.1.2 x hx;exact wf_u64 q,fun r hr=>by obtain ⟨_,_,q1,q2,_⟩:=h.2.2.2.1.2 r hr;exact ⟨wf_u64 q1,wf_u64 q2⟩⟩
theorem Qjd (a:State) (ha:a.wf):AGives Tryz.prog 3 [State.a a] [] (.lit (.bool true)):=by
 have h:=Q1c a (State.wf_szM ha) []
 rw [encodes_true (wf_UW ha)] at h
 exact h
theorem imageEncodes_card:Rows.ImageEncodesCardSaid:=Qt9 Qjd
#print axioms imageEncodes_card
end Go.Proofs.YtgjcljceccfgjaaGreatDoor
