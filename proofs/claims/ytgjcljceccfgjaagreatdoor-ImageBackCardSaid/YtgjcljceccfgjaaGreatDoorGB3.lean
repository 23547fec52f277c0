/-
  Contracts of functions, printed by a program of this repo (wip/dec). No condition beyond those that stand in each.
  A state is read as it was laid, as a plain statement. Conditions stand in each lemma.
  A state is read as it was laid; no beginning of its image is one, nor is it with something behind. No condition.
  ImageBack: A state is read as it was laid; no beginning of its image is one, nor is it with something behind. No condition.
-/
import Derived.Test.YtgjcljceccfgjaaGreatDoorGB2
import Derived.Test.YtgjcljceccfgjaaGreatDoorProg
import Derived.Test.YtgjcljceccfgjaaGreatDoorTie
import Derived.Test.YtgjcljceccfgjaaGreatDoorCards
import Derived.Test.YtgjcljceccfgjaaGreatDoorRows
import Derived.ProofKit
import Derived.LaidMore
import Derived.OpenShut
import Derived.SevenTiedAt
namespace Go.Proofs.YtgjcljceccfgjaaGreatDoor
set_option linter.unusedSimpArgs false
set_option linter.unusedVariables false
open Go.Fw
set_option maxRecDepth 20000
set_option maxHeartbeats 4000000
attribute [local irreducible] ACalls AMoves
def QB7 (s:State) (cut:Int) (behind:ByteArray):Bool:=bif ((!(Q73 s))||(decide ((ByteArray.size behind:Int) > 1000))) then Qe2 else bif ((QB0 s).2 != 0) then ((ByteArray.toList (QB0 s).1==ByteArray.toList ⟨#[]⟩)&&Qe2) else bif (((Qv0 ((QB0 s).1)).2 != 0)||(!(Q08 s ((Qv0 ((QB0 s).1)).1)))) then false else bif ((decide (cut >= 0))&&(decide (cut<(ByteArray.size ((QB0 s).1):Int)))) then bif ((Qv0 (((QB0 s).1).extract 0 (Int.toNat cut))).2 != 280) then false else ((((Qv0 ((QB0 s).1++behind)).2==0)==(ByteArray.toList behind==ByteArray.toList ⟨#[]⟩))&&Qe2) else ((((Qv0 ((QB0 s).1++behind)).2==0)==(ByteArray.toList behind==ByteArray.toList ⟨#[]⟩))&&Qe2)
theorem Qge (s:State) (cut:Int) (behind:ByteArray) (hs0:s.szM) (hs1:behind.size<=9223372036854775807):∀ objs,AGives Tryz.prog 5 [State.a s,I cut,Sg behind] objs (Bo (QB7 s cut behind)):=by
 generalize hR:QB7 s cut behind=R;refine ga (.cons (State.low _ _) (l1 (l1 .nil))) lx (kp 15 [22,30,48,56,65]) Tryz.func5 ?_;have hk0:=hs0;obtain ⟨z11,z12,z13,z14,z15,z16,z17⟩:=hs0;have hk1:=hs1;obtain z18:behind.size<=9223372036854775807:=hs1;refine us (QXf s (by first|((have q:=h2;simp at q;have hE:=QT1 q.1;have hB:=q.2;first|exact Qr5 q.1|exact Qy3 q.1|omega|(rw [ByteArray.size_append];omega)|(rw [ByteArray.size_extract];omega)|exact QR0 (by omega)))|exact szA) _) ?_;refine ai (fun h1=>?_) (fun h2=>?_)
 ·refine us (Q83 _) ?_;obtain rfl:=foll hR (ct h1 rfl);exact Q30 lx sr
 ·refine us (QE6 s (by first|((have q:=h2;simp at q;have hE:=QT1 q.1;have hB:=q.2;first|exact Qr5 q.1|exact Qy3 q.1|omega|(rw [ByteArray.size_append];omega)|(rw [ByteArray.size_extract];omega)|exact QR0 (by omega)))|exact szA) (by have q:=h2;simp at q;have hE:=QT1 q.1;have hB:=q.2;first|exact Qr5 q.1|exact Qy3 q.1|omega|(rw [ByteArray.size_append];omega)|(rw [ByteArray.size_extract];omega)|exact QR0 (by omega)) _) ?_;refine ai (fun h3=>?_) (fun h4=>?_)
  ·(first|apply u3g|apply u4g);exact fun hg=>Q83 _;obtain rfl:=foll hR (cf h2 (ct h3 rfl));exact Q30 lx sr
  ·refine us (QX3 ((QB0 s).1) (by first|((have q:=h2;simp at q;have hE:=QT1 q.1;have hB:=q.2;first|exact Qr5 q.1|exact Qy3 q.1|omega|(rw [ByteArray.size_append];omega)|(rw [ByteArray.size_extract];omega)|exact QR0 (by omega)))|exact szA) _) ?_;(first|apply u3g|apply u4g);exact fun hg=>Qnb s ((Qv0 ((QB0 s).1)).1) (by first|((have q:=h2;simp at q;have hE:=QT1 q.1;have hB:=q.2;first|exact Qr5 q.1|exact Qy3 q.1|omega|(rw [ByteArray.size_append];omega)|(rw [ByteArray.size_extract];omega)|exact QR0 (by omega)))|exact szA) (by first|((have q:=h2;simp at q;have hE:=QT1 q.1;have hB:=q.2;first|exact Qr5 q.1|exact Qy3 q.1|omega|(rw [ByteArray.size_append];omega)|(rw [ByteArray.size_extract];omega)|exact QR0 (by omega)))|exact szA) _;refine ai (fun h5=>?_) (fun h6=>?_)
   ·obtain rfl:=foll hR (cf h2 (cf h4 (ct h5 rfl)));exact Q30 lx sr
   ·refine ai (fun h7=>?_) (fun h8=>?_)
    ·refine And.intro (by first|exact fun hg=>decide_eq_true (by first|((have q:=h2;simp at q;have hE:=QT1 q.1;have hB:=q.2;first|exact Qr5 q.1|exact Qy3 q.1|omega|(rw [ByteArray.size_append];omega)|(rw [ByteArray.size_extract];omega)|exact QR0 (by omega)))|exact ckA)|exact gkA) ?_;refine us (QX3 (((QB0 s).1).extract 0 (Int.toNat cut)) (by first|((have q:=h2;simp at q;have hE:=QT1 q.1;have hB:=q.2;first|exact Qr5 q.1|exact Qy3 q.1|omega|(rw [ByteArray.size_append];omega)|(rw [ByteArray.size_extract];omega)|exact QR0 (by omega)))|exact szA) _) ?_;refine ai (fun h9=>?_) (fun h10=>?_)
     ·obtain rfl:=foll hR (cf h2 (cf h4 (cf h6 (ct h7 (ct h9 rfl)))));exact Q30 lx sr
     ·refine And.intro (by first|exact fun hg=>decide_eq_true (by first|((have q:=h2;simp at q;have hE:=QT1 q.1;have hB:=q.2;first|exact Qr5 q.1|exact Qy3 q.1|omega|(rw [ByteArray.size_append];omega)|(rw [ByteArray.size_extract];omega)|exact QR0 (by omega)))|exact ckA)|exact gkA) ?_;refine us (QX3 ((QB0 s).1++behind) (by first|((have q:=h2;simp at q;have hE:=QT1 q.1;have hB:=q.2;first|exact Qr5 q.1|exact Qy3 q.1|omega|(rw [ByteArray.size_append];omega)|(rw [ByteArray.size_extract];omega)|exact QR0 (by omega)))|exact szA) _) ?_;(first|apply u3g|apply u4g);exact fun hg=>Q83 _;obtain rfl:=foll hR (cf h2 (cf h4 (cf h6 (ct h7 (cf h10 rfl)))));exact Q30 lx sr
    ·refine And.intro (by first|exact fun hg=>decide_eq_true (by first|((have q:=h2;simp at q;have hE:=QT1 q.1;have hB:=q.2;first|exact Qr5 q.1|exact Qy3 q.1|omega|(rw [ByteArray.size_append];omega)|(rw [ByteArray.size_extract];omega)|exact QR0 (by omega)))|exact ckA)|exact gkA) ?_;refine us (QX3 ((QB0 s).1++behind) (by first|((have q:=h2;simp at q;have hE:=QT1 q.1;have hB:=q.2;first|exact Qr5 q.1|exact Qy3 q.1|omega|(rw [ByteArray.size_append];omega)|(rw [ByteArray.size_extract];omega)|exact QR0 (by omega)))|exact szA) _) ?_;(first|apply u3g|apply u4g);exact fun hg=>Q83 _;obtain rfl:=foll hR (cf h2 (cf h4 (cf h6 (cf h8 rfl))));exact Q30 lx sr
end Go.Proofs.YtgjcljceccfgjaaGreatDoor
namespace Go.Proofs.YtgjcljceccfgjaaGreatDoor
set_option linter.unusedSimpArgs false
set_option linter.unusedVariables false
open Go.Fw
theorem awake_true:Qe2=true:=by kernel_rfl
theorem back_true {s:State} (hu:UW s) (cut:Int) (behind:ByteArray):QB7 s cut behind=true:=by
 unfold QB7
 cases hf0:((!(Q73 s))||(decide ((ByteArray.size behind:Int) > 1000))) with
 | true=>exact awake_true
 | false =>
  obtain ⟨hf1,hf2⟩:=or_f hf0
  have hf:Q73 s=true:=by simpa using hf1
  have hbe:=of_decide_eq_false hf2
  simp only [cond_false]
  by_cases hc:Qm1 s=0
  ·have hfit:=few_fit hu hf hc
   have hsz:=QT1 hf
   have hsz2:=EImg_len (few_sz hf).1
   have hbs:Qi0 (QH1 (EImg s))=EImg s:=QZ6 (Qpf s)
   have hbl:(QH1 (EImg s)).size=(EImg s).length:=Go.Proofs.YtgjcljceccfgjaaGreatDoor.bytesStr_size _
   rw [Qad hc]
   dsimp only
   generalize hb:QH1 (EImg s)=b at hbs hbl
   have e1:=Qsc (b:=b) (by omega) hfit hc hbs
   have last:((((Qv0 (b++behind)).2==0)==(ByteArray.toList behind==ByteArray.toList ⟨#[]⟩))&&Qe2)=true:=by
    have happ:Qi0 (b++behind)=EImg s++Qi0 behind:=by rw [Q11,hbs]
    have hz2:(b++behind).size<=4294967296:=by rw [ByteArray.size_append];omega
    by_cases hq:Qi0 behind=[]
    ·have hbe0:behind=⟨#[]⟩:=QY6 (by rw [hq];rfl)
     rw [hq,List.append_nil] at happ
     rw [Qsc hz2 hfit hc happ,hbe0,awake_true]
     simp
    ·have hne:(ByteArray.toList behind==ByteArray.toList ⟨#[]⟩)=false:=by
      cases hh:(ByteArray.toList behind==ByteArray.toList ⟨#[]⟩) with
      | false=>rfl
      | true=>exact absurd (by rw [(QP9 _ _).1 hh];rfl) hq
     rw [decode_behind hz2 hfit happ hq,hne,awake_true]
     rfl
   rw [e1,last]
   simp only [(ref25_same _ _).2 rfl]
   cases hcut:((decide (cut >= 0))&&(decide (cut<(ByteArray.size b:Int)))) with
   | false=>rfl
   | true =>
    simp only [Bool.and_eq_true,decide_eq_true_eq] at hcut
    have hbp:Qi0 (b.extract 0 (Int.toNat cut))=(EImg s).take cut.toNat:=by rw [Qn7,hbs];rfl
    have he:(Qv0 (b.extract 0 (Int.toNat cut))).2=280:=by
     by_cases h0:(Qv0 (b.extract 0 (Int.toNat cut))).2=0
     ·exfalso
      obtain ⟨t1,t2,t3⟩:=Qp9 (b:=b.extract 0 (Int.toNat cut)) (by rw [ByteArray.size_extract];omega) h0
      generalize (Qv0 (b.extract 0 (Int.toNat cut))).1=t at t1 t2 t3
      rw [hbp] at t3
      have hspl:Qi0 b=EImg t++(EImg s).drop cut.toNat:=by rw [hbs,← t3,List.take_append_drop]
      have p1:=(QKb (b:=b) (by omega) t1 hspl).2
      have p2:=(QKb (b:=b) (q:=[]) (by omega) hfit (by rw [hbs,List.append_nil])).2
      rw [p1] at p2
      have p3:=congrArg (fun z=>z.2.at_) p2
      dsimp only at p3
      have p4:=congrArg List.length t3
      rw [List.length_take] at p4
      omega
     ·rw [QCb h0]
    rw [he]
    rfl
  ·rw [Qae hc,awake_true]
   simp
end Go.Proofs.YtgjcljceccfgjaaGreatDoor
namespace Go.Proofs.YtgjcljceccfgjaaGreatDoor
set_option linter.unusedSimpArgs false
set_option linter.unusedVariables false
open Go.Fw Go.RowKit Go.ChangeShapes Go.WideShapes
theorem lawOwn:ownKnob Tryz.prog.godebug=none:=by kernel_rfl
theorem lawLaid:laidOutB Tryz.prog=true:=by kernel_rfl
theorem lawBool:Tryz.prog.underlying 4 = some .bool:=by kernel_rfl
set_option maxRecDepth 100000 in
theorem lawDoor (os:Os) (args:Array Value):laidMetH Tryz.prog Rows.imageBackRow.laid ((World.doorLaid Tryz.prog 400 os).forCall (fun _ _=>0) ⟨#[],args,[]⟩).memory :=
 laidMetH_of_parts3 (fuel:=8) (laidMet_of_run' 8 (by kernel_rfl) (by kernel_rfl)) (by kernel_rfl) (by kernel_rfl)
set_option maxRecDepth 100000 in
theorem Q5f (law:∀ (a0:State) (a1:Int) (a2:ByteArray),State.wf a0->(Lit.int .i64 a1).wf=true->a2.size<=maxLen->AGives Tryz.prog 5 [State.a a0,.lit (.int .i64 a1),Sg a2] [] (.lit (.bool true))) (os:Os) (started:os.Started) (H:Type) (enc:TypeId × Value->H) :
  ReturnsInHanded {} Tryz.checked os 5 .any (fun w args=>(Rows.imageBackSpec.pre enc Tryz.prog Tryz.f5 [] false w args∧laidMetH Tryz.prog Rows.imageBackRow.laid w)∧sizedMet enc Tryz.prog Tryz.f5 (OpenSpec.ofChange Rows.imageBackSpec) false w args)
   (Rows.imageBackSpec.post enc Tryz.prog Tryz.f5 false true false false):=by
 refine QC7 (C:=Tryz.checked) (tb:=4) lawOwn started (by kernel_rfl) Tryz.func5
  (ChangeSpec.witness_shaped (enc:=enc) (C:=Tryz.checked) (os:=os) (X:=fun w _=>laidMetH Tryz.prog Rows.imageBackRow.laid w) false (World.doorLaid Tryz.prog 400 os) #[.agg #[.int .i64 0,.slice none 0 0,.slice none 0 0,.slice none 0 0,.slice none 0 0,.slice none 0 0,.int .i64 0,.int .i64 0],.int .i64 0,.string ⟨#[]⟩] 8 rfl (World.shaped_of_RefB (by kernel_rfl) (by kernel_rfl)) (by kernel_rfl) (by kernel_rfl) (by kernel_rfl) (lawDoor os _)) rfl (by kernel_rfl) lawBool lawLaid (by kernel_rfl) ?_
  (.cons _ _ _ _ _ (ArgAs.struct rfl readState) (.cons _ _ _ _ _ (ArgAs.int ty0) (.cons _ _ _ _ _ (ArgAs.string ty2) .nil))) ?_
 ·intro ds hd
  match ds,hd with
  | [_,_,_],_=>rfl
 ·rintro l ⟨a0,m0,g0,⟨a1,m1,g1,⟨a2,m2,g2,rfl,rfl⟩,rfl⟩,rfl⟩
  exact law a0 a1 a2 g0 g1 g2
theorem Q4f (law:∀ (a0:State) (a1:Int) (a2:ByteArray),State.wf a0->(Lit.int .i64 a1).wf=true->a2.size<=maxLen->AGives Tryz.prog 5 [State.a a0,.lit (.int .i64 a1),Sg a2] [] (.lit (.bool true))):Rows.ImageBackSaid :=
 OpenClaim.holds_of_wide 5 Tryz.f5 rfl rfl rfl rfl rfl rfl rfl ⟨rfl,rfl,rfl,rfl,rfl⟩ rfl rfl rfl rfl rfl (by kernel_rfl) Tryz.func5 (by kernel_rfl)
  (of_decide_eq_true (by kernel_rfl)) (by unfold Func.isWrapper;first|(rw [if_pos (by decide +kernel)];kernel_rfl)|(rw [if_neg (by decide +kernel)];exact ⟨rfl,rfl⟩))
  (fun os started H enc _=>Q5f law os started H enc)
theorem QZa (law:∀ (a0:State) (a1:Int) (a2:ByteArray),State.wf a0->(Lit.int .i64 a1).wf=true->a2.size<=maxLen->AGives Tryz.prog 5 [State.a a0,.lit (.int .i64 a1),Sg a2] [] (.lit (.bool true))):Rows.ImageBackCardSaid :=
 Claim7.holds_tied_plain_at .later [] [.data, .data, .data, .sentinel, .sentinel] true (true, "0de8dfd6e9f6e6fd0252637fa26b7ecdc593213eb0a69015ca25051db5914a86") true
  (Q4f law) (fun _ h=>by cases h) (by kernel_rfl) (fun _ h=>by cases h) imageBack_row_tie rfl ⟨rfl,rfl⟩ (by kernel_rfl) rfl
  (fun f fn hf hfn=>by
   obtain rfl : f = 5 := Option.some.inj ((show Tryz.prog.funcNamed "muster/musterlaw28.ImageBack" = some 5 by kernel_rfl).symm.trans hf) |>.symm
   obtain rfl:fn = Tryz.f5:=(Option.some.inj (Tryz.func5.symm.trans hfn)).symm
   exact ⟨by kernel_rfl,fun j t ht=>by
    rcases j with _|_|_|j
    ·obtain rfl:t = 28:=(Option.some.inj ((show Tryz.f5.params[0]? = some 28 by kernel_rfl).symm.trans ht)).symm
     exact (show Tryz.prog.wantsStandIn 28 = false by kernel_rfl)
    ·obtain rfl:t = 3:=(Option.some.inj ((show Tryz.f5.params[1]? = some 3 by kernel_rfl).symm.trans ht)).symm
     exact (show Tryz.prog.wantsStandIn 3 = false by kernel_rfl)
    ·obtain rfl:t = 9:=(Option.some.inj ((show Tryz.f5.params[2]? = some 9 by kernel_rfl).symm.trans ht)).symm
     exact (show Tryz.prog.wantsStandIn 9 = false by kernel_rfl)
    ·exact absurd ht (by rw [show Tryz.f5.params[j+3]? = none from Array.getElem?_eq_none (by show Tryz.f5.params.size<=j+3;rw [show Tryz.f5.params.size=3 by kernel_rfl];omega)];exact fun h=>nomatch h)⟩)
  (by kernel_rfl)
#print axioms QZa
end Go.Proofs.YtgjcljceccfgjaaGreatDoor
namespace Go.Proofs.YtgjcljceccfgjaaGreatDoor
set_option linter.unusedSimpArgs false
set_option linter.unusedVariables false
open Go.Fw
theorem wf_UW {s:State} (h:s.wf):UW s :=
 ⟨fun x hx=>by obtain ⟨_,_,_,_,_,_,_,_,_,_,_,_,_,_,q,_⟩:=h.2.2.1.2 x hx;exact wf_u64 q,fun r hr=>by obtain ⟨_,_,q1,q2,_⟩:=h.2.2.2.1.2 r hr;exact ⟨wf_u64 q1,wf_u64 q2⟩⟩
theorem QPf (a:State) (b:Int) (c:ByteArray) (ha:a.wf) (_:(Lit.int .i64 b).wf=true) (hc:c.size<=maxLen):AGives Tryz.prog 5 [State.a a,I b,Sg c] [] (.lit (.bool true)):=by
 have h:=Qge a b c (State.wf_szM ha) hc []
 rw [back_true (wf_UW ha) b c] at h
 exact h
theorem imageBack_card:Rows.ImageBackCardSaid:=QZa QPf
#print axioms imageBack_card
end Go.Proofs.YtgjcljceccfgjaaGreatDoor
