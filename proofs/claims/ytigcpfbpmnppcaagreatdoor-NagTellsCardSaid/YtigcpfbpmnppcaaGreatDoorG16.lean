/-
  Contracts of functions, printed by a program of this repo (wip/dec). No condition beyond those that stand in each.
  The answers that the document fixes for layer 27. No condition.
  NagTells' plain law: what is sent again, late, stale and over is the document's. Condition: the state is read.
  In any state what is not answered is sent again, and told to be late, stale or over, as the document says. No condition.
  NagTells holds for every input: In any state what is not answered is sent again, and told to be late, stale or over, as the document says. No condition.
-/
import Derived.Test.YtigcpfbpmnppcaaGreatDoorG15
import Derived.Test.YtigcpfbpmnppcaaGreatDoorProg
import Derived.Test.YtigcpfbpmnppcaaGreatDoorG13
import Derived.Test.YtigcpfbpmnppcaaGreatDoorTie
import Derived.Test.YtigcpfbpmnppcaaGreatDoorCards
import Derived.Test.YtigcpfbpmnppcaaGreatDoorRows
import Derived.ProofKit
import Derived.LaidMore
import Derived.OpenShut
import Derived.SevenTiedAt
namespace Go.Proofs.YtigcpfbpmnppcaaGreatDoor
set_option linter.unusedSimpArgs false
set_option linter.unusedVariables false
open Go.Fw
set_option maxRecDepth 20000
set_option maxHeartbeats 4000000
attribute [local irreducible] ACalls AMoves
def law27_NagTells (s : State) : Bool := bif (!(law20_Few s)) then law27_awake else ((((((ref25_Same ((nag_Resend s).1) ((ref27_Resend s).1)) && (ref13_SameNotes ((nag_Resend s).2) ((ref27_Resend s).2))) && (ref09_SameInts (nag_Late s) (ref27_Late s))) && (ref09_SameInts (nag_Stale s) (ref27_Stale s))) && (ref09_SameInts (nag_Over s) (ref27_Over s))) && law27_awake)
theorem law27_NagTells_c (s : State) (hs0 : s.szM) (hp0 : s.wf) : ∀ objs, AGives Tryz.prog 4 [State.a s] objs (Bo (law27_NagTells s)) := by
 generalize hR : law27_NagTells s = R; refine ga (.cons (State.low _ _) .nil) lx (kp 7 [9]) Tryz.func4 ?_; have hk0 := hs0; obtain ⟨z3, z4, z5, z6, z7, z8, z9⟩ : s.nodes.length <= 9223372036854775807 ∧ s.jobs.length <= 9223372036854775807 ∧ (∀ y ∈ s.jobs, y.szM) ∧ s.resizes.length <= 9223372036854775807 ∧ s.books.length <= 9223372036854775807 ∧ s.ledger.length <= 9223372036854775807 ∧ (∀ y ∈ s.ledger, y.szM) := hs0; refine us (law20_Few_c s (by first | (have q := tells_sz hp0 h2; obtain ⟨q0, q1, q2, q3, q4, q5, q6, q7, q8, q9, q10⟩ := q; assumption) | exact szA) _) ?_; refine ai (fun h1 => ?_) (fun h2 => ?_)
 ·refine us (law27_awake_c _) ?_; obtain rfl := foll hR (ct h1 rfl); exact ret_seen lx sr
 ·refine us (nag_Resend_c s (by first | (have q := tells_sz hp0 h2; obtain ⟨q0, q1, q2, q3, q4, q5, q6, q7, q8, q9, q10⟩ := q; assumption) | exact szA) _) ?_; refine us (ref27_Resend_c s (by first | (have q := tells_sz hp0 h2; obtain ⟨q0, q1, q2, q3, q4, q5, q6, q7, q8, q9, q10⟩ := q; assumption) | exact szA) _) ?_; refine dchk (by kernel_rfl) ?_; (first | apply u2 | apply u3 | apply u4 | apply us); exact ref25_Same_c ((nag_Resend s).1) ((ref27_Resend s).1) (by first | (have q := tells_sz hp0 h2; obtain ⟨q0, q1, q2, q3, q4, q5, q6, q7, q8, q9, q10⟩ := q; assumption) | exact szA) (by first | (have q := tells_sz hp0 h2; obtain ⟨q0, q1, q2, q3, q4, q5, q6, q7, q8, q9, q10⟩ := q; assumption) | exact szA) _; (first | apply u3g | apply u4g); exact fun hg => ref13_SameNotes_c ((nag_Resend s).2) ((ref27_Resend s).2) (by first | (have q := tells_sz hp0 h2; obtain ⟨q0, q1, q2, q3, q4, q5, q6, q7, q8, q9, q10⟩ := q; assumption) | exact szA) (by first | (have q := tells_sz hp0 h2; obtain ⟨q0, q1, q2, q3, q4, q5, q6, q7, q8, q9, q10⟩ := q; assumption) | exact szA) _; (first | apply u3g | apply u4g); exact fun hg => nag_Late_c s (by first | (have q := tells_sz hp0 h2; obtain ⟨q0, q1, q2, q3, q4, q5, q6, q7, q8, q9, q10⟩ := q; assumption) | exact szA) _; (first | apply u3g | apply u4g); exact fun hg => ref27_Late_c s (by first | (have q := tells_sz hp0 h2; obtain ⟨q0, q1, q2, q3, q4, q5, q6, q7, q8, q9, q10⟩ := q; assumption) | exact szA) _; (first | apply u3g | apply u4g); exact fun hg => ref09_SameInts_c (nag_Late s) (ref27_Late s) (by first | (have q := tells_sz hp0 h2; obtain ⟨q0, q1, q2, q3, q4, q5, q6, q7, q8, q9, q10⟩ := q; assumption) | exact szA) (by first | (have q := tells_sz hp0 h2; obtain ⟨q0, q1, q2, q3, q4, q5, q6, q7, q8, q9, q10⟩ := q; assumption) | exact szA) _; (first | apply u3g | apply u4g); exact fun hg => nag_Stale_c s (by first | (have q := tells_sz hp0 h2; obtain ⟨q0, q1, q2, q3, q4, q5, q6, q7, q8, q9, q10⟩ := q; assumption) | exact szA) _; (first | apply u3g | apply u4g); exact fun hg => ref27_Stale_c s (by first | (have q := tells_sz hp0 h2; obtain ⟨q0, q1, q2, q3, q4, q5, q6, q7, q8, q9, q10⟩ := q; assumption) | exact szA) _; (first | apply u3g | apply u4g); exact fun hg => ref09_SameInts_c (nag_Stale s) (ref27_Stale s) (by first | (have q := tells_sz hp0 h2; obtain ⟨q0, q1, q2, q3, q4, q5, q6, q7, q8, q9, q10⟩ := q; assumption) | exact szA) (by first | (have q := tells_sz hp0 h2; obtain ⟨q0, q1, q2, q3, q4, q5, q6, q7, q8, q9, q10⟩ := q; assumption) | exact szA) _; (first | apply u3g | apply u4g); exact fun hg => nag_Over_c s (by first | (have q := tells_sz hp0 h2; obtain ⟨q0, q1, q2, q3, q4, q5, q6, q7, q8, q9, q10⟩ := q; assumption) | exact szA) _; (first | apply u3g | apply u4g); exact fun hg => ref27_Over_c s (by first | (have q := tells_sz hp0 h2; obtain ⟨q0, q1, q2, q3, q4, q5, q6, q7, q8, q9, q10⟩ := q; assumption) | exact szA) _; (first | apply u3g | apply u4g); exact fun hg => ref09_SameInts_c (nag_Over s) (ref27_Over s) (by first | (have q := tells_sz hp0 h2; obtain ⟨q0, q1, q2, q3, q4, q5, q6, q7, q8, q9, q10⟩ := q; assumption) | exact szA) (by first | (have q := tells_sz hp0 h2; obtain ⟨q0, q1, q2, q3, q4, q5, q6, q7, q8, q9, q10⟩ := q; assumption) | exact szA) _; (first | apply u3g | apply u4g); exact fun hg => law27_awake_c _; (repeat ((first | refine ai rfl ?_ | refine ai (fun _ => rfl) ?_ | refine ai (fun _ => ref25_Same_c ((nag_Resend s).1) ((ref27_Resend s).1) (by first | (have q := tells_sz hp0 h2; obtain ⟨q0, q1, q2, q3, q4, q5, q6, q7, q8, q9, q10⟩ := q; assumption) | exact szA) (by first | (have q := tells_sz hp0 h2; obtain ⟨q0, q1, q2, q3, q4, q5, q6, q7, q8, q9, q10⟩ := q; assumption) | exact szA) _) ?_ | refine ai (fun _ => ref13_SameNotes_c ((nag_Resend s).2) ((ref27_Resend s).2) (by first | (have q := tells_sz hp0 h2; obtain ⟨q0, q1, q2, q3, q4, q5, q6, q7, q8, q9, q10⟩ := q; assumption) | exact szA) (by first | (have q := tells_sz hp0 h2; obtain ⟨q0, q1, q2, q3, q4, q5, q6, q7, q8, q9, q10⟩ := q; assumption) | exact szA) _) ?_ | refine ai (fun _ => nag_Late_c s (by first | (have q := tells_sz hp0 h2; obtain ⟨q0, q1, q2, q3, q4, q5, q6, q7, q8, q9, q10⟩ := q; assumption) | exact szA) _) ?_ | refine ai (fun _ => ref27_Late_c s (by first | (have q := tells_sz hp0 h2; obtain ⟨q0, q1, q2, q3, q4, q5, q6, q7, q8, q9, q10⟩ := q; assumption) | exact szA) _) ?_ | refine ai (fun _ => ref09_SameInts_c (nag_Late s) (ref27_Late s) (by first | (have q := tells_sz hp0 h2; obtain ⟨q0, q1, q2, q3, q4, q5, q6, q7, q8, q9, q10⟩ := q; assumption) | exact szA) (by first | (have q := tells_sz hp0 h2; obtain ⟨q0, q1, q2, q3, q4, q5, q6, q7, q8, q9, q10⟩ := q; assumption) | exact szA) _) ?_ | refine ai (fun _ => nag_Stale_c s (by first | (have q := tells_sz hp0 h2; obtain ⟨q0, q1, q2, q3, q4, q5, q6, q7, q8, q9, q10⟩ := q; assumption) | exact szA) _) ?_ | refine ai (fun _ => ref27_Stale_c s (by first | (have q := tells_sz hp0 h2; obtain ⟨q0, q1, q2, q3, q4, q5, q6, q7, q8, q9, q10⟩ := q; assumption) | exact szA) _) ?_ | refine ai (fun _ => ref09_SameInts_c (nag_Stale s) (ref27_Stale s) (by first | (have q := tells_sz hp0 h2; obtain ⟨q0, q1, q2, q3, q4, q5, q6, q7, q8, q9, q10⟩ := q; assumption) | exact szA) (by first | (have q := tells_sz hp0 h2; obtain ⟨q0, q1, q2, q3, q4, q5, q6, q7, q8, q9, q10⟩ := q; assumption) | exact szA) _) ?_ | refine ai (fun _ => nag_Over_c s (by first | (have q := tells_sz hp0 h2; obtain ⟨q0, q1, q2, q3, q4, q5, q6, q7, q8, q9, q10⟩ := q; assumption) | exact szA) _) ?_ | refine ai (fun _ => ref27_Over_c s (by first | (have q := tells_sz hp0 h2; obtain ⟨q0, q1, q2, q3, q4, q5, q6, q7, q8, q9, q10⟩ := q; assumption) | exact szA) _) ?_ | refine ai (fun _ => ref09_SameInts_c (nag_Over s) (ref27_Over s) (by first | (have q := tells_sz hp0 h2; obtain ⟨q0, q1, q2, q3, q4, q5, q6, q7, q8, q9, q10⟩ := q; assumption) | exact szA) (by first | (have q := tells_sz hp0 h2; obtain ⟨q0, q1, q2, q3, q4, q5, q6, q7, q8, q9, q10⟩ := q; assumption) | exact szA) _) ?_ | refine ai (fun _ => law27_awake_c _) ?_))); obtain rfl := foll hR (cf h2 rfl); exact ret_seen lx sr
end Go.Proofs.YtigcpfbpmnppcaaGreatDoor
namespace Go.Proofs.YtigcpfbpmnppcaaGreatDoor
set_option linter.unusedSimpArgs false
set_option linter.unusedVariables false
open Go.Fw
theorem awake27 : law27_awake = true := by kernel_rfl
end Go.Proofs.YtigcpfbpmnppcaaGreatDoor
namespace Go.Proofs.YtigcpfbpmnppcaaGreatDoor
set_option linter.unusedSimpArgs false
set_option linter.unusedVariables false
open Go.Fw
theorem nagTells_true (s : State) (h : s.wf) : law27_NagTells s = true := by
 unfold law27_NagTells
 cases hf : law20_Few s with
 | false => exact awake27
 | true =>
  have hw := State.wf_words h (law20_Few_sz hf)
  simp only [Bool.not_true, cond_false]
  rw [resend_eq hw, late_eq hw, stale_eq hw, over_eq27 hw, (ref25_same _ _).2 rfl, same_notes, same_ints, same_ints, same_ints, awake27]
  rfl
end Go.Proofs.YtigcpfbpmnppcaaGreatDoor
namespace Go.Proofs.YtigcpfbpmnppcaaGreatDoor
set_option linter.unusedSimpArgs false
set_option linter.unusedVariables false
open Go.Fw Go.RowKit Go.ChangeShapes Go.WideShapes
theorem lawOwn : ownKnob Tryz.prog.godebug = none := by kernel_rfl
theorem lawLaid : laidOutB Tryz.prog = true := by kernel_rfl
theorem lawBool : Tryz.prog.underlying 4 = some .bool := by kernel_rfl
set_option maxRecDepth 100000 in
theorem lawDoor (os : Os) (args : Array Value) : laidMetH Tryz.prog Rows.nagTellsRow.laid ((World.doorLaid Tryz.prog 400 os).forCall (fun _ _ => 0) ⟨#[], args, []⟩).memory :=
 laidMetH_of_parts3 (fuel := 8) (laidMet_of_run' 8 (by kernel_rfl) (by kernel_rfl)) (by kernel_rfl) (by kernel_rfl)
set_option maxRecDepth 100000 in
theorem nagTells_lifted (law : ∀ (a0 : State), State.wf a0 -> AGives Tryz.prog 4 [State.a a0] [] (.lit (.bool true))) (os : Os) (started : os.Started) (H : Type) (enc : TypeId × Value -> H) :
  ReturnsInHanded {} Tryz.checked os 4 .any (fun w args => (Rows.nagTellsSpec.pre enc Tryz.prog Tryz.f4 [] false w args ∧ laidMetH Tryz.prog Rows.nagTellsRow.laid w) ∧ sizedMet enc Tryz.prog Tryz.f4 (OpenSpec.ofChange Rows.nagTellsSpec) false w args)
   (Rows.nagTellsSpec.post enc Tryz.prog Tryz.f4 false true false false) := by
 refine law_lifted_laid (C := Tryz.checked) (tb := 4) lawOwn started (by kernel_rfl) Tryz.func4
  (ChangeSpec.witness_shaped (enc := enc) (C := Tryz.checked) (os := os) (X := fun w _ => laidMetH Tryz.prog Rows.nagTellsRow.laid w) false (World.doorLaid Tryz.prog 400 os) #[.agg #[.int .i64 0, .slice none 0 0, .slice none 0 0, .slice none 0 0, .slice none 0 0, .slice none 0 0, .int .i64 0, .int .i64 0]] 8 rfl (World.shaped_of_RefB (by kernel_rfl) (by kernel_rfl)) (by kernel_rfl) (by kernel_rfl) (by kernel_rfl) (lawDoor os _)) rfl (by kernel_rfl) lawBool lawLaid (by kernel_rfl) ?_
  (.cons _ _ _ _ _ (ArgAs.struct rfl readState) .nil) ?_
 ·intro ds hd
  match ds, hd with
  | [_], _ => rfl
 ·rintro l ⟨a0, m0, g0, rfl, rfl⟩
  exact law a0 g0
theorem nagTells_holds0 (law : ∀ (a0 : State), State.wf a0 -> AGives Tryz.prog 4 [State.a a0] [] (.lit (.bool true))) : Rows.NagTellsSaid :=
 OpenClaim.holds_of_wide 4 Tryz.f4 rfl rfl rfl rfl rfl rfl rfl ⟨rfl, rfl, rfl, rfl, rfl⟩ rfl rfl rfl rfl rfl (by kernel_rfl) Tryz.func4 (by kernel_rfl)
  (of_decide_eq_true (by kernel_rfl)) (by unfold Func.isWrapper; first | (rw [if_pos (by decide +kernel)]; kernel_rfl) | (rw [if_neg (by decide +kernel)]; exact ⟨rfl, rfl⟩))
  (fun os started H enc _ => nagTells_lifted law os started H enc)
theorem nagTells_card0 (law : ∀ (a0 : State), State.wf a0 -> AGives Tryz.prog 4 [State.a a0] [] (.lit (.bool true))) : Rows.NagTellsCardSaid :=
 Claim7.holds_tied_plain_at .later [] [.data, .data, .data, .sentinel, .sentinel] true (true, "4964f6699f38809c81a54ccce3b2ebc1e47cb2e088c00cbe3e446afb9ed0c671") true
  (nagTells_holds0 law) (fun _ h => by cases h) (by kernel_rfl) (fun _ h => by cases h) nagTells_row_tie rfl ⟨rfl, rfl⟩ (by kernel_rfl) rfl
  (fun f fn hf hfn => by
   obtain rfl : f = 4 := Option.some.inj ((show Tryz.prog.funcNamed "muster/musterlaw27.NagTells" = some 4 by kernel_rfl).symm.trans hf) |>.symm
   obtain rfl : fn = Tryz.f4 := (Option.some.inj (Tryz.func4.symm.trans hfn)).symm
   exact ⟨by kernel_rfl, fun j t ht => by
    rcases j with _ | j
    ·obtain rfl : t = 28 := (Option.some.inj ((show Tryz.f4.params[0]? = some 28 by kernel_rfl).symm.trans ht)).symm
     exact (show Tryz.prog.wantsStandIn 28 = false by kernel_rfl)
    ·exact absurd ht (by rw [show Tryz.f4.params[j + 1]? = none from Array.getElem?_eq_none (by show Tryz.f4.params.size <= j + 1; rw [show Tryz.f4.params.size = 1 by kernel_rfl]; omega)]; exact fun h => nomatch h)⟩)
  (by kernel_rfl)
#print axioms nagTells_card0
end Go.Proofs.YtigcpfbpmnppcaaGreatDoor
namespace Go.Proofs.YtigcpfbpmnppcaaGreatDoor
set_option linter.unusedSimpArgs false
set_option linter.unusedVariables false
open Go.Fw
theorem nagTells_gives (a : State) (ha : a.wf) : AGives Tryz.prog 4 [State.a a] [] (.lit (.bool true)) := by
 have h := law27_NagTells_c a (State.wf_szM ha) ha []
 rw [nagTells_true a ha] at h
 exact h
theorem nagTells_card : Rows.NagTellsCardSaid := nagTells_card0 nagTells_gives
#print axioms nagTells_card
end Go.Proofs.YtigcpfbpmnppcaaGreatDoor
