/-
  StateChecks holds for every input: any state may be, or not, with the document's nodes of any job, and its resize; so many nodes make the document's state, or none. No condition.
-/
import Derived.Test.YtoionleakeemlaaGreatDoorG14
import Derived.Test.YtoionleakeemlaaGreatDoorTie
import Derived.Test.YtoionleakeemlaaGreatDoorCards
import Derived.Test.YtoionleakeemlaaGreatDoorRows
import Derived.ProofKit
import Derived.LaidMore
import Derived.OpenShut
import Derived.SevenTiedAt
import Derived.Test.YtoionleakeemlaaGreatDoorG16
namespace Go.Proofs.YtoionleakeemlaaGreatDoor
set_option linter.unusedSimpArgs false
set_option linter.unusedVariables false
open Go.Fw Go.RowKit Go.ChangeShapes Go.WideShapes
theorem lawOwn : ownKnob Tryz.prog.godebug = none := by kernel_rfl
theorem lawLaid : laidOutB Tryz.prog = true := by kernel_rfl
theorem lawBool : Tryz.prog.underlying 4 = some .bool := by kernel_rfl
set_option maxRecDepth 100000 in
theorem lawDoor (os : Os) (args : Array Value) : laidMetH Tryz.prog Rows.stateChecksRow.laid ((World.doorLaid Tryz.prog 400 os).forCall (fun _ _ => 0) ⟨#[], args, []⟩).memory :=
  laidMetH_of_parts3 (fuel := 8) (laidMet_of_run' 8 (by kernel_rfl) (by kernel_rfl)) (by kernel_rfl) (by kernel_rfl)
set_option maxRecDepth 100000 in
theorem stateChecks_lifted (law : ∀ (a0 : State) (a1 : Int), State.wf a0 → (Lit.int .i64 a1).wf = true → AGives Tryz.prog 3 [State.a a0, .lit (.int .i64 a1)] [] (.lit (.bool true))) (os : Os) (started : os.Started) (H : Type) (enc : TypeId × Value → H) :
    ReturnsInHanded {} Tryz.checked os 3 .any (fun w args => (Rows.stateChecksSpec.pre enc Tryz.prog Tryz.f3 [] false w args ∧ laidMetH Tryz.prog Rows.stateChecksRow.laid w) ∧ sizedMet enc Tryz.prog Tryz.f3 (OpenSpec.ofChange Rows.stateChecksSpec) false w args)
      (Rows.stateChecksSpec.post enc Tryz.prog Tryz.f3 false true false false) := by
  refine law_lifted_laid (C := Tryz.checked) (tb := 4) lawOwn started (by kernel_rfl) Tryz.func3
    (ChangeSpec.witness_shaped (enc := enc) (C := Tryz.checked) (os := os) (X := fun w _ => laidMetH Tryz.prog Rows.stateChecksRow.laid w) false (World.doorLaid Tryz.prog 400 os) #[.agg #[.int .i64 0, .slice none 0 0, .slice none 0 0, .slice none 0 0, .slice none 0 0, .slice none 0 0, .int .i64 0, .int .i64 0], .int .i64 0] 8 rfl (World.shaped_of_RefB (by kernel_rfl) (by kernel_rfl)) (by kernel_rfl) (by kernel_rfl) (by kernel_rfl) (lawDoor os _)) rfl (by kernel_rfl) lawBool lawLaid (by kernel_rfl) ?_
    (.cons _ _ _ _ _ (ArgAs.struct rfl readState) (.cons _ _ _ _ _ (ArgAs.int ty0) .nil)) ?_
  · intro ds hd
    match ds, hd with
    | [_, _], _ => rfl
  · rintro l ⟨a0, m0, g0, ⟨a1, m1, g1, rfl, rfl⟩, rfl⟩
    exact law a0 a1 g0 g1
theorem stateChecks_holds0 (law : ∀ (a0 : State) (a1 : Int), State.wf a0 → (Lit.int .i64 a1).wf = true → AGives Tryz.prog 3 [State.a a0, .lit (.int .i64 a1)] [] (.lit (.bool true))) : Rows.StateChecksSaid :=
  OpenClaim.holds_of_wide 3 Tryz.f3 rfl rfl rfl rfl rfl rfl rfl ⟨rfl, rfl, rfl, rfl, rfl⟩ rfl rfl rfl rfl rfl (by kernel_rfl) Tryz.func3 (by kernel_rfl)
    (of_decide_eq_true (by kernel_rfl)) (by unfold Func.isWrapper; first | (rw [if_pos (by decide +kernel)]; kernel_rfl) | (rw [if_neg (by decide +kernel)]; exact ⟨rfl, rfl⟩))
    (fun os started H enc _ => stateChecks_lifted law os started H enc)
theorem stateChecks_card0 (law : ∀ (a0 : State) (a1 : Int), State.wf a0 → (Lit.int .i64 a1).wf = true → AGives Tryz.prog 3 [State.a a0, .lit (.int .i64 a1)] [] (.lit (.bool true))) : Rows.StateChecksCardSaid :=
  Claim7.holds_tied_plain_at .later [] [.data, .data, .data, .sentinel, .sentinel] true (true, "912960aecad79bc6638f11a3a8ee6bfcf760c9d76e3e2340151ccd96f30b319f") true
    (stateChecks_holds0 law) (fun _ h => by cases h) (by kernel_rfl) (fun _ h => by cases h) stateChecks_row_tie rfl ⟨rfl, rfl⟩ (by kernel_rfl) rfl
    (fun f fn hf hfn => by
      obtain rfl : f = 3 := Option.some.inj ((show Tryz.prog.funcNamed "muster/musterlaw25.StateChecks" = some 3 by kernel_rfl).symm.trans hf) |>.symm
      obtain rfl : fn = Tryz.f3 := (Option.some.inj (Tryz.func3.symm.trans hfn)).symm
      exact ⟨by kernel_rfl, fun j t ht => by
        rcases j with _ | _ | j
        · obtain rfl : t = 28 := (Option.some.inj ((show Tryz.f3.params[0]? = some 28 by kernel_rfl).symm.trans ht)).symm
          exact (show Tryz.prog.wantsStandIn 28 = false by kernel_rfl)
        · obtain rfl : t = 3 := (Option.some.inj ((show Tryz.f3.params[1]? = some 3 by kernel_rfl).symm.trans ht)).symm
          exact (show Tryz.prog.wantsStandIn 3 = false by kernel_rfl)
        · exact absurd ht (by rw [show Tryz.f3.params[j + 2]? = none from Array.getElem?_eq_none (by show Tryz.f3.params.size ≤ j + 2; rw [show Tryz.f3.params.size = 2 by kernel_rfl]; omega)]; exact fun h => nomatch h)⟩)
    (by kernel_rfl)
#print axioms stateChecks_card0
end Go.Proofs.YtoionleakeemlaaGreatDoor
namespace Go.Proofs.YtoionleakeemlaaGreatDoor
set_option linter.unusedSimpArgs false
set_option linter.unusedVariables false
open Go.Fw
theorem stateChecks_gives (a : State) (n : Int) (ha : a.wf) (_ : (Lit.int .i64 n).wf = true) : AGives Tryz.prog 3 [State.a a, .lit (.int .i64 n)] [] (.lit (.bool true)) := by
  have h := law25_StateChecks_c a n (State.wf_szM ha) []
  rw [stateChecks_true a n ha] at h
  exact h
theorem stateChecks_card : Rows.StateChecksCardSaid := stateChecks_card0 stateChecks_gives
#print axioms stateChecks_card
end Go.Proofs.YtoionleakeemlaaGreatDoor
