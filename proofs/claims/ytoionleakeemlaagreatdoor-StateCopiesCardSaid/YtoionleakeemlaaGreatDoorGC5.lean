/-
  StateCopies holds for every input: what is done to a copy of a state changes nothing of what it was made of. No condition.
-/
import Derived.Test.YtoionleakeemlaaGreatDoorGC4
import Derived.Test.YtoionleakeemlaaGreatDoorTie
import Derived.Test.YtoionleakeemlaaGreatDoorCards
import Derived.Test.YtoionleakeemlaaGreatDoorRows
import Derived.ProofKit
import Derived.LaidMore
import Derived.OpenShut
import Derived.SevenTiedAt
namespace Go.Proofs.YtoionleakeemlaaGreatDoor
open Go.Fw Go.RowKit Go.ChangeShapes Go.WideShapes

theorem lawOwn : ownKnob Tryz.prog.godebug = none := by kernel_rfl
theorem lawLaid : laidOutB Tryz.prog = true := by kernel_rfl
theorem lawBool : Tryz.prog.underlying 4 = some .bool := by kernel_rfl

set_option maxRecDepth 100000 in
theorem lawDoor (os : Os) (args : Array Value) : laidMetH Tryz.prog Rows.stateCopiesRow.laid ((World.doorLaid Tryz.prog 400 os).forCall (fun _ _ => 0) ⟨#[], args, []⟩).memory :=
  laidMetH_of_parts3 (fuel := 8) (laidMet_of_run' 8 (by kernel_rfl) (by kernel_rfl)) (by kernel_rfl) (by kernel_rfl)

set_option maxRecDepth 100000 in
theorem stateCopies_lifted (law : ∀ a : State, a.wf → AGives Tryz.prog 5 [State.a a] [] (.lit (.bool true))) (os : Os) (started : os.Started) (H : Type) (enc : TypeId × Value → H) :
    ReturnsInHanded {} Tryz.checked os 5 .any (fun w args => (Rows.stateCopiesSpec.pre enc Tryz.prog Tryz.f5 [] false w args ∧ laidMetH Tryz.prog Rows.stateCopiesRow.laid w) ∧ sizedMet enc Tryz.prog Tryz.f5 (OpenSpec.ofChange Rows.stateCopiesSpec) false w args)
      (Rows.stateCopiesSpec.post enc Tryz.prog Tryz.f5 false true false false) := by
  refine law_lifted_laid (C := Tryz.checked) (tb := 4) lawOwn started (by kernel_rfl) Tryz.func5
    (ChangeSpec.witness_shaped (enc := enc) (C := Tryz.checked) (os := os) (X := fun w _ => laidMetH Tryz.prog Rows.stateCopiesRow.laid w) false (World.doorLaid Tryz.prog 400 os) #[.agg #[.int .i64 0, .slice none 0 0, .slice none 0 0, .slice none 0 0, .slice none 0 0, .slice none 0 0, .int .i64 0, .int .i64 0]] 8 rfl (World.shaped_of_RefB (by kernel_rfl) (by kernel_rfl)) (by kernel_rfl) (by kernel_rfl) (by kernel_rfl) (lawDoor os _)) rfl (by kernel_rfl) lawBool lawLaid (by kernel_rfl) ?_
    (.cons _ _ _ _ _ (ArgAs.struct rfl readState) .nil) ?_
  · intro ds hd
    match ds, hd with
    | [_], _ => rfl
  · rintro l ⟨a0, m0, g0, rfl, rfl⟩
    exact law a0 g0

theorem stateCopies_holds0 (law : ∀ a : State, a.wf → AGives Tryz.prog 5 [State.a a] [] (.lit (.bool true))) : Rows.StateCopiesSaid :=
  OpenClaim.holds_of_wide 5 Tryz.f5 rfl rfl rfl rfl rfl rfl rfl ⟨rfl, rfl, rfl, rfl, rfl⟩ rfl rfl rfl rfl rfl (by kernel_rfl) Tryz.func5 (by kernel_rfl)
    (of_decide_eq_true (by kernel_rfl)) (by unfold Func.isWrapper; first | (rw [if_pos (by decide +kernel)]; kernel_rfl) | (rw [if_neg (by decide +kernel)]; exact ⟨rfl, rfl⟩))
    (fun os started H enc _ => stateCopies_lifted law os started H enc)

theorem stateCopies_card0 (law : ∀ a : State, a.wf → AGives Tryz.prog 5 [State.a a] [] (.lit (.bool true))) : Rows.StateCopiesCardSaid :=
  Claim7.holds_tied_plain_at .later [] [.data, .data, .data, .sentinel, .sentinel] true (true, "912960aecad79bc6638f11a3a8ee6bfcf760c9d76e3e2340151ccd96f30b319f") true
    (stateCopies_holds0 law) (fun _ h => by cases h) (by kernel_rfl) (fun _ h => by cases h) stateCopies_row_tie rfl ⟨rfl, rfl⟩ (by kernel_rfl) rfl
    (fun f fn hf hfn => by
      obtain rfl : f = 5 := Option.some.inj ((show Tryz.prog.funcNamed "muster/musterlaw25.StateCopies" = some 5 by kernel_rfl).symm.trans hf) |>.symm
      obtain rfl : fn = Tryz.f5 := (Option.some.inj (Tryz.func5.symm.trans hfn)).symm
      exact ⟨by kernel_rfl, fun j t ht => by
        rcases j with _ | j
        · obtain rfl : t = 28 := (Option.some.inj ((show Tryz.f5.params[0]? = some 28 by kernel_rfl).symm.trans ht)).symm
          exact (show Tryz.prog.wantsStandIn 28 = false by kernel_rfl)
        · exact absurd ht (by rw [show Tryz.f5.params[j + 1]? = none from Array.getElem?_eq_none (by show Tryz.f5.params.size ≤ j + 1; rw [show Tryz.f5.params.size = 1 by kernel_rfl]; omega)]; exact fun h => nomatch h)⟩)
    (by kernel_rfl)

theorem Shape.wf_szM {x : Shape} (h : x.wf) : x.szM := h.2.1.1
theorem Job.wf_szM {x : Job} (h : x.wf) : x.szM := ⟨h.2.1, h.2.2.1, h.2.2.2.1, Shape.wf_szM h.2.2.2.2.1, h.2.2.2.2.2.2.1.1⟩
theorem Usage.wf_szM {x : Usage} (h : x.wf) : x.szM := ⟨h.1, h.2.1⟩
theorem State.wf_szM {x : State} (h : x.wf) : x.szM :=
  ⟨h.2.1.1, h.2.2.1.1, fun y hy => Job.wf_szM (h.2.2.1.2 y hy), h.2.2.2.1.1, h.2.2.2.2.1.1, h.2.2.2.2.2.1.1, fun y hy => Usage.wf_szM (h.2.2.2.2.2.1.2 y hy)⟩
theorem stateCopies_gives (a : State) (ha : a.wf) : AGives Tryz.prog 5 [State.a a] [] (.lit (.bool true)) := copies_c a (State.wf_szM ha) []

theorem stateCopies_card : Rows.StateCopiesCardSaid := stateCopies_card0 stateCopies_gives
#print axioms stateCopies_card
end Go.Proofs.YtoionleakeemlaaGreatDoor
