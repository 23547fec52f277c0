/-
  A world that no call made answers that it is none. No condition.
-/
import Derived.Test.YtalhamokkblnjaaGreatDoorQ6
import Derived.Test.YtalhamokkblnjaaGreatDoorQWorldNobodyK
import Derived.Test.YtalhamokkblnjaaGreatDoorQOtc
import Derived.Test.YtalhamokkblnjaaGreatDoorCards
import Derived.Test.YtalhamokkblnjaaGreatDoorRows
import Derived.ProofKit
import Derived.LaidMore
import Derived.OpenShut
import Derived.SevenTiedAt
namespace Go.Proofs.YtalhamokkblnjaaGreatDoor
set_option linter.unusedSimpArgs false
set_option linter.unusedVariables false
open Go.Fw Go.RowKit Go.ChangeShapes Go.WideShapes

theorem lawOwn : ownKnob Tryz.prog.godebug = none := by kernel_rfl
theorem lawLaid : laidOutB Tryz.prog = true := by kernel_rfl
theorem lawBool : Tryz.prog.underlying 4 = some .bool := by kernel_rfl

set_option maxRecDepth 100000 in
theorem lawDoor (os : Os) (args : Array Value) : laidMetH Tryz.prog Rows.worldNobodyRow.laid ((World.doorLaid Tryz.prog 400 os).forCall (fun _ _ => 0) ⟨#[], args, []⟩).memory :=
  laidMetH_of_parts3 (fuel := 8) (laidMet_of_run' 8 (by kernel_rfl) (by kernel_rfl)) (by kernel_rfl) (by kernel_rfl)

set_option maxRecDepth 100000 in
theorem worldNobody_lifted (law : ∀ (a0 : Ac) (a1 : Int), Ac.wf a0 → (Lit.int .i64 a1).wf = true → AGives Tryz.prog 3 [Ac.a a0, .lit (.int .i64 a1)] [] (.lit (.bool true))) (os : Os) (started : os.Started) (H : Type) (enc : TypeId × Value → H) :
    ReturnsInHanded {} Tryz.checked os 3 .any (fun w args => (Rows.worldNobodySpec.pre enc Tryz.prog Tryz.f3 [] false w args ∧ laidMetH Tryz.prog Rows.worldNobodyRow.laid w) ∧ sizedMet enc Tryz.prog Tryz.f3 (OpenSpec.ofChange Rows.worldNobodySpec) false w args)
      (Rows.worldNobodySpec.post enc Tryz.prog Tryz.f3 false true false false) := by
  refine law_lifted_laid (C := Tryz.checked) (tb := 4) lawOwn started (by kernel_rfl) Tryz.func3
    (ChangeSpec.witness_shaped (enc := enc) (C := Tryz.checked) (os := os) (X := fun w _ => laidMetH Tryz.prog Rows.worldNobodyRow.laid w) false (World.doorLaid Tryz.prog 400 os) #[.agg #[.int .i64 0, .int .i64 0, .int .i64 0, .bool false, .string ⟨#[]⟩], .int .i64 0] 8 rfl (World.shaped_of_RefB (by kernel_rfl) (by kernel_rfl)) (by kernel_rfl) (by kernel_rfl) (by kernel_rfl) (lawDoor os _)) rfl (by kernel_rfl) lawBool lawLaid (by kernel_rfl) ?_
    (.cons _ _ _ _ _ (ArgAs.struct rfl readAc) (.cons _ _ _ _ _ (ArgAs.int ty0) .nil)) ?_
  · intro ds hd
    match ds, hd with
    | [_, _], _ => rfl
  · rintro l ⟨a0, m0, g0, ⟨a1, m1, g1, rfl, rfl⟩, rfl⟩
    exact law a0 a1 g0 g1

theorem worldNobody_holds0 (law : ∀ (a0 : Ac) (a1 : Int), Ac.wf a0 → (Lit.int .i64 a1).wf = true → AGives Tryz.prog 3 [Ac.a a0, .lit (.int .i64 a1)] [] (.lit (.bool true))) : Rows.WorldNobodySaid :=
  OpenClaim.holds_of_wide 3 Tryz.f3 rfl rfl rfl rfl rfl rfl rfl ⟨rfl, rfl, rfl, rfl, rfl⟩ rfl rfl rfl rfl rfl worldNobody_named Tryz.func3 worldNobody_joined
    (of_decide_eq_true (by kernel_rfl)) (by unfold Func.isWrapper; first | (rw [if_pos (by decide +kernel)]; kernel_rfl) | (rw [if_neg (by decide +kernel)]; exact ⟨rfl, rfl⟩))
    (fun os started H enc _ => worldNobody_lifted law os started H enc)

theorem worldNobody_card0 (law : ∀ (a0 : Ac) (a1 : Int), Ac.wf a0 → (Lit.int .i64 a1).wf = true → AGives Tryz.prog 3 [Ac.a a0, .lit (.int .i64 a1)] [] (.lit (.bool true))) : Rows.WorldNobodyCardSaid :=
  Claim7.holds_tied_plain_at .later [] [.data, .data, .data, .sentinel, .sentinel] true (true, "21d594b62cabcacb7498eec4bec6dcff759508f23772d65bafcba72e1a5164d6") true
    (worldNobody_holds0 law) (fun _ h => by cases h) worldNobody_wbt (fun _ h => by cases h) worldNobody_row_tie rfl ⟨rfl, rfl⟩ worldNobody_main rfl
    (fun f fn hf hfn => by
      obtain rfl : f = 3 := Option.some.inj (worldNobody_named.symm.trans hf) |>.symm
      obtain rfl : fn = Tryz.f3 := (Option.some.inj (Tryz.func3.symm.trans hfn)).symm
      exact ⟨worldNobody_looks, fun j t ht => by
        rcases j with _ | _ | j
        · obtain rfl : t = 23 := (Option.some.inj ((show Tryz.f3.params[0]? = some 23 by kernel_rfl).symm.trans ht)).symm
          exact (show Tryz.prog.wantsStandIn 23 = false by kernel_rfl)
        · obtain rfl : t = 3 := (Option.some.inj ((show Tryz.f3.params[1]? = some 3 by kernel_rfl).symm.trans ht)).symm
          exact (show Tryz.prog.wantsStandIn 3 = false by kernel_rfl)
        · exact absurd ht (by rw [show Tryz.f3.params[j + 2]? = none from Array.getElem?_eq_none (by show Tryz.f3.params.size ≤ j + 2; rw [show Tryz.f3.params.size = 2 by kernel_rfl]; omega)]; exact fun h => nomatch h)⟩)
    worldNobody_goes
#print axioms worldNobody_card0
end Go.Proofs.YtalhamokkblnjaaGreatDoor
