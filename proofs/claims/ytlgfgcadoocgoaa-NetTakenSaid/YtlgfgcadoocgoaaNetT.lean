/-
  NetTaken holds for every input: what is taken was there, and all others still are, in their order. No condition.
-/
import Derived.Test.YtlgfgcadoocgoaaNetC
import Derived.Test.YtlgfgcadoocgoaaFwT
import Derived.Test.YtlgfgcadoocgoaaRows
namespace Go.Proofs.Ytlgfgcadoocgoaa
open Go.Fw

theorem lawOwn : ownKnob Try.prog.godebug = none := by kernel_rfl
theorem lawLaid : laidOutB Try.prog = true := by kernel_rfl
theorem uInt : Try.prog.underlying 3 = some (.int .i64) := by kernel_rfl
theorem uBool : Try.prog.underlying 4 = some .bool := by kernel_rfl

/-- A note is read as a note. -/
theorem readNote : ReadAs Try.prog 25 Note.cells fun _ => True :=
  (ReadAs.struct rfl (by kernel_rfl) (ReadFs.cons rfl (ReadAs.int uInt) (ReadFs.cons rfl (ReadAs.int uInt) (ReadFs.cons rfl (ReadAs.int uInt) (ReadFs.cons rfl (ReadAs.int uInt) .nil))))).map
    (fun p => (⟨p.1, p.2.1, p.2.2.1, p.2.2.2.1⟩ : Note)) (fun _ => rfl) (fun _ _ => trivial)

theorem readNotes : ReadAs Try.prog 22 (fun l => [notes l]) fun l => l.length ≤ maxLen ∧ ∀ a ∈ l, True :=
  ReadAs.slice Note.zero rfl (by kernel_rfl) (by decide) readNote (fun _ => rfl)

set_option maxRecDepth 100000 in
theorem netTaken_lifted (os : Os) (started : os.Started) (H : Type) (enc : TypeId × Value → H) :
    ReturnsInHanded {} Try.checked os 3 .any (Rows.netTakenSpec.pre6 enc Try.prog Try.f3 Rows.netTakenRow.domain false) (Rows.netTakenSpec.post enc Try.prog Try.f3 false true false false) := by
  refine law_lifted (C := Try.checked) (tb := 4) lawOwn started (by kernel_rfl) Try.func3
    (ChangeSpec.witness6 (enc := enc) (C := Try.checked) false ⟨#[], #[.slice none 0 0, .int .i64 0], []⟩ 8 (by kernel_rfl) (by kernel_rfl) (by kernel_rfl) (by kernel_rfl)) rfl (by kernel_rfl) uBool lawLaid (by kernel_rfl) ?_
    (.cons _ _ _ _ _ (ArgAs.slice rfl readNotes) (.cons _ _ _ _ _ (ArgAs.int uInt) .nil)) ?_
  · intro ds hd
    match ds, hd with
    | [_, _], _ => rfl
  · rintro l ⟨a, m, _, ⟨i, m', _, rfl, rfl⟩, rfl⟩
    exact netTaken_c a i []

theorem netTaken_holds : Rows.NetTakenSaid :=
  OpenClaim.holds_of_wide 3 Try.f3 rfl rfl rfl rfl rfl rfl rfl ⟨rfl, rfl, rfl, rfl, rfl⟩ rfl rfl rfl rfl rfl (by kernel_rfl) Try.func3 (by kernel_rfl)
    (of_decide_eq_true (by kernel_rfl)) (by unfold Func.isWrapper; first | (rw [if_pos (by decide +kernel)]; kernel_rfl) | (rw [if_neg (by decide +kernel)]; exact ⟨rfl, rfl⟩))
    (fun os started H enc _ => netTaken_lifted os started H enc)

#print axioms netTaken_holds
end Go.Proofs.Ytlgfgcadoocgoaa
