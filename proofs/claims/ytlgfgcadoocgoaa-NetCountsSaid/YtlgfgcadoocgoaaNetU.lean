/-
  NetCounts holds for every input: a note is on its way as often as it was sent and doubled, less as often as it was taken. No condition.
-/
import Derived.Test.YtlgfgcadoocgoaaNetD
import Derived.Test.YtlgfgcadoocgoaaFwT
import Derived.Test.YtlgfgcadoocgoaaRows
namespace Go.Proofs.Ytlgfgcadoocgoaa
set_option linter.unusedSimpArgs false
set_option linter.unusedVariables false
open Go.Fw

theorem lawOwn : ownKnob Try.prog.godebug = none := by kernel_rfl
theorem lawLaid : laidOutB Try.prog = true := by kernel_rfl
theorem uInt : Try.prog.underlying 3 = some (.int .i64) := by kernel_rfl
theorem uBool : Try.prog.underlying 4 = some .bool := by kernel_rfl

/-- A note is read as a note. -/
theorem readNote : ReadAs Try.prog 25 Note.cells fun _ => True :=
  (ReadAs.struct rfl (by kernel_rfl) (ReadFs.cons rfl (ReadAs.int uInt) (ReadFs.cons rfl (ReadAs.int uInt) (ReadFs.cons rfl (ReadAs.int uInt) (ReadFs.cons rfl (ReadAs.int uInt) .nil))))).map
    (fun p => (⟨p.1, p.2.1, p.2.2.1, p.2.2.2.1⟩ : Note)) (fun _ => rfl) (fun _ _ => trivial)

theorem readNotes : ReadAs Try.prog 22 (fun l => [notes l]) fun l => l.length ≤ maxLen ∧ ∀ a ∈ l, True :=
  ReadAs.slice Note.zero rfl (by kernel_rfl) (by decide) readNote (fun _ => rfl)

theorem readInts : ReadAs Try.prog 30 (fun l => [ints l]) fun l => l.length ≤ maxLen ∧ ∀ a ∈ l, (Lit.int .i64 a).wf = true :=
  ReadAs.slice 0 rfl (by kernel_rfl) (by decide) (ReadAs.int uInt) (fun _ => rfl)

set_option maxRecDepth 100000 in
theorem netCounts_lifted (os : Os) (started : os.Started) (H : Type) (enc : TypeId × Value → H) :
    ReturnsInHanded {} Try.checked os 4 .any (Rows.netCountsSpec.pre6 enc Try.prog Try.f4 Rows.netCountsRow.domain false) (Rows.netCountsSpec.post enc Try.prog Try.f4 false true false false) := by
  refine law_lifted (C := Try.checked) (tb := 4) lawOwn started (by kernel_rfl) Try.func4
    (ChangeSpec.witness6 (enc := enc) (C := Try.checked) false ⟨#[], #[.slice none 0 0, .slice none 0 0, .agg #[.int .i64 0, .int .i64 0, .int .i64 0, .int .i64 0]], []⟩ 8 (by kernel_rfl) (by kernel_rfl) (by kernel_rfl) (by kernel_rfl)) rfl (by kernel_rfl) uBool lawLaid (by kernel_rfl) ?_
    (.cons _ _ _ _ _ (ArgAs.slice rfl readNotes) (.cons _ _ _ _ _ (ArgAs.slice rfl readInts) (.cons _ _ _ _ _ (ArgAs.struct rfl readNote) .nil))) ?_
  · intro ds hd
    match ds, hd with
    | [_, _, _], _ => rfl
  · rintro l ⟨a0, m0, g0, ⟨a1, m1, g1, ⟨a2, m2, g2, rfl, rfl⟩, rfl⟩, rfl⟩
    exact netCounts_c a0 a1 a2 []

theorem netCounts_holds : Rows.NetCountsSaid :=
  OpenClaim.holds_of_wide 4 Try.f4 rfl rfl rfl rfl rfl rfl rfl ⟨rfl, rfl, rfl, rfl, rfl⟩ rfl rfl rfl rfl rfl (by kernel_rfl) Try.func4 (by kernel_rfl)
    (of_decide_eq_true (by kernel_rfl)) (by unfold Func.isWrapper; first | (rw [if_pos (by decide +kernel)]; kernel_rfl) | (rw [if_neg (by decide +kernel)]; exact ⟨rfl, rfl⟩))
    (fun os started H enc _ => netCounts_lifted os started H enc)

#print axioms netCounts_holds
end Go.Proofs.Ytlgfgcadoocgoaa
