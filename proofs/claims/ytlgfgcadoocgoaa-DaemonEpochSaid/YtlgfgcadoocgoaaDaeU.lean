/-
  DaemonEpoch holds for every input: what comes of a daemon that may be, may be; its epoch never falls. No condition.
-/
import Derived.Test.YtlgfgcadoocgoaaDaeH
import Derived.Test.YtlgfgcadoocgoaaFwT
import Derived.Test.YtlgfgcadoocgoaaRows
namespace Go.Proofs.Ytlgfgcadoocgoaa
set_option linter.unusedSimpArgs false
set_option linter.unusedVariables false
open Go.Fw

theorem lawOwn : ownKnob Try.prog.godebug = none := by kernel_rfl
theorem lawLaid : laidOutB Try.prog = true := by kernel_rfl
theorem uInt : Try.prog.underlying 3 = some (.int .i64) := by kernel_rfl
theorem uBool : Try.prog.underlying 4 = some .bool := by kernel_rfl

/-- A daemon is read as a daemon. -/
theorem readDmn : ReadAs Try.prog 38 Daemon.cells fun _ => True :=
  (ReadAs.struct rfl (by kernel_rfl) (ReadFs.cons rfl (ReadAs.int uInt) (ReadFs.cons rfl (ReadAs.int uInt) (ReadFs.cons rfl (ReadAs.int uInt) (ReadFs.cons rfl (ReadAs.int uInt) (ReadFs.cons rfl (ReadAs.bool uBool) (ReadFs.cons rfl (ReadAs.bool uBool) (ReadFs.cons rfl (ReadAs.int uInt) (ReadFs.cons rfl (ReadAs.int uInt) .nil))))))))).map
    (fun p => (⟨p.1, p.2.1, p.2.2.1, p.2.2.2.1, p.2.2.2.2.1, p.2.2.2.2.2.1, p.2.2.2.2.2.2.1, p.2.2.2.2.2.2.2.1⟩ : Daemon)) (fun _ => rfl) (fun _ _ => trivial)

/-- A note is read as a note. -/
theorem readNote : ReadAs Try.prog 25 Note.cells fun _ => True :=
  (ReadAs.struct rfl (by kernel_rfl) (ReadFs.cons rfl (ReadAs.int uInt) (ReadFs.cons rfl (ReadAs.int uInt) (ReadFs.cons rfl (ReadAs.int uInt) (ReadFs.cons rfl (ReadAs.int uInt) .nil))))).map
    (fun p => (⟨p.1, p.2.1, p.2.2.1, p.2.2.2.1⟩ : Note)) (fun _ => rfl) (fun _ _ => trivial)

theorem readNotes : ReadAs Try.prog 22 (fun l => [notes l]) fun l => l.length ≤ maxLen ∧ ∀ a ∈ l, True :=
  ReadAs.slice Note.zero rfl (by kernel_rfl) (by decide) readNote (fun _ => rfl)

theorem readInts : ReadAs Try.prog 30 (fun l => [ints l]) fun l => l.length ≤ maxLen ∧ ∀ a ∈ l, (Lit.int .i64 a).wf = true :=
  ReadAs.slice 0 rfl (by kernel_rfl) (by decide) (ReadAs.int uInt) (fun _ => rfl)

set_option maxRecDepth 100000 in
theorem daemonEpoch_lifted (os : Os) (started : os.Started) (H : Type) (enc : TypeId × Value → H) :
    ReturnsInHanded {} Try.checked os 6 .any (Rows.daemonEpochSpec.pre6 enc Try.prog Try.f6 Rows.daemonEpochRow.domain false) (Rows.daemonEpochSpec.post enc Try.prog Try.f6 false true false false) := by
  refine law_lifted (C := Try.checked) (tb := 4) lawOwn started (by kernel_rfl) Try.func6
    (ChangeSpec.witness6 (enc := enc) (C := Try.checked) false ⟨#[], #[.agg #[.int .i64 0, .int .i64 0, .int .i64 0, .int .i64 0, .bool false, .bool false, .int .i64 0, .int .i64 0], .slice none 0 0, .slice none 0 0], []⟩ 8 (by kernel_rfl) (by kernel_rfl) (by kernel_rfl) (by kernel_rfl)) rfl (by kernel_rfl) uBool lawLaid (by kernel_rfl) ?_
    (.cons _ _ _ _ _ (ArgAs.struct rfl readDmn) (.cons _ _ _ _ _ (ArgAs.slice rfl readNotes) (.cons _ _ _ _ _ (ArgAs.slice rfl readInts) .nil))) ?_
  · intro ds hd
    match ds, hd with
    | [_, _, _], _ => rfl
  · rintro l ⟨a0, m0, g0, ⟨a1, m1, g1, ⟨a2, m2, g2, rfl, rfl⟩, rfl⟩, rfl⟩
    exact daemonEpoch_c a0 a1 a2 []

theorem daemonEpoch_holds : Rows.DaemonEpochSaid :=
  OpenClaim.holds_of_wide 6 Try.f6 rfl rfl rfl rfl rfl rfl rfl ⟨rfl, rfl, rfl, rfl, rfl⟩ rfl rfl rfl rfl rfl (by kernel_rfl) Try.func6 (by kernel_rfl)
    (of_decide_eq_true (by kernel_rfl)) (by unfold Func.isWrapper; first | (rw [if_pos (by decide +kernel)]; kernel_rfl) | (rw [if_neg (by decide +kernel)]; exact ⟨rfl, rfl⟩))
    (fun os started H enc _ => daemonEpoch_lifted os started H enc)

#print axioms daemonEpoch_holds
end Go.Proofs.Ytlgfgcadoocgoaa
