/-
  DaemonServes holds for every input: whom a daemon serves. No condition.
-/
import Derived.Test.YtlgfgcadoocgoaaDaeG
import Derived.Test.YtlgfgcadoocgoaaFwT
import Derived.Test.YtlgfgcadoocgoaaRows
namespace Go.Proofs.Ytlgfgcadoocgoaa
open Go.Fw

theorem lawOwn : ownKnob Try.prog.godebug = none := by kernel_rfl
theorem lawLaid : laidOutB Try.prog = true := by kernel_rfl
theorem uInt : Try.prog.underlying 3 = some (.int .i64) := by kernel_rfl
theorem uBool : Try.prog.underlying 4 = some .bool := by kernel_rfl

/-- A note is read as a note. -/
theorem readNote : ReadAs Try.prog 25 Note.cells fun _ => True :=
  (ReadAs.struct rfl (by kernel_rfl) (ReadFs.cons rfl (ReadAs.int uInt) (ReadFs.cons rfl (ReadAs.int uInt) (ReadFs.cons rfl (ReadAs.int uInt) (ReadFs.cons rfl (ReadAs.int uInt) .nil))))).map
    (fun p => (⟨p.1, p.2.1, p.2.2.1, p.2.2.2.1⟩ : Note)) (fun _ => rfl) (fun _ _ => trivial)

/-- A daemon is read as a daemon. -/
theorem readDmn : ReadAs Try.prog 38 Daemon.cells fun _ => True :=
  (ReadAs.struct rfl (by kernel_rfl) (ReadFs.cons rfl (ReadAs.int uInt) (ReadFs.cons rfl (ReadAs.int uInt) (ReadFs.cons rfl (ReadAs.int uInt) (ReadFs.cons rfl (ReadAs.int uInt) (ReadFs.cons rfl (ReadAs.bool uBool) (ReadFs.cons rfl (ReadAs.bool uBool) (ReadFs.cons rfl (ReadAs.int uInt) (ReadFs.cons rfl (ReadAs.int uInt) .nil))))))))).map
    (fun p => (⟨p.1, p.2.1, p.2.2.1, p.2.2.2.1, p.2.2.2.2.1, p.2.2.2.2.2.1, p.2.2.2.2.2.2.1, p.2.2.2.2.2.2.2.1⟩ : Daemon)) (fun _ => rfl) (fun _ _ => trivial)

set_option maxRecDepth 100000 in
theorem daemonServes_lifted (os : Os) (started : os.Started) (H : Type) (enc : TypeId × Value → H) :
    ReturnsInHanded {} Try.checked os 7 .any (Rows.daemonServesSpec.pre6 enc Try.prog Try.f7 Rows.daemonServesRow.domain false) (Rows.daemonServesSpec.post enc Try.prog Try.f7 false true false false) := by
  refine law_lifted (C := Try.checked) (tb := 4) lawOwn started (by kernel_rfl) Try.func7
    (ChangeSpec.witness6 (enc := enc) (C := Try.checked) false ⟨#[], #[.agg #[.int .i64 0, .int .i64 0, .int .i64 0, .int .i64 0, .bool false, .bool false, .int .i64 0, .int .i64 0], .agg #[.int .i64 0, .int .i64 0, .int .i64 0, .int .i64 0]], []⟩ 8 (by kernel_rfl) (by kernel_rfl) (by kernel_rfl) (by kernel_rfl)) rfl (by kernel_rfl) uBool lawLaid (by kernel_rfl) ?_
    (.cons _ _ _ _ _ (ArgAs.struct rfl readDmn) (.cons _ _ _ _ _ (ArgAs.struct rfl readNote) .nil)) ?_
  · intro ds hd
    match ds, hd with
    | [_, _], _ => rfl
  · rintro l ⟨a, m, _, ⟨b, m', _, rfl, rfl⟩, rfl⟩
    exact daemonServes_c a b []

theorem daemonServes_holds : Rows.DaemonServesSaid :=
  OpenClaim.holds_of_wide 7 Try.f7 rfl rfl rfl rfl rfl rfl rfl ⟨rfl, rfl, rfl, rfl, rfl⟩ rfl rfl rfl rfl rfl (by kernel_rfl) Try.func7 (by kernel_rfl)
    (of_decide_eq_true (by kernel_rfl)) (by unfold Func.isWrapper; first | (rw [if_pos (by decide +kernel)]; kernel_rfl) | (rw [if_neg (by decide +kernel)]; exact ⟨rfl, rfl⟩))
    (fun os started H enc _ => daemonServes_lifted os started H enc)

#print axioms daemonServes_holds
end Go.Proofs.Ytlgfgcadoocgoaa
