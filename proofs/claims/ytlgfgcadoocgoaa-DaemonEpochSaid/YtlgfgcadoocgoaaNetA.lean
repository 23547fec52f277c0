/-
  Contracts of the notes' and the net's functions.
-/
import Derived.Test.YtlgfgcadoocgoaaFwQ
import Derived.Test.YtlgfgcadoocgoaaProg
import Derived.KernelRfl
namespace Go.Proofs.Ytlgfgcadoocgoaa
set_option linter.unusedSimpArgs false
set_option linter.unusedVariables false
open Go.Fw

attribute [local irreducible] ACalls

/-- An int, a bool, as abstract values. -/
abbrev I (n : Int) : AVal := .lit (.int .i64 n)
abbrev Bo (b : Bool) : AVal := .lit (.bool b)
abbrev noteA (k n j e : Int) : AVal := .agg [I k, I n, I j, I e]

def knownB (k : Int) : Bool := decide (1 ≤ k) && decide (k ≤ 14)
def downB (k : Int) : Bool := decide (1 ≤ k) && decide (k ≤ 6)

theorem known_c (k : Int) : ∀ objs, AGives Try.prog 30 [I k] objs (Bo (knownB k)) := by
  refine AGives.any rfl rfl (ACalls.of_cwp (fun _ => true) Try.func30 rfl rfl ?_)
  conv => whnf
  exact ⟨_, _, told_low2 rfl, rfl, rfl⟩

theorem down_c (k : Int) : ∀ objs, AGives Try.prog 26 [I k] objs (Bo (downB k)) := by
  refine AGives.any rfl rfl (ACalls.of_cwp (fun _ => true) Try.func26 rfl rfl ?_)
  conv => whnf
  exact ⟨_, _, told_low2 rfl, rfl, rfl⟩

/-- A note that may not be, as the text asks. -/
def noteBad (k n j e : Int) : Bool := !knownB k || !(bif (k == 6 || k == 13) then j == 0 else decide (j ≥ 1) && decide (j ≤ 99999)) || decide (n < 0) || decide (n ≥ 48) || decide (e < 0) || decide (e > 999999999)
def noteE (k n j e : Int) : Int := bif noteBad k n j e then 230 else 0

theorem check_c (k n j e : Int) : ∀ objs, AGives Try.prog 11 [noteA k n j e] objs (I (noteE k n j e)) := by
  refine AGives.any rfl rfl (ACalls.of_cwp (fun _ => true) Try.func11 rfl rfl ?_)
  conv => whnf
  refine ⟨fun h => ?_, fun h => ?_⟩
  all_goals
    conv => whnf
    refine (known_c _ _).calls ?_
    conv => whnf
    refine ⟨fun h' => ?_, fun h' => ?_⟩
  all_goals
    conv => whnf
    exact ⟨_, _, told_low2 rfl, I_eq (by simp only [noteE, noteBad, h, h', cond_true, cond_false]), rfl⟩

end Go.Proofs.Ytlgfgcadoocgoaa
