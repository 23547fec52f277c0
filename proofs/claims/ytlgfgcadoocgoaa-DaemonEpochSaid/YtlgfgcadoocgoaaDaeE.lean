/-
  The probes of the daemon's laws: awake.
-/
import Derived.Test.YtlgfgcadoocgoaaDaeD
namespace Go.Proofs.Ytlgfgcadoocgoaa
set_option linter.unusedSimpArgs false
set_option linter.unusedVariables false
open Go.Fw

set_option maxRecDepth 20000
set_option maxHeartbeats 4000000
attribute [local irreducible] ACalls

def d0 : Daemon := ⟨0, 0, 0, 0, true, false, 0, 0⟩
def d1 : Daemon := ⟨0, 2, 5, 1, true, false, 0, 0⟩
def d2 : Daemon := ⟨0, 0, 0, 1, true, false, 0, 0⟩
def d3 : Daemon := ⟨0, 2, 5, 1, true, false, 11, 7⟩
def d4 : Daemon := ⟨0, 2, 5, 1, true, false, 11, 10⟩

theorem awake36_c : ∀ objs, AGives Try.prog 23 [] objs (Bo true) := by
  have e0 := newD_c 0
  rw [show newD 0 = (d0, 0) by decide] at e0
  have e1 := hear_c d0 ⟨1, 0, 5, 1⟩
  rw [show hearD d0 ⟨1, 0, 5, 1⟩ = (d1, [⟨7, 0, 5, 1⟩]) by decide] at e1
  have e2 := hear_c d1 ⟨5, 0, 5, 1⟩
  rw [show hearD d1 ⟨5, 0, 5, 1⟩ = (d2, [⟨10, 0, 5, 1⟩]) by decide] at e2
  have e3 := hear_c d2 ⟨1, 0, 5, 1⟩
  rw [show hearD d2 ⟨1, 0, 5, 1⟩ = (d2, [⟨14, 0, 5, 1⟩]) by decide] at e3
  have e4 := finish_c d1 true 7
  rw [show finishD d1 true 7 = (d3, [⟨11, 0, 5, 1⟩], 0) by decide] at e4
  have e5 := dTick_c d3 10
  rw [show tickD d3 10 = (d4, [⟨11, 0, 5, 1⟩]) by decide] at e5
  have e6 := finish_c d0 true 7
  rw [show finishD d0 true 7 = (.zero, [], 141) by decide] at e6
  have e7 := dmnCheck_c ⟨-1, 0, 0, 0, false, false, 0, 0⟩
  rw [show dmnE ⟨-1, 0, 0, 0, false, false, 0, 0⟩ = 230 by decide] at e7
  have e8 := fall_c d1
  have e9 := rise_c d0
  have e10 := sulk_c d0 true
  refine AGives.any rfl rfl (ACalls.of_cwp (fun _ => true) Try.func23 rfl rfl ?_)
  conv => whnf
  repeat' (first
    | (refine And.intro (fun _ => ?_) (fun h => Bool.noConfusion h); conv => whnf)
    | (refine And.intro (fun h => Bool.noConfusion h) (fun _ => ?_); conv => whnf)
    | (refine And.intro (fun h => ?_) (fun h => ?_) <;> conv => whnf)
    | (refine (e0 _).calls ?_; conv => whnf)
    | (refine ⟨_, fun _ => e0 _, ?_⟩; conv => whnf)
    | (refine ⟨_, _, e0 _, ?_⟩; conv => whnf)
    | (refine (e1 _).calls ?_; conv => whnf)
    | (refine ⟨_, fun _ => e1 _, ?_⟩; conv => whnf)
    | (refine ⟨_, _, e1 _, ?_⟩; conv => whnf)
    | (refine (e2 _).calls ?_; conv => whnf)
    | (refine ⟨_, fun _ => e2 _, ?_⟩; conv => whnf)
    | (refine ⟨_, _, e2 _, ?_⟩; conv => whnf)
    | (refine (e3 _).calls ?_; conv => whnf)
    | (refine ⟨_, fun _ => e3 _, ?_⟩; conv => whnf)
    | (refine ⟨_, _, e3 _, ?_⟩; conv => whnf)
    | (refine (e4 _).calls ?_; conv => whnf)
    | (refine ⟨_, fun _ => e4 _, ?_⟩; conv => whnf)
    | (refine ⟨_, _, e4 _, ?_⟩; conv => whnf)
    | (refine (e5 _).calls ?_; conv => whnf)
    | (refine ⟨_, fun _ => e5 _, ?_⟩; conv => whnf)
    | (refine ⟨_, _, e5 _, ?_⟩; conv => whnf)
    | (refine (e6 _).calls ?_; conv => whnf)
    | (refine ⟨_, fun _ => e6 _, ?_⟩; conv => whnf)
    | (refine ⟨_, _, e6 _, ?_⟩; conv => whnf)
    | (refine (e7 _).calls ?_; conv => whnf)
    | (refine ⟨_, fun _ => e7 _, ?_⟩; conv => whnf)
    | (refine ⟨_, _, e7 _, ?_⟩; conv => whnf)
    | (refine (e8 _).calls ?_; conv => whnf)
    | (refine ⟨_, fun _ => e8 _, ?_⟩; conv => whnf)
    | (refine ⟨_, _, e8 _, ?_⟩; conv => whnf)
    | (refine (e9 _).calls ?_; conv => whnf)
    | (refine ⟨_, fun _ => e9 _, ?_⟩; conv => whnf)
    | (refine ⟨_, _, e9 _, ?_⟩; conv => whnf)
    | (refine (e10 _).calls ?_; conv => whnf)
    | (refine ⟨_, fun _ => e10 _, ?_⟩; conv => whnf)
    | (refine ⟨_, _, e10 _, ?_⟩; conv => whnf)
    | (refine And.intro (?_ : (_ && drawCheck _ _) = true) ?_; · kernel_rfl
       conv => whnf)
    | (refine And.intro (fun hg => decide_eq_true ?_) ?_; · ((try simp only [cond_true, cond_false, Bool.not_eq_true', Bool.not_eq_eq_eq_not, Bool.not_true, Bool.not_false, decide_eq_true_eq, decide_eq_false_iff_not, Bool.and_eq_true, Bool.or_eq_true, Bool.or_eq_false_iff] at *); omega)
       conv => whnf)
    | (refine And.intro rfl ?_; conv => whnf)
    | (refine And.intro (fun _ => rfl) ?_; conv => whnf)
    | fail)
  all_goals first | exact ⟨_, _, told_low2 rfl, B_eq (by decide), rfl⟩ | trace_state

end Go.Proofs.Ytlgfgcadoocgoaa
