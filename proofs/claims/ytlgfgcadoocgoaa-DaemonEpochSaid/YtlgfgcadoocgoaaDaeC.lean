/-
  The reference's daemon, and two lists of notes held against each other.
-/
import Derived.Test.YtlgfgcadoocgoaaDaeB
namespace Go.Proofs.Ytlgfgcadoocgoaa
set_option linter.unusedSimpArgs false
set_option linter.unusedVariables false
open Go.Fw

set_option maxRecDepth 20000
set_option maxHeartbeats 4000000
attribute [local irreducible] ACalls

def rBad (d : Daemon) : Bool := decide (d.node < 0) || decide (d.node > 47) || decide (d.epoch < 0) || decide (d.epoch > 999999999) || decide (d.asked < 0) || decide (d.asked > 1000000) || decide (d.mode < 0) || decide (d.mode > 2)
def rE (d : Daemon) : Int :=
  bif rBad d then 230 else
  bif d.mode == 0 then (bif d.job != 0 || d.ended != 0 then 230 else 0) else
  bif !d.up || decide (d.job < 1) || decide (d.job > 99999) then 230 else
  bif d.ended != 0 && (d.mode != 2 || d.ended != 11 && d.ended != 12) then 230 else 0
theorem rCheck_c (d : Daemon) : ∀ objs, AGives Try.prog 33 [d.a] objs (I (rE d)) := by
  refine AGives.any rfl rfl (ACalls.of_cwp (fun _ => true) Try.func33 rfl rfl ?_)
  conv => whnf
  repeat' (first
    | (refine And.intro (fun _ => ?_) (fun h => Bool.noConfusion h); conv => whnf)
    | (refine And.intro (fun h => Bool.noConfusion h) (fun _ => ?_); conv => whnf)
    | (refine And.intro (fun h => ?_) (fun h => ?_) <;> conv => whnf)
    | (refine And.intro (?_ : (_ && drawCheck _ _) = true) ?_; · kernel_rfl
       conv => whnf)
    | (refine And.intro (fun hg => decide_eq_true ?_) ?_; · ((try simp only [cond_true, cond_false, Bool.not_eq_true', Bool.not_eq_eq_eq_not, Bool.not_true, Bool.not_false, decide_eq_true_eq, decide_eq_false_iff_not, Bool.and_eq_true, Bool.or_eq_true, Bool.or_eq_false_iff] at *); omega)
       conv => whnf)
    | (refine And.intro rfl ?_; conv => whnf)
    | (refine And.intro (fun _ => rfl) ?_; conv => whnf)
    | fail)
  all_goals exact ⟨_, _, told_low2 rfl, I_eq (by ((try simp only [Bool.not_eq_true', Bool.not_eq_false'] at *); simp only [rE, rBad, *, cond_true, cond_false, Bool.not_true, Bool.not_false, Bool.not_not, Bool.and_true, Bool.true_and, Bool.and_false, Bool.false_and, Bool.or_true, Bool.true_or, Bool.or_false, Bool.false_or, Bool.true_eq_false, Bool.false_eq_true])), rfl⟩

def heldI (n : Int) : Int := bif decide (n < 0) then 0 else bif decide (n > 1000000) then 1000000 else n
theorem held_c (n : Int) : ∀ objs, AGives Try.prog 34 [I n] objs (I (heldI n)) := by
  refine AGives.any rfl rfl (ACalls.of_cwp (fun _ => true) Try.func34 rfl rfl ?_)
  conv => whnf
  repeat' (first
    | (refine And.intro (fun _ => ?_) (fun h => Bool.noConfusion h); conv => whnf)
    | (refine And.intro (fun h => Bool.noConfusion h) (fun _ => ?_); conv => whnf)
    | (refine And.intro (fun h => ?_) (fun h => ?_) <;> conv => whnf)
    | (refine And.intro (?_ : (_ && drawCheck _ _) = true) ?_; · kernel_rfl
       conv => whnf)
    | (refine And.intro (fun hg => decide_eq_true ?_) ?_; · ((try simp only [cond_true, cond_false, Bool.not_eq_true', Bool.not_eq_eq_eq_not, Bool.not_true, Bool.not_false, decide_eq_true_eq, decide_eq_false_iff_not, Bool.and_eq_true, Bool.or_eq_true, Bool.or_eq_false_iff] at *); omega)
       conv => whnf)
    | (refine And.intro rfl ?_; conv => whnf)
    | (refine And.intro (fun _ => rfl) ?_; conv => whnf)
    | fail)
  all_goals exact ⟨_, _, told_low2 rfl, I_eq (by ((try simp only [Bool.not_eq_true', Bool.not_eq_false'] at *); simp only [heldI, *, cond_true, cond_false, Bool.not_true, Bool.not_false, Bool.not_not, Bool.and_true, Bool.true_and, Bool.and_false, Bool.false_and, Bool.or_true, Bool.true_or, Bool.or_false, Bool.false_or, Bool.true_eq_false, Bool.false_eq_true])), rfl⟩

def Daemon.with (d : Daemon) (m j e : Int) : Daemon := { d with mode := m, job := j, ended := 0, epoch := e }
theorem with_c (d : Daemon) (m j e : Int) : ∀ objs, AGives Try.prog 36 [d.a, I m, I j, I e] objs (d.with m j e).a := by
  refine AGives.any rfl rfl (ACalls.of_cwp (fun _ => true) Try.func36 rfl rfl ?_)
  conv => whnf
  repeat' (first
    | (refine And.intro (fun _ => ?_) (fun h => Bool.noConfusion h); conv => whnf)
    | (refine And.intro (fun h => Bool.noConfusion h) (fun _ => ?_); conv => whnf)
    | (refine And.intro (fun h => ?_) (fun h => ?_) <;> conv => whnf)
    | (refine And.intro (?_ : (_ && drawCheck _ _) = true) ?_; · kernel_rfl
       conv => whnf)
    | (refine And.intro (fun hg => decide_eq_true ?_) ?_; · ((try simp only [cond_true, cond_false, Bool.not_eq_true', Bool.not_eq_eq_eq_not, Bool.not_true, Bool.not_false, decide_eq_true_eq, decide_eq_false_iff_not, Bool.and_eq_true, Bool.or_eq_true, Bool.or_eq_false_iff] at *); omega)
       conv => whnf)
    | (refine And.intro rfl ?_; conv => whnf)
    | (refine And.intro (fun _ => rfl) ?_; conv => whnf)
    | fail)
  all_goals exact ⟨_, _, told_low2 rfl, rfl, rfl⟩

def rTick (d : Daemon) (now : Int) : Daemon × List Note :=
  bif rE d != 0 then (.zero, []) else
  bif d.ended == 0 || decide (heldI now < IntKind.i64.wrap (d.asked + 3)) then (d, []) else ({ d with asked := heldI now }, [d.told])
theorem rTick_c (d : Daemon) (now : Int) : ∀ objs, AGives Try.prog 15 [d.a, I now] objs (.tup [(rTick d now).1.a, notes (rTick d now).2]) := by
  have low : Low 0 (.tup [(rTick d now).1.a, notes (rTick d now).2]) := .tup' (.cons (low2_sound rfl) (.cons (notes_low _ _) .nil))
  refine AGives.any' (.cons (low2_sound rfl) (.cons (low2_sound rfl) .nil)) low (ACalls.of_cwp (fun _ => true) Try.func15 rfl rfl ?_)
  conv => whnf
  repeat' (first
    | (refine And.intro (fun _ => ?_) (fun h => Bool.noConfusion h); conv => whnf)
    | (refine And.intro (fun h => Bool.noConfusion h) (fun _ => ?_); conv => whnf)
    | (refine And.intro (fun h => ?_) (fun h => ?_) <;> conv => whnf)
    | (refine (rCheck_c d _).calls ?_; conv => whnf)
    | (refine ⟨_, fun _ => rCheck_c d _, ?_⟩; conv => whnf)
    | (refine ⟨_, _, rCheck_c d _, ?_⟩; conv => whnf)
    | (refine (held_c now _).calls ?_; conv => whnf)
    | (refine ⟨_, fun _ => held_c now _, ?_⟩; conv => whnf)
    | (refine ⟨_, _, held_c now _, ?_⟩; conv => whnf)
    | (refine And.intro (?_ : (_ && drawCheck _ _) = true) ?_; · kernel_rfl
       conv => whnf)
    | (refine And.intro (fun hg => decide_eq_true ?_) ?_; · ((try simp only [cond_true, cond_false, Bool.not_eq_true', Bool.not_eq_eq_eq_not, Bool.not_true, Bool.not_false, decide_eq_true_eq, decide_eq_false_iff_not, Bool.and_eq_true, Bool.or_eq_true, Bool.or_eq_false_iff] at *); omega)
       conv => whnf)
    | (refine And.intro rfl ?_; conv => whnf)
    | (refine And.intro (fun _ => rfl) ?_; conv => whnf)
    | fail)
  all_goals
    refine ret_seen low ?_
    clear low
    ((try simp only [Bool.not_eq_true', Bool.not_eq_false'] at *); simp only [rTick, *, cond_true, cond_false, Bool.not_true, Bool.not_false, Bool.not_not, Bool.and_true, Bool.true_and, Bool.and_false, Bool.false_and, Bool.or_true, Bool.true_or, Bool.or_false, Bool.false_or, Bool.true_eq_false, Bool.false_eq_true])
    exact Seen.tup (.cons _ _ _ _ (Seen.refl _ _) (.cons _ _ _ _ (by first | exact seen_nil | exact seen_note1 rfl rfl) .nil))

def rFinish (d : Daemon) (good : Bool) (now : Int) : Daemon × List Note × Int :=
  bif rE d != 0 then (.zero, [], 230) else
  bif d.mode != 2 || d.ended != 0 then (.zero, [], 141) else
  let k : Daemon := { d with ended := bif good then 11 else 12, asked := heldI now }
  (k, [k.told], 0)
theorem rFinish_c (d : Daemon) (good : Bool) (now : Int) : ∀ objs, AGives Try.prog 17 [d.a, Bo good, I now] objs (.tup [(rFinish d good now).1.a, notes (rFinish d good now).2.1, I (rFinish d good now).2.2]) := by
  have low : Low 0 (.tup [(rFinish d good now).1.a, notes (rFinish d good now).2.1, I (rFinish d good now).2.2]) := .tup' (.cons (low2_sound rfl) (.cons (notes_low _ _) (.cons (low2_sound rfl) .nil)))
  refine AGives.any' (.cons (low2_sound rfl) (.cons (low2_sound rfl) (.cons (low2_sound rfl) .nil))) low (ACalls.of_cwp (fun _ => true) Try.func17 rfl rfl ?_)
  conv => whnf
  repeat' (first
    | (refine And.intro (fun _ => ?_) (fun h => Bool.noConfusion h); conv => whnf)
    | (refine And.intro (fun h => Bool.noConfusion h) (fun _ => ?_); conv => whnf)
    | (refine And.intro (fun h => ?_) (fun h => ?_) <;> conv => whnf)
    | (refine (rCheck_c d _).calls ?_; conv => whnf)
    | (refine ⟨_, fun _ => rCheck_c d _, ?_⟩; conv => whnf)
    | (refine ⟨_, _, rCheck_c d _, ?_⟩; conv => whnf)
    | (refine (held_c now _).calls ?_; conv => whnf)
    | (refine ⟨_, fun _ => held_c now _, ?_⟩; conv => whnf)
    | (refine ⟨_, _, held_c now _, ?_⟩; conv => whnf)
    | (refine And.intro (?_ : (_ && drawCheck _ _) = true) ?_; · kernel_rfl
       conv => whnf)
    | (refine And.intro (fun hg => decide_eq_true ?_) ?_; · ((try simp only [cond_true, cond_false, Bool.not_eq_true', Bool.not_eq_eq_eq_not, Bool.not_true, Bool.not_false, decide_eq_true_eq, decide_eq_false_iff_not, Bool.and_eq_true, Bool.or_eq_true, Bool.or_eq_false_iff] at *); omega)
       conv => whnf)
    | (refine And.intro rfl ?_; conv => whnf)
    | (refine And.intro (fun _ => rfl) ?_; conv => whnf)
    | fail)
  all_goals
    refine ret_seen low ?_
    clear low
    ((try simp only [Bool.not_eq_true', Bool.not_eq_false'] at *); simp only [rFinish, *, cond_true, cond_false, Bool.not_true, Bool.not_false, Bool.not_not, Bool.and_true, Bool.true_and, Bool.and_false, Bool.false_and, Bool.or_true, Bool.true_or, Bool.or_false, Bool.false_or, Bool.true_eq_false, Bool.false_eq_true])
    exact Seen.tup (.cons _ _ _ _ (Seen.refl _ _) (.cons _ _ _ _ (by first | exact seen_nil | exact seen_note1 rfl rfl) (.cons _ _ _ _ (Seen.refl _ _) .nil)))

def rTurn (d : Daemon) (how : Int) : Daemon :=
  bif rE d != 0 then .zero else
  bif how == 0 then { d.with 0 0 d.epoch with up := false } else bif how == 1 then { d with up := true } else bif how == 2 then { d with sulks := true } else { d with sulks := false }
theorem rTurn_c (d : Daemon) (how : Int) : ∀ objs, AGives Try.prog 20 [d.a, I how] objs (rTurn d how).a := by
  refine AGives.any rfl rfl (ACalls.of_cwp (fun _ => true) Try.func20 rfl rfl ?_)
  conv => whnf
  repeat' (first
    | (refine And.intro (fun _ => ?_) (fun h => Bool.noConfusion h); conv => whnf)
    | (refine And.intro (fun h => Bool.noConfusion h) (fun _ => ?_); conv => whnf)
    | (refine And.intro (fun h => ?_) (fun h => ?_) <;> conv => whnf)
    | (refine (rCheck_c d _).calls ?_; conv => whnf)
    | (refine ⟨_, fun _ => rCheck_c d _, ?_⟩; conv => whnf)
    | (refine ⟨_, _, rCheck_c d _, ?_⟩; conv => whnf)
    | (refine (with_c d 0 0 d.epoch _).calls ?_; conv => whnf)
    | (refine ⟨_, fun _ => with_c d 0 0 d.epoch _, ?_⟩; conv => whnf)
    | (refine ⟨_, _, with_c d 0 0 d.epoch _, ?_⟩; conv => whnf)
    | (refine And.intro (?_ : (_ && drawCheck _ _) = true) ?_; · kernel_rfl
       conv => whnf)
    | (refine And.intro (fun hg => decide_eq_true ?_) ?_; · ((try simp only [cond_true, cond_false, Bool.not_eq_true', Bool.not_eq_eq_eq_not, Bool.not_true, Bool.not_false, decide_eq_true_eq, decide_eq_false_iff_not, Bool.and_eq_true, Bool.or_eq_true, Bool.or_eq_false_iff] at *); omega)
       conv => whnf)
    | (refine And.intro rfl ?_; conv => whnf)
    | (refine And.intro (fun _ => rfl) ?_; conv => whnf)
    | fail)
  all_goals exact ⟨_, _, told_low2 rfl, by ((try simp only [Bool.not_eq_true', Bool.not_eq_false'] at *); simp only [rTurn, *, cond_true, cond_false, Bool.not_true, Bool.not_false, Bool.not_not, Bool.and_true, Bool.true_and, Bool.and_false, Bool.false_and, Bool.or_true, Bool.true_or, Bool.or_false, Bool.false_or, Bool.true_eq_false, Bool.false_eq_true]); rfl, rfl⟩

end Go.Proofs.Ytlgfgcadoocgoaa
