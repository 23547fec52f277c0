/-
  Contracts of the daemon's functions.
-/
import Derived.Test.YtlgfgcadoocgoaaNetB
namespace Go.Proofs.Ytlgfgcadoocgoaa
set_option linter.unusedSimpArgs false
set_option linter.unusedVariables false
open Go.Fw

set_option maxRecDepth 20000
attribute [local irreducible] ACalls

structure Daemon where
  node : Int
  mode : Int
  job : Int
  epoch : Int
  up : Bool
  sulks : Bool
  ended : Int
  asked : Int
  deriving DecidableEq

def Daemon.zero : Daemon := ⟨0, 0, 0, 0, false, false, 0, 0⟩
def Daemon.cells (d : Daemon) : List AVal := [I d.node, I d.mode, I d.job, I d.epoch, Bo d.up, Bo d.sulks, I d.ended, I d.asked]
def Daemon.a (d : Daemon) : AVal := .agg d.cells

def dmnBad (d : Daemon) : Bool := decide (d.node < 0) || decide (d.node ≥ 48) || decide (d.epoch < 0) || decide (d.epoch > 999999999) || decide (d.asked < 0) || decide (d.asked > 1000000)
def dmnHeld (d : Daemon) : Bool := d.up && decide (d.job ≥ 1) && decide (d.job ≤ 99999)
def dmnFit (d : Daemon) : Bool :=
  bif d.mode == 0 then d.job == 0 && d.ended == 0 else
  bif d.mode == 1 then dmnHeld d && d.ended == 0 else
  bif d.mode == 2 then dmnHeld d && (d.ended == 0 || d.ended == 11 || d.ended == 12) else false
def dmnOK (d : Daemon) : Bool := !dmnBad d && dmnFit d
def dmnE (d : Daemon) : Int := bif dmnOK d then 0 else 230

theorem dmnCheck_c (d : Daemon) : ∀ objs, AGives Try.prog 24 [d.a] objs (I (dmnE d)) := by
  refine AGives.any rfl rfl (ACalls.of_cwp (fun _ => true) Try.func24 rfl rfl ?_)
  conv => whnf
  repeat' (first
    | (refine And.intro (fun _ => ?_) (fun h => Bool.noConfusion h); conv => whnf)
    | (refine And.intro (fun h => Bool.noConfusion h) (fun _ => ?_); conv => whnf)
    | (refine And.intro (fun h => ?_) (fun h => ?_) <;> conv => whnf)
    | (refine And.intro (?_ : (_ && drawCheck _ _) = true) ?_; · kernel_rfl
       conv => whnf)
    | (refine And.intro (fun hg => decide_eq_true ?_) ?_; · ((try simp only [cond_true, cond_false, Bool.not_eq_true', Bool.not_eq_eq_eq_not, Bool.not_true, Bool.not_false, decide_eq_true_eq, decide_eq_false_iff_not, Bool.and_eq_true, Bool.or_eq_true, Bool.or_eq_false_iff] at *); omega)
       conv => whnf)
    | (refine And.intro rfl ?_; conv => whnf)
    | (refine And.intro (fun _ => rfl) ?_; conv => whnf)
    | fail)
  all_goals exact ⟨_, _, told_low2 rfl, I_eq (by ((try simp only [Bool.not_eq_true', Bool.not_eq_false'] at *); simp only [dmnE, dmnOK, dmnBad, dmnFit, dmnHeld, *, cond_true, cond_false, Bool.not_true, Bool.not_false, Bool.not_not, Bool.and_true, Bool.true_and, Bool.and_false, Bool.false_and, Bool.or_true, Bool.true_or, Bool.or_false, Bool.false_or, Bool.true_eq_false, Bool.false_eq_true])), rfl⟩

def tickI (n : Int) : Int := min (max n 0) 1000000
theorem tick_c (n : Int) : ∀ objs, AGives Try.prog 31 [I n] objs (I (tickI n)) := by
  refine AGives.any rfl rfl (ACalls.of_cwp (fun _ => true) Try.func31 rfl rfl ?_)
  conv => whnf
  repeat' (first
    | (refine And.intro (fun _ => ?_) (fun h => Bool.noConfusion h); conv => whnf)
    | (refine And.intro (fun h => Bool.noConfusion h) (fun _ => ?_); conv => whnf)
    | (refine And.intro (fun h => ?_) (fun h => ?_) <;> conv => whnf)
    | (refine And.intro (?_ : (_ && drawCheck _ _) = true) ?_; · kernel_rfl
       conv => whnf)
    | (refine And.intro (fun hg => decide_eq_true ?_) ?_; · ((try simp only [cond_true, cond_false, Bool.not_eq_true', Bool.not_eq_eq_eq_not, Bool.not_true, Bool.not_false, decide_eq_true_eq, decide_eq_false_iff_not, Bool.and_eq_true, Bool.or_eq_true, Bool.or_eq_false_iff] at *); omega)
       conv => whnf)
    | (refine And.intro rfl ?_; conv => whnf)
    | (refine And.intro (fun _ => rfl) ?_; conv => whnf)
    | fail)
  all_goals exact ⟨_, _, told_low2 rfl, rfl, rfl⟩

def Daemon.idle (d : Daemon) (e : Int) : Daemon := { d with mode := 0, job := 0, ended := 0, epoch := e }
theorem idle_c (d : Daemon) (e : Int) : ∀ objs, AGives Try.prog 35 [d.a, I e] objs (d.idle e).a := by
  refine AGives.any rfl rfl (ACalls.of_cwp (fun _ => true) Try.func35 rfl rfl ?_)
  conv => whnf
  repeat' (first
    | (refine And.intro (fun _ => ?_) (fun h => Bool.noConfusion h); conv => whnf)
    | (refine And.intro (fun h => Bool.noConfusion h) (fun _ => ?_); conv => whnf)
    | (refine And.intro (fun h => ?_) (fun h => ?_) <;> conv => whnf)
    | (refine And.intro (?_ : (_ && drawCheck _ _) = true) ?_; · kernel_rfl
       conv => whnf)
    | (refine And.intro (fun hg => decide_eq_true ?_) ?_; · ((try simp only [cond_true, cond_false, Bool.not_eq_true', Bool.not_eq_eq_eq_not, Bool.not_true, Bool.not_false, decide_eq_true_eq, decide_eq_false_iff_not, Bool.and_eq_true, Bool.or_eq_true, Bool.or_eq_false_iff] at *); omega)
       conv => whnf)
    | (refine And.intro rfl ?_; conv => whnf)
    | (refine And.intro (fun _ => rfl) ?_; conv => whnf)
    | fail)
  all_goals exact ⟨_, _, told_low2 rfl, rfl, rfl⟩

def Daemon.bound (d : Daemon) (m : Int) (n : Note) : Daemon := { d with mode := m, job := n.j, ended := 0, epoch := n.e }
theorem bound_c (d : Daemon) (m : Int) (n : Note) : ∀ objs, AGives Try.prog 40 [d.a, I m, n.a] objs (d.bound m n).a := by
  refine AGives.any rfl rfl (ACalls.of_cwp (fun _ => true) Try.func40 rfl rfl ?_)
  conv => whnf
  repeat' (first
    | (refine And.intro (fun _ => ?_) (fun h => Bool.noConfusion h); conv => whnf)
    | (refine And.intro (fun h => Bool.noConfusion h) (fun _ => ?_); conv => whnf)
    | (refine And.intro (fun h => ?_) (fun h => ?_) <;> conv => whnf)
    | (refine (idle_c d n.e _).calls ?_; conv => whnf)
    | (refine ⟨_, fun _ => idle_c d n.e _, ?_⟩; conv => whnf)
    | (refine ⟨_, _, idle_c d n.e _, ?_⟩; conv => whnf)
    | (refine And.intro (?_ : (_ && drawCheck _ _) = true) ?_; · kernel_rfl
       conv => whnf)
    | (refine And.intro (fun hg => decide_eq_true ?_) ?_; · ((try simp only [cond_true, cond_false, Bool.not_eq_true', Bool.not_eq_eq_eq_not, Bool.not_true, Bool.not_false, decide_eq_true_eq, decide_eq_false_iff_not, Bool.and_eq_true, Bool.or_eq_true, Bool.or_eq_false_iff] at *); omega)
       conv => whnf)
    | (refine And.intro rfl ?_; conv => whnf)
    | (refine And.intro (fun _ => rfl) ?_; conv => whnf)
    | fail)
  all_goals exact ⟨_, _, told_low2 rfl, rfl, rfl⟩

def heedsB (d : Daemon) (n : Note) : Bool := noteC n == 0 && downB n.k && n.n == d.node && d.up && decide (n.e ≥ d.epoch)
theorem heeds_c (d : Daemon) (n : Note) : ∀ objs, AGives Try.prog 38 [d.a, n.a] objs (Bo (heedsB d n)) := by
  refine AGives.any rfl rfl (ACalls.of_cwp (fun _ => true) Try.func38 rfl rfl ?_)
  conv => whnf
  repeat' (first
    | (refine And.intro (fun _ => ?_) (fun h => Bool.noConfusion h); conv => whnf)
    | (refine And.intro (fun h => Bool.noConfusion h) (fun _ => ?_); conv => whnf)
    | (refine And.intro (fun h => ?_) (fun h => ?_) <;> conv => whnf)
    | (refine (check_c n.k n.n n.j n.e _).calls ?_; conv => whnf)
    | (refine ⟨_, fun _ => check_c n.k n.n n.j n.e _, ?_⟩; conv => whnf)
    | (refine ⟨_, _, check_c n.k n.n n.j n.e _, ?_⟩; conv => whnf)
    | (refine (down_c n.k _).calls ?_; conv => whnf)
    | (refine ⟨_, fun _ => down_c n.k _, ?_⟩; conv => whnf)
    | (refine ⟨_, _, down_c n.k _, ?_⟩; conv => whnf)
    | (refine And.intro (?_ : (_ && drawCheck _ _) = true) ?_; · kernel_rfl
       conv => whnf)
    | (refine And.intro (fun hg => decide_eq_true ?_) ?_; · ((try simp only [cond_true, cond_false, Bool.not_eq_true', Bool.not_eq_eq_eq_not, Bool.not_true, Bool.not_false, decide_eq_true_eq, decide_eq_false_iff_not, Bool.and_eq_true, Bool.or_eq_true, Bool.or_eq_false_iff] at *); omega)
       conv => whnf)
    | (refine And.intro rfl ?_; conv => whnf)
    | (refine And.intro (fun _ => rfl) ?_; conv => whnf)
    | fail)
  all_goals exact ⟨_, _, told_low2 rfl, rfl, rfl⟩

def newD (n : Int) : Daemon × Int := bif decide (n < 0) || decide (n ≥ 48) then (.zero, 2) else (⟨n, 0, 0, 0, true, false, 0, 0⟩, 0)
theorem newD_c (n : Int) : ∀ objs, AGives Try.prog 37 [I n] objs (.tup [(newD n).1.a, I (newD n).2]) := by
  refine AGives.any rfl rfl (ACalls.of_cwp (fun _ => true) Try.func37 rfl rfl ?_)
  conv => whnf
  repeat' (first
    | (refine And.intro (fun _ => ?_) (fun h => Bool.noConfusion h); conv => whnf)
    | (refine And.intro (fun h => Bool.noConfusion h) (fun _ => ?_); conv => whnf)
    | (refine And.intro (fun h => ?_) (fun h => ?_) <;> conv => whnf)
    | (refine And.intro (?_ : (_ && drawCheck _ _) = true) ?_; · kernel_rfl
       conv => whnf)
    | (refine And.intro (fun hg => decide_eq_true ?_) ?_; · ((try simp only [cond_true, cond_false, Bool.not_eq_true', Bool.not_eq_eq_eq_not, Bool.not_true, Bool.not_false, decide_eq_true_eq, decide_eq_false_iff_not, Bool.and_eq_true, Bool.or_eq_true, Bool.or_eq_false_iff] at *); omega)
       conv => whnf)
    | (refine And.intro rfl ?_; conv => whnf)
    | (refine And.intro (fun _ => rfl) ?_; conv => whnf)
    | fail)
  all_goals exact ⟨_, _, told_low2 rfl, by simp only [newD, h, cond_true, cond_false]; rfl, rfl⟩

def Daemon.told (d : Daemon) : Note := ⟨d.ended, d.node, d.job, d.epoch⟩
theorem told_c (d : Daemon) : ∀ objs, AGives Try.prog 32 [d.a] objs (notes [d.told]) := by
  refine AGives.any' (.cons (low2_sound rfl) .nil) (notes_low _ _) (ACalls.of_cwp (fun _ => true) Try.func32 rfl rfl ?_)
  conv => whnf
  repeat' (first
    | (refine And.intro (fun _ => ?_) (fun h => Bool.noConfusion h); conv => whnf)
    | (refine And.intro (fun h => Bool.noConfusion h) (fun _ => ?_); conv => whnf)
    | (refine And.intro (fun h => ?_) (fun h => ?_) <;> conv => whnf)
    | (refine And.intro (?_ : (_ && drawCheck _ _) = true) ?_; · kernel_rfl
       conv => whnf)
    | (refine And.intro (fun hg => decide_eq_true ?_) ?_; · ((try simp only [cond_true, cond_false, Bool.not_eq_true', Bool.not_eq_eq_eq_not, Bool.not_true, Bool.not_false, decide_eq_true_eq, decide_eq_false_iff_not, Bool.and_eq_true, Bool.or_eq_true, Bool.or_eq_false_iff] at *); omega)
       conv => whnf)
    | (refine And.intro rfl ?_; conv => whnf)
    | (refine And.intro (fun _ => rfl) ?_; conv => whnf)
    | fail)
  exact ret_seen (notes_low _ _) (seen_one rfl)

def wr64 (n : Int) : Int := IntKind.i64.wrap n

def tickD (d : Daemon) (now : Int) : Daemon × List Note :=
  bif dmnE d != 0 then (.zero, []) else
  bif d.ended == 0 || decide (IntKind.i64.wrap (tickI now - d.asked) < 3) then (d, []) else ({ d with asked := tickI now }, [d.told])
theorem dTick_c (d : Daemon) (now : Int) : ∀ objs, AGives Try.prog 14 [d.a, I now] objs (.tup [(tickD d now).1.a, notes (tickD d now).2]) := by
  have low : Low 0 (.tup [(tickD d now).1.a, notes (tickD d now).2]) := .tup' (.cons (low2_sound rfl) (.cons (notes_low _ _) .nil))
  refine AGives.any' (.cons (low2_sound rfl) (.cons (low2_sound rfl) .nil)) low (ACalls.of_cwp (fun _ => true) Try.func14 rfl rfl ?_)
  conv => whnf
  repeat' (first
    | (refine And.intro (fun _ => ?_) (fun h => Bool.noConfusion h); conv => whnf)
    | (refine And.intro (fun h => Bool.noConfusion h) (fun _ => ?_); conv => whnf)
    | (refine And.intro (fun h => ?_) (fun h => ?_) <;> conv => whnf)
    | (refine (dmnCheck_c d _).calls ?_; conv => whnf)
    | (refine ⟨_, fun _ => dmnCheck_c d _, ?_⟩; conv => whnf)
    | (refine ⟨_, _, dmnCheck_c d _, ?_⟩; conv => whnf)
    | (refine (tick_c now _).calls ?_; conv => whnf)
    | (refine ⟨_, fun _ => tick_c now _, ?_⟩; conv => whnf)
    | (refine ⟨_, _, tick_c now _, ?_⟩; conv => whnf)
    | (refine (told_c { d with asked := tickI now } _).calls ?_; conv => whnf)
    | (refine ⟨_, fun _ => told_c { d with asked := tickI now } _, ?_⟩; conv => whnf)
    | (refine ⟨_, _, told_c { d with asked := tickI now } _, ?_⟩; conv => whnf)
    | (refine And.intro (?_ : (_ && drawCheck _ _) = true) ?_; · kernel_rfl
       conv => whnf)
    | (refine And.intro (fun hg => decide_eq_true ?_) ?_; · ((try simp only [cond_true, cond_false, Bool.not_eq_true', Bool.not_eq_eq_eq_not, Bool.not_true, Bool.not_false, decide_eq_true_eq, decide_eq_false_iff_not, Bool.and_eq_true, Bool.or_eq_true, Bool.or_eq_false_iff] at *); omega)
       conv => whnf)
    | (refine And.intro rfl ?_; conv => whnf)
    | (refine And.intro (fun _ => rfl) ?_; conv => whnf)
    | fail)
  all_goals
    refine ret_seen low ?_
    ((try simp only [Bool.not_eq_true', Bool.not_eq_false'] at *); simp only [tickD, *, cond_true, cond_false, Bool.not_true, Bool.not_false, Bool.not_not, Bool.and_true, Bool.true_and, Bool.and_false, Bool.false_and, Bool.or_true, Bool.true_or, Bool.or_false, Bool.false_or, Bool.true_eq_false, Bool.false_eq_true])
    exact Seen.tup (.cons _ _ _ _ (Seen.refl _ _) (.cons _ _ _ _ (by first | exact seen_nil | exact Seen.refl _ _) .nil))

def finishD (d : Daemon) (good : Bool) (now : Int) : Daemon × List Note × Int :=
  bif dmnE d != 0 then (.zero, [], 230) else
  bif d.mode != 2 || d.ended != 0 then (.zero, [], 141) else
  let k : Daemon := { d with ended := bif good then 11 else 12, asked := tickI now }
  (k, [k.told], 0)
theorem finish_c (d : Daemon) (good : Bool) (now : Int) : ∀ objs, AGives Try.prog 16 [d.a, Bo good, I now] objs (.tup [(finishD d good now).1.a, notes (finishD d good now).2.1, I (finishD d good now).2.2]) := by
  have low : Low 0 (.tup [(finishD d good now).1.a, notes (finishD d good now).2.1, I (finishD d good now).2.2]) := .tup' (.cons (low2_sound rfl) (.cons (notes_low _ _) (.cons (low2_sound rfl) .nil)))
  refine AGives.any' (.cons (low2_sound rfl) (.cons (low2_sound rfl) (.cons (low2_sound rfl) .nil))) low (ACalls.of_cwp (fun _ => true) Try.func16 rfl rfl ?_)
  conv => whnf
  repeat' (first
    | (refine And.intro (fun _ => ?_) (fun h => Bool.noConfusion h); conv => whnf)
    | (refine And.intro (fun h => Bool.noConfusion h) (fun _ => ?_); conv => whnf)
    | (refine And.intro (fun h => ?_) (fun h => ?_) <;> conv => whnf)
    | (refine (dmnCheck_c d _).calls ?_; conv => whnf)
    | (refine ⟨_, fun _ => dmnCheck_c d _, ?_⟩; conv => whnf)
    | (refine ⟨_, _, dmnCheck_c d _, ?_⟩; conv => whnf)
    | (refine (tick_c now _).calls ?_; conv => whnf)
    | (refine ⟨_, fun _ => tick_c now _, ?_⟩; conv => whnf)
    | (refine ⟨_, _, tick_c now _, ?_⟩; conv => whnf)
    | (refine (told_c { d with ended := 11, asked := tickI now } _).calls ?_; conv => whnf)
    | (refine ⟨_, fun _ => told_c { d with ended := 11, asked := tickI now } _, ?_⟩; conv => whnf)
    | (refine ⟨_, _, told_c { d with ended := 11, asked := tickI now } _, ?_⟩; conv => whnf)
    | (refine (told_c { d with ended := 12, asked := tickI now } _).calls ?_; conv => whnf)
    | (refine ⟨_, fun _ => told_c { d with ended := 12, asked := tickI now } _, ?_⟩; conv => whnf)
    | (refine ⟨_, _, told_c { d with ended := 12, asked := tickI now } _, ?_⟩; conv => whnf)
    | (refine And.intro (?_ : (_ && drawCheck _ _) = true) ?_; · kernel_rfl
       conv => whnf)
    | (refine And.intro (fun hg => decide_eq_true ?_) ?_; · ((try simp only [cond_true, cond_false, Bool.not_eq_true', Bool.not_eq_eq_eq_not, Bool.not_true, Bool.not_false, decide_eq_true_eq, decide_eq_false_iff_not, Bool.and_eq_true, Bool.or_eq_true, Bool.or_eq_false_iff] at *); omega)
       conv => whnf)
    | (refine And.intro rfl ?_; conv => whnf)
    | (refine And.intro (fun _ => rfl) ?_; conv => whnf)
    | fail)
  all_goals
    refine ret_seen low ?_
    ((try simp only [Bool.not_eq_true', Bool.not_eq_false'] at *); simp only [finishD, *, cond_true, cond_false, Bool.not_true, Bool.not_false, Bool.not_not, Bool.and_true, Bool.true_and, Bool.and_false, Bool.false_and, Bool.or_true, Bool.true_or, Bool.or_false, Bool.false_or, Bool.true_eq_false, Bool.false_eq_true])
    exact Seen.tup (.cons _ _ _ _ (Seen.refl _ _) (.cons _ _ _ _ (by first | exact seen_nil | exact Seen.refl _ _) (.cons _ _ _ _ (Seen.refl _ _) .nil)))

def fallD (d : Daemon) : Daemon := bif dmnE d != 0 then .zero else { d.idle d.epoch with up := false }
theorem fall_c (d : Daemon) : ∀ objs, AGives Try.prog 19 [d.a] objs (fallD d).a := by
  refine AGives.any rfl rfl (ACalls.of_cwp (fun _ => true) Try.func19 rfl rfl ?_)
  conv => whnf
  repeat' (first
    | (refine And.intro (fun _ => ?_) (fun h => Bool.noConfusion h); conv => whnf)
    | (refine And.intro (fun h => Bool.noConfusion h) (fun _ => ?_); conv => whnf)
    | (refine And.intro (fun h => ?_) (fun h => ?_) <;> conv => whnf)
    | (refine (dmnCheck_c d _).calls ?_; conv => whnf)
    | (refine ⟨_, fun _ => dmnCheck_c d _, ?_⟩; conv => whnf)
    | (refine ⟨_, _, dmnCheck_c d _, ?_⟩; conv => whnf)
    | (refine (idle_c d d.epoch _).calls ?_; conv => whnf)
    | (refine ⟨_, fun _ => idle_c d d.epoch _, ?_⟩; conv => whnf)
    | (refine ⟨_, _, idle_c d d.epoch _, ?_⟩; conv => whnf)
    | (refine And.intro (?_ : (_ && drawCheck _ _) = true) ?_; · kernel_rfl
       conv => whnf)
    | (refine And.intro (fun hg => decide_eq_true ?_) ?_; · ((try simp only [cond_true, cond_false, Bool.not_eq_true', Bool.not_eq_eq_eq_not, Bool.not_true, Bool.not_false, decide_eq_true_eq, decide_eq_false_iff_not, Bool.and_eq_true, Bool.or_eq_true, Bool.or_eq_false_iff] at *); omega)
       conv => whnf)
    | (refine And.intro rfl ?_; conv => whnf)
    | (refine And.intro (fun _ => rfl) ?_; conv => whnf)
    | fail)
  all_goals exact ⟨_, _, told_low2 rfl, by ((try simp only [Bool.not_eq_true', Bool.not_eq_false'] at *); simp only [fallD, *, cond_true, cond_false, Bool.not_true, Bool.not_false, Bool.not_not, Bool.and_true, Bool.true_and, Bool.and_false, Bool.false_and, Bool.or_true, Bool.true_or, Bool.or_false, Bool.false_or, Bool.true_eq_false, Bool.false_eq_true]); rfl, rfl⟩

def riseD (d : Daemon) : Daemon := bif dmnE d != 0 then .zero else { d with up := true }
theorem rise_c (d : Daemon) : ∀ objs, AGives Try.prog 21 [d.a] objs (riseD d).a := by
  refine AGives.any rfl rfl (ACalls.of_cwp (fun _ => true) Try.func21 rfl rfl ?_)
  conv => whnf
  repeat' (first
    | (refine And.intro (fun _ => ?_) (fun h => Bool.noConfusion h); conv => whnf)
    | (refine And.intro (fun h => Bool.noConfusion h) (fun _ => ?_); conv => whnf)
    | (refine And.intro (fun h => ?_) (fun h => ?_) <;> conv => whnf)
    | (refine (dmnCheck_c d _).calls ?_; conv => whnf)
    | (refine ⟨_, fun _ => dmnCheck_c d _, ?_⟩; conv => whnf)
    | (refine ⟨_, _, dmnCheck_c d _, ?_⟩; conv => whnf)
    | (refine And.intro (?_ : (_ && drawCheck _ _) = true) ?_; · kernel_rfl
       conv => whnf)
    | (refine And.intro (fun hg => decide_eq_true ?_) ?_; · ((try simp only [cond_true, cond_false, Bool.not_eq_true', Bool.not_eq_eq_eq_not, Bool.not_true, Bool.not_false, decide_eq_true_eq, decide_eq_false_iff_not, Bool.and_eq_true, Bool.or_eq_true, Bool.or_eq_false_iff] at *); omega)
       conv => whnf)
    | (refine And.intro rfl ?_; conv => whnf)
    | (refine And.intro (fun _ => rfl) ?_; conv => whnf)
    | fail)
  all_goals exact ⟨_, _, told_low2 rfl, by ((try simp only [Bool.not_eq_true', Bool.not_eq_false'] at *); simp only [riseD, *, cond_true, cond_false, Bool.not_true, Bool.not_false, Bool.not_not, Bool.and_true, Bool.true_and, Bool.and_false, Bool.false_and, Bool.or_true, Bool.true_or, Bool.or_false, Bool.false_or, Bool.true_eq_false, Bool.false_eq_true]); rfl, rfl⟩

def sulkD (d : Daemon) (b : Bool) : Daemon := bif dmnE d != 0 then .zero else { d with sulks := b }
theorem sulk_c (d : Daemon) (b : Bool) : ∀ objs, AGives Try.prog 22 [d.a, Bo b] objs (sulkD d b).a := by
  refine AGives.any rfl rfl (ACalls.of_cwp (fun _ => true) Try.func22 rfl rfl ?_)
  conv => whnf
  repeat' (first
    | (refine And.intro (fun _ => ?_) (fun h => Bool.noConfusion h); conv => whnf)
    | (refine And.intro (fun h => Bool.noConfusion h) (fun _ => ?_); conv => whnf)
    | (refine And.intro (fun h => ?_) (fun h => ?_) <;> conv => whnf)
    | (refine (dmnCheck_c d _).calls ?_; conv => whnf)
    | (refine ⟨_, fun _ => dmnCheck_c d _, ?_⟩; conv => whnf)
    | (refine ⟨_, _, dmnCheck_c d _, ?_⟩; conv => whnf)
    | (refine And.intro (?_ : (_ && drawCheck _ _) = true) ?_; · kernel_rfl
       conv => whnf)
    | (refine And.intro (fun hg => decide_eq_true ?_) ?_; · ((try simp only [cond_true, cond_false, Bool.not_eq_true', Bool.not_eq_eq_eq_not, Bool.not_true, Bool.not_false, decide_eq_true_eq, decide_eq_false_iff_not, Bool.and_eq_true, Bool.or_eq_true, Bool.or_eq_false_iff] at *); omega)
       conv => whnf)
    | (refine And.intro rfl ?_; conv => whnf)
    | (refine And.intro (fun _ => rfl) ?_; conv => whnf)
    | fail)
  all_goals exact ⟨_, _, told_low2 rfl, by ((try simp only [Bool.not_eq_true', Bool.not_eq_false'] at *); simp only [sulkD, *, cond_true, cond_false, Bool.not_true, Bool.not_false, Bool.not_not, Bool.and_true, Bool.true_and, Bool.and_false, Bool.false_and, Bool.or_true, Bool.true_or, Bool.or_false, Bool.false_or, Bool.true_eq_false, Bool.false_eq_true]); rfl, rfl⟩

end Go.Proofs.Ytlgfgcadoocgoaa
