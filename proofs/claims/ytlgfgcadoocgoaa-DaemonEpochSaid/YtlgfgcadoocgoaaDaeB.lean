/-
  What a daemon hears.
-/
import Derived.Test.YtlgfgcadoocgoaaDaeA
namespace Go.Proofs.Ytlgfgcadoocgoaa
set_option linter.unusedSimpArgs false
set_option linter.unusedVariables false
open Go.Fw

set_option maxRecDepth 20000
set_option maxHeartbeats 4000000
attribute [local irreducible] ACalls

def Note.as (n : Note) (k : Int) : Note := { n with k := k }

def laterB (d : Daemon) (n : Note) : Bool := decide (n.e > d.epoch)
def ownB (d : Daemon) (n : Note) : Bool := !decide (n.e > d.epoch) && n.j == d.job && d.mode != 0
def servesB (d : Daemon) (n : Note) : Bool := !decide (n.e > d.epoch) && n.j == d.job && d.mode != 0 && d.mode == 2

def shrinkD (d : Daemon) (n : Note) : Daemon × List Note :=
  bif servesB d n && d.sulks then (d, [n.as 9]) else bif servesB d n then (d, [n.as 8]) else bif laterB d n then (d.idle n.e, [n.as 14]) else (d, [n.as 14])

def hearD (d : Daemon) (n : Note) : Daemon × List Note :=
  bif dmnE d != 0 then (.zero, []) else
  bif !heedsB d n then (d, []) else
  bif n.k == 1 then (bif laterB d n then (d.bound 2 n, [n.as 7]) else bif servesB d n then (d, [n.as 7]) else (d, [n.as 14])) else
  bif n.k == 2 then (bif laterB d n && d.sulks then (d.idle n.e, [n.as 9]) else bif laterB d n then (d.bound 1 n, [n.as 8]) else bif ownB d n then (d, [n.as 8]) else (d, [n.as 9])) else
  bif n.k == 3 then (bif ownB d n then ({ d with mode := 2 }, [n.as 7]) else shrinkD d n) else
  bif n.k == 4 then shrinkD d n else
  bif n.k == 5 then (d.idle n.e, [n.as 10]) else (d.idle n.e, [n.as 13])

theorem seen_dmn {o : Objs} {x : Daemon} {a b c d e' f : Int} {u v : Bool} (h : x = ⟨a, b, c, d, u, v, e', f⟩) : Seen o (.agg [I a, I b, I c, I d, Bo u, Bo v, I e', I f]) x.a := by
  subst h
  exact Seen.refl _ _

theorem seen_note1 {o : Objs} {l : List Note} {t : Bool} {f : Nat → List AVal} {a b c d : Int} (hf : f 0 = [I a, I b, I c, I d]) (h : l = [⟨a, b, c, d⟩]) : Seen o (.seq 4 1 t f) (notes l) := by
  subst h
  exact seen_one hf

theorem seen_note0 {o : Objs} {l : List Note} (h : l = []) : Seen o (.lit (.slice none 0 0)) (notes l) := by
  subst h
  exact seen_nil

theorem hear_c (d : Daemon) (n : Note) : ∀ objs, AGives Try.prog 25 [d.a, n.a] objs (.tup [(hearD d n).1.a, notes (hearD d n).2]) := by
  have low : Low 0 (.tup [(hearD d n).1.a, notes (hearD d n).2]) := .tup' (.cons (low2_sound rfl) (.cons (notes_low _ _) .nil))
  refine AGives.any' (.cons (low2_sound rfl) (.cons (low2_sound rfl) .nil)) low (ACalls.of_cwp (fun _ => true) Try.func25 rfl rfl ?_)
  conv => whnf
  repeat' (first
    | (refine And.intro (fun _ => ?_) (fun h => Bool.noConfusion h); conv => whnf)
    | (refine And.intro (fun h => Bool.noConfusion h) (fun _ => ?_); conv => whnf)
    | (refine And.intro (fun h => ?_) (fun h => ?_) <;> conv => whnf)
    | (refine (dmnCheck_c d _).calls ?_; conv => whnf)
    | (refine ⟨_, fun _ => dmnCheck_c d _, ?_⟩; conv => whnf)
    | (refine ⟨_, _, dmnCheck_c d _, ?_⟩; conv => whnf)
    | (refine (heeds_c d n _).calls ?_; conv => whnf)
    | (refine ⟨_, fun _ => heeds_c d n _, ?_⟩; conv => whnf)
    | (refine ⟨_, _, heeds_c d n _, ?_⟩; conv => whnf)
    | (refine (bound_c d _ n _).calls ?_; conv => whnf)
    | (refine ⟨_, fun _ => bound_c d _ n _, ?_⟩; conv => whnf)
    | (refine ⟨_, _, bound_c d _ n _, ?_⟩; conv => whnf)
    | (refine (idle_c d _ _).calls ?_; conv => whnf)
    | (refine ⟨_, fun _ => idle_c d _ _, ?_⟩; conv => whnf)
    | (refine ⟨_, _, idle_c d _ _, ?_⟩; conv => whnf)
    | (refine ACalls.of_cwp (fun _ => true) Try.func39 rfl rfl ?_; conv => whnf)
    | (refine ⟨_, _, ACalls.of_cwp (fun _ => true) Try.func39 rfl rfl ?_, ?_⟩; conv => whnf)
    | (refine ⟨_, fun _ => ACalls.of_cwp (fun _ => true) Try.func39 rfl rfl ?_, ?_⟩; conv => whnf)
    | (refine ⟨_, _, Told.refl, rfl, rfl⟩)
    | (refine ⟨_, _, Told.refl, ?_⟩; (conv => whnf); fail_if_success (refine And.intro (Eq.trans (α := AVal) rfl ?_) ?_))
    | (refine And.intro (?_ : (_ && drawCheck _ _) = true) ?_; · kernel_rfl
       conv => whnf)
    | (refine And.intro (fun hg => decide_eq_true ?_) ?_; · ((try simp only [cond_true, cond_false, Bool.not_eq_true', Bool.not_eq_eq_eq_not, Bool.not_true, Bool.not_false, decide_eq_true_eq, decide_eq_false_iff_not, Bool.and_eq_true, Bool.or_eq_true, Bool.or_eq_false_iff] at *); omega)
       conv => whnf)
    | (refine And.intro rfl ?_; conv => whnf)
    | (refine And.intro (fun _ => rfl) ?_; conv => whnf)
    | fail)
  all_goals
    refine ret_seen low (Seen.tup (.cons _ _ _ _ (seen_dmn ?_) (.cons _ _ _ _ ?_ .nil)))
    rotate_left
    first | refine seen_note0 ?_ | refine seen_note1 rfl ?_
    all_goals clear low
    all_goals cases d
    all_goals simp only [hearD, shrinkD, laterB, ownB, servesB, Daemon.idle, Daemon.bound, Daemon.zero, Note.as, Bool.cond_eq_ite]
    all_goals grind
end Go.Proofs.Ytlgfgcadoocgoaa
