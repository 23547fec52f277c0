/-
  The law DaemonServes as a contract.
-/
import Derived.Test.YtlgfgcadoocgoaaDaeE
namespace Go.Proofs.Ytlgfgcadoocgoaa
open Go.Fw

set_option maxRecDepth 20000
set_option maxHeartbeats 4000000
attribute [local irreducible] ACalls

/-- What comes of hearing. -/
theorem serves_plain (d : Daemon) (n : Note) (h : (dmnE d != 0) = false) :
    ((hearD d n).1.mode = 2 → (d.mode ≠ 0 ∧ (hearD d n).1.job = d.job ∧ (hearD d n).1.epoch = d.epoch) ∨ (n.k = 1 ∧ n.j = (hearD d n).1.job ∧ n.e = (hearD d n).1.epoch ∧ n.e > d.epoch)) ∧
    ((hearD d n).1.mode = 2 → d.mode = 1 → (hearD d n).1.epoch = d.epoch → n.k = 3) ∧
    (((hearD d n).2.getD 0 .zero).k = 10 ∨ ((hearD d n).2.getD 0 .zero).k = 13 → (hearD d n).1.mode = 0 ∧ (hearD d n).1.epoch = n.e) ∧
    (((hearD d n).2.getD 0 .zero).k = 7 → (hearD d n).1.mode = 2 ∧ (hearD d n).1.job = n.j ∧ (hearD d n).1.epoch = n.e) ∧
    (hearD d n).2.length ≤ 1 := by
  obtain ⟨a1, a2, a3, a4, a5, a6, a7, a8⟩ := d
  obtain ⟨k1, k2, k3, k4⟩ := n
  simp only [hearD, h, cond_false]
  cases hh : heedsB ⟨a1, a2, a3, a4, a5, a6, a7, a8⟩ ⟨k1, k2, k3, k4⟩ with
  | false =>
    simp only [Bool.not_false, cond_true, List.getD_nil, Note.zero, List.length_nil]
    clear h hh
    grind
  | true =>
    simp only [heedsB, Bool.and_eq_true, decide_eq_true_eq] at hh
    have he := hh.2
    clear h hh
    simp only [Bool.not_true, cond_false, shrinkD, laterB, ownB, servesB, Daemon.idle, Daemon.bound, Note.as, Bool.cond_eq_ite]
    repeat' split
    all_goals grind

theorem daemonServes_c (d : Daemon) (n : Note) : ∀ objs, AGives Try.prog 7 [d.a, n.a] objs (Bo true) := by
  refine AGives.any rfl rfl (ACalls.of_cwp (fun _ => true) Try.func7 rfl rfl ?_)
  conv => whnf
  repeat' (first
    | (refine And.intro (fun _ => ?_) (fun h => Bool.noConfusion h); conv => whnf)
    | (refine And.intro (fun h => Bool.noConfusion h) (fun _ => ?_); conv => whnf)
    | (refine And.intro (fun h => ?_) (fun h => ?_) <;> conv => whnf)
    | (refine (dmnCheck_c d _).calls ?_; conv => whnf)
    | (refine ⟨_, fun _ => dmnCheck_c d _, ?_⟩; conv => whnf)
    | (refine ⟨_, _, dmnCheck_c d _, ?_⟩; conv => whnf)
    | (refine (hear_c d n _).calls ?_; conv => whnf)
    | (refine ⟨_, fun _ => hear_c d n _, ?_⟩; conv => whnf)
    | (refine ⟨_, _, hear_c d n _, ?_⟩; conv => whnf)
    | (refine (awake36_c _).calls ?_; conv => whnf)
    | (refine ⟨_, fun _ => awake36_c _, ?_⟩; conv => whnf)
    | (refine ⟨_, _, awake36_c _, ?_⟩; conv => whnf)
    | (refine And.intro (?_ : (_ && drawCheck _ _) = true) ?_; · kernel_rfl
       conv => whnf)
    | (refine And.intro (fun _ => decide_eq_true ?_) ?_; · omega
       conv => whnf)
    | (refine And.intro (fun hg => decide_eq_true ?_) ?_; · (simp only [cond_true, cond_false, Bool.not_eq_true', Bool.not_eq_eq_eq_not, Bool.not_true, Bool.not_false, decide_eq_true_eq, decide_eq_false_iff_not, Bool.and_eq_true, Bool.or_eq_true] at hg; omega)
       conv => whnf)
    | (refine And.intro rfl ?_; conv => whnf)
    | (refine And.intro (fun _ => rfl) ?_; conv => whnf))
  · exact ⟨_, _, told_low2 rfl, rfl, rfl⟩
  all_goals
    refine ⟨_, _, told_low2 rfl, B_eq ?_, rfl⟩
    obtain ⟨p1, p2, p3, p4, p5⟩ := serves_plain d n (by assumption)
    generalize hearD d n = q at *
    (try simp only [show Int.toNat 0 = 0 from rfl] at *)
    grind

end Go.Proofs.Ytlgfgcadoocgoaa
