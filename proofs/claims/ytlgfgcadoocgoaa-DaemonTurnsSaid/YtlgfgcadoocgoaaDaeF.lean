/-
  The law DaemonTurns as a contract: the program's daemon is the reference's.
-/
import Derived.Test.YtlgfgcadoocgoaaDaeE
namespace Go.Proofs.Ytlgfgcadoocgoaa
open Go.Fw

set_option maxRecDepth 20000
set_option maxHeartbeats 4000000
attribute [local irreducible] ACalls

theorem rE_eq (d : Daemon) : rE d = dmnE d := by
  obtain ⟨n, m, j, e, u, s, k, a⟩ := d
  simp only [rE, rBad, dmnE, dmnOK, dmnBad, dmnFit, dmnHeld, Bool.cond_eq_ite]
  grind

theorem heldI_eq (n : Int) : heldI n = tickI n := by
  simp only [heldI, tickI, Bool.cond_eq_ite, decide_eq_true_eq]
  split
  · omega
  · split <;> omega

theorem tickI_le (n : Int) : 0 ≤ tickI n ∧ tickI n ≤ 1000000 := by unfold tickI; omega

theorem dmnE_asked {d : Daemon} (h : (dmnE d != 0) = false) : 0 ≤ d.asked ∧ d.asked ≤ 1000000 := by
  simp only [dmnE, dmnOK, dmnBad, Bool.cond_eq_ite] at h
  grind

theorem rTick_eq (d : Daemon) (now : Int) : rTick d now = tickD d now := by
  unfold rTick tickD
  rw [rE_eq, heldI_eq]
  cases h : (dmnE d != 0) with
  | true => rfl
  | false =>
    have h1 := dmnE_asked h
    have h2 := tickI_le now
    rw [wr (by omega), wr (by omega)]
    have : decide (tickI now < d.asked + 3) = decide (tickI now - d.asked < 3) := by
      rw [decide_eq_decide]; omega
    rw [this]

theorem rFinish_eq (d : Daemon) (good : Bool) (now : Int) : rFinish d good now = finishD d good now := by
  unfold rFinish finishD
  rw [rE_eq, heldI_eq]

theorem rTurn0 (d : Daemon) : rTurn d 0 = fallD d := by unfold rTurn fallD; rw [rE_eq]; rfl
theorem rTurn1 (d : Daemon) : rTurn d 1 = riseD d := by unfold rTurn riseD; rw [rE_eq]; rfl
theorem rTurn2 (d : Daemon) : rTurn d 2 = sulkD d true := by unfold rTurn sulkD; rw [rE_eq]; rfl
theorem rTurn3 (d : Daemon) : rTurn d 3 = sulkD d false := by unfold rTurn sulkD; rw [rE_eq]; rfl

theorem eqDmn : eqOK Try.prog 38 = true := by kernel_rfl

theorem tickD_len (d : Daemon) (now : Int) : (tickD d now).2.length < 1000000 := by
  unfold tickD
  cases (dmnE d != 0) <;> (try cases (d.ended == 0 || decide (IntKind.i64.wrap (tickI now - d.asked) < 3))) <;> simp

theorem finishD_len (d : Daemon) (good : Bool) (now : Int) : (finishD d good now).2.1.length < 1000000 := by
  unfold finishD
  cases (dmnE d != 0) <;> (try cases (d.mode != 2 || d.ended != 0)) <;> simp

theorem daemonTurns_c (d : Daemon) (good : Bool) (now : Int) : ∀ objs, AGives Try.prog 5 [d.a, Bo good, I now] objs (Bo true) := by
  have r1 := rTick_c d now
  rw [rTick_eq] at r1
  have r2 := rFinish_c d good now
  rw [rFinish_eq] at r2
  have t0 := rTurn_c d 0
  rw [rTurn0] at t0
  have t1 := rTurn_c d 1
  rw [rTurn1] at t1
  have t2 := rTurn_c d 2
  rw [rTurn2] at t2
  have t3 := rTurn_c d 3
  rw [rTurn3] at t3
  have s1 := sameNotes_c (tickD d now).2 (tickD d now).2 (tickD_len d now)
  have s2 := sameNotes_c (finishD d good now).2.1 (finishD d good now).2.1 (finishD_len d good now)
  refine AGives.any rfl rfl (ACalls.of_cwp (fun _ => true) Try.func5 rfl rfl ?_)
  conv => whnf
  repeat' (first
    | (refine And.intro (fun _ => ?_) (fun h => Bool.noConfusion h); conv => whnf)
    | (refine And.intro (fun h => Bool.noConfusion h) (fun _ => ?_); conv => whnf)
    | (refine And.intro (fun h => ?_) (fun h => ?_) <;> conv => whnf)
    | (refine (dTick_c d now _).calls ?_; conv => whnf)
    | (refine ⟨_, fun _ => dTick_c d now _, ?_⟩; conv => whnf)
    | (refine ⟨_, _, dTick_c d now _, ?_⟩; conv => whnf)
    | (refine (r1 _).calls ?_; conv => whnf)
    | (refine ⟨_, fun _ => r1 _, ?_⟩; conv => whnf)
    | (refine ⟨_, _, r1 _, ?_⟩; conv => whnf)
    | (refine (finish_c d good now _).calls ?_; conv => whnf)
    | (refine ⟨_, fun _ => finish_c d good now _, ?_⟩; conv => whnf)
    | (refine ⟨_, _, finish_c d good now _, ?_⟩; conv => whnf)
    | (refine (r2 _).calls ?_; conv => whnf)
    | (refine ⟨_, fun _ => r2 _, ?_⟩; conv => whnf)
    | (refine ⟨_, _, r2 _, ?_⟩; conv => whnf)
    | (refine (s1 _).calls ?_; conv => whnf)
    | (refine ⟨_, fun _ => s1 _, ?_⟩; conv => whnf)
    | (refine ⟨_, _, s1 _, ?_⟩; conv => whnf)
    | (refine (s2 _).calls ?_; conv => whnf)
    | (refine ⟨_, fun _ => s2 _, ?_⟩; conv => whnf)
    | (refine ⟨_, _, s2 _, ?_⟩; conv => whnf)
    | (refine (fall_c d _).calls ?_; conv => whnf)
    | (refine ⟨_, fun _ => fall_c d _, ?_⟩; conv => whnf)
    | (refine ⟨_, _, fall_c d _, ?_⟩; conv => whnf)
    | (refine (t0 _).calls ?_; conv => whnf)
    | (refine ⟨_, fun _ => t0 _, ?_⟩; conv => whnf)
    | (refine ⟨_, _, t0 _, ?_⟩; conv => whnf)
    | (refine (rise_c d _).calls ?_; conv => whnf)
    | (refine ⟨_, fun _ => rise_c d _, ?_⟩; conv => whnf)
    | (refine ⟨_, _, rise_c d _, ?_⟩; conv => whnf)
    | (refine (t1 _).calls ?_; conv => whnf)
    | (refine ⟨_, fun _ => t1 _, ?_⟩; conv => whnf)
    | (refine ⟨_, _, t1 _, ?_⟩; conv => whnf)
    | (refine (sulk_c d good _).calls ?_; conv => whnf)
    | (refine ⟨_, fun _ => sulk_c d good _, ?_⟩; conv => whnf)
    | (refine ⟨_, _, sulk_c d good _, ?_⟩; conv => whnf)
    | (refine (t2 _).calls ?_; conv => whnf)
    | (refine ⟨_, fun _ => t2 _, ?_⟩; conv => whnf)
    | (refine ⟨_, _, t2 _, ?_⟩; conv => whnf)
    | (refine (t3 _).calls ?_; conv => whnf)
    | (refine ⟨_, fun _ => t3 _, ?_⟩; conv => whnf)
    | (refine ⟨_, _, t3 _, ?_⟩; conv => whnf)
    | (refine (awake36_c _).calls ?_; conv => whnf)
    | (refine ⟨_, fun _ => awake36_c _, ?_⟩; conv => whnf)
    | (refine ⟨_, _, awake36_c _, ?_⟩; conv => whnf)
    | (refine And.intro (?_ : (_ && drawCheck _ _) = true) ?_; · kernel_rfl
       conv => whnf)
    | (refine And.intro (fun _ => decide_eq_true ?_) ?_; · omega
       conv => whnf)
    | (refine And.intro rfl ?_; conv => whnf)
    | (refine And.intro (fun _ => rfl) ?_; conv => whnf)
    | (refine And.intro (fun _ => eqDmn) ?_; conv => whnf))
  all_goals exact ⟨_, _, told_low2 rfl, B_eq (by simp [h]), rfl⟩

end Go.Proofs.Ytlgfgcadoocgoaa
