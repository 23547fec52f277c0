/-
  A store of any number of blocks that may be: it is made. No condition.
-/
import Derived.Test.YtalhamokkblnjaaGreatDoorQ7
namespace Go.Proofs.YtalhamokkblnjaaGreatDoor
set_option linter.unusedSimpArgs false
set_option linter.unusedVariables false
open Go.Fw

set_option maxRecDepth 20000
set_option maxHeartbeats 4000000
attribute [local irreducible] ACalls

def stO (i : Nat) : Objs := [(0, .row 99 5 [[.own 1 0 1 0 i, Bo false, I 0, I 0, I 0]]), (0, .row 131 1 (List.replicate i [.any]))]
theorem turn_es_any {objs : Objs} {n : Nat} {ks : List Nat} : ∀ (m : Nat) (x : AVal), TurnEs objs n ks (List.replicate m [.any] ++ [[x]]) (List.replicate (m + 1) [.any])
  | 0, x => .cons _ _ _ _ (.cons _ _ _ _ turn_any .nil) .nil
  | m + 1, x => .cons _ _ _ _ (.cons _ _ _ _ turn_any .nil) (turn_es_any m x)
theorem storeNew_c (n : Int) (h1 : 1 ≤ n) (h2 : n ≤ 400) : ∀ objs, AGives Tryz.prog 38 [I n] objs (.tup [.any, I 0]) := by
  refine AGives.any rfl rfl (ACalls.of_cwp (fun _ => true) Tryz.func38 rfl rfl ?_)
  conv => whnf
  repeat' (first
    | (refine And.intro (fun _ => ?_) (fun h => Bool.noConfusion h); conv => whnf)
    | (refine And.intro (fun h => Bool.noConfusion h) (fun _ => ?_); conv => whnf)
    | (refine And.intro (fun h => ?_) (fun h => ?_) <;> conv => whnf)
    | (refine And.intro (?_ : (_ && drawCheck _ _) = true) ?_; · kernel_rfl
       conv => whnf)
    | (refine And.intro (fun hg => decide_eq_true ?_) ?_; · ((try simp only [cond_true, cond_false, Bool.not_eq_true', Bool.not_eq_eq_eq_not, Bool.not_true, Bool.not_false, decide_eq_true_eq, decide_eq_false_iff_not, Bool.and_eq_true, Bool.or_eq_true, Bool.or_eq_false_iff] at *); omega)
       conv => whnf)
    | (refine And.intro rfl ?_; conv => whnf)
    | (refine And.intro (fun _ => rfl) ?_; conv => whnf)
    | fail)
  · exact absurd h (by simp; omega)
  · refine loop_start1 (fun i : Nat => (i : Int) ≤ n) (fun i => (n - i).toNat) (fun i => [(14, I i), (13, I n), (4, .ptr 0 0 5 0 0)]) stO 0 ((weaker_none 131 1).trans (wk [0, 1] (tO rfl (turn_row1 (cv (turn_nilown 1 rfl) (c1 (c1 (c1 (c1 .nil)))))) (tO rfl (turn_same rfl (fun e he => nomatch he)) .nil)) (s1 (s1 (sv (turn_ptr 0 rfl rfl) .nil))))) (by omega) ?_
    intro i hi
    conv => whnf
    repeat' (first
      | (refine And.intro (fun _ => ?_) (fun h => Bool.noConfusion h); conv => whnf)
      | (refine And.intro (fun h => Bool.noConfusion h) (fun _ => ?_); conv => whnf)
      | (refine And.intro (fun h => ?_) (fun h => ?_) <;> conv => whnf)
      | (refine And.intro (?_ : (_ && drawCheck _ _) = true) ?_; · kernel_rfl
         conv => whnf)
      | (refine And.intro (fun hg => decide_eq_true ?_) ?_; · ((try simp only [cond_true, cond_false, Bool.not_eq_true', Bool.not_eq_eq_eq_not, Bool.not_true, Bool.not_false, decide_eq_true_eq, decide_eq_false_iff_not, Bool.and_eq_true, Bool.or_eq_true, Bool.or_eq_false_iff] at *); omega)
         conv => whnf)
      | (refine And.intro rfl ?_; conv => whnf)
      | (refine And.intro (fun _ => rfl) ?_; conv => whnf)
      | fail)
    · refine And.intro (app_ok (m := i + 1) 24 (by kernel_rfl) List.length_replicate.symm (by omega)) ?_
      conv => whnf
      repeat' (first
        | (refine And.intro (fun _ => ?_) (fun h => Bool.noConfusion h); conv => whnf)
        | (refine And.intro (fun h => Bool.noConfusion h) (fun _ => ?_); conv => whnf)
        | (refine And.intro (fun h => ?_) (fun h => ?_) <;> conv => whnf)
        | (refine And.intro (?_ : (_ && drawCheck _ _) = true) ?_; · kernel_rfl
           conv => whnf)
        | (refine And.intro (fun hg => decide_eq_true ?_) ?_; · ((try simp only [cond_true, cond_false, Bool.not_eq_true', Bool.not_eq_eq_eq_not, Bool.not_true, Bool.not_false, decide_eq_true_eq, decide_eq_false_iff_not, Bool.and_eq_true, Bool.or_eq_true, Bool.or_eq_false_iff] at *); omega)
           conv => whnf)
        | (refine And.intro rfl ?_; conv => whnf)
        | (refine And.intro (fun _ => rfl) ?_; conv => whnf)
        | fail)
      refine loop_next1 (i + 1) (wk [0, 1] (tO rfl (turn_row1 (cv (to 1 rfl) (c1 (c1 (c1 (c1 .nil)))))) (tO rfl (.row _ _ _ _ (turn_es_any i _)) .nil)) (sv (turn_eq (I_eq ?_) (low2_sound rfl)) (s1 (sv (turn_ptr 0 rfl rfl) .nil)))) ?_ ?_
      · rw [wr (by omega)]; rfl
      · have := of_decide_eq_true h
        omega
      · have := of_decide_eq_true h
        omega
    · exact ⟨_, _, told_turn0 [] .nil .nil (turn_tup (.cons _ _ _ _ turn_any (.cons _ _ _ _ (turn_low (low2_sound rfl)) .nil))), rfl, rfl⟩
end Go.Proofs.YtalhamokkblnjaaGreatDoor
