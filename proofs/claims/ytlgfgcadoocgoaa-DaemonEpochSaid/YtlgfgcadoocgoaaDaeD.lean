/-
  Two lists of notes held against each other.
-/
import Derived.Test.YtlgfgcadoocgoaaDaeC
namespace Go.Proofs.Ytlgfgcadoocgoaa
set_option linter.unusedSimpArgs false
set_option linter.unusedVariables false
open Go.Fw

set_option maxRecDepth 20000
set_option maxHeartbeats 4000000
attribute [local irreducible] ACalls

theorem take_succ_eq {α : Type} {a b : List α} (d : α) {j : Nat} (hl : a.length = b.length) (hj : j < a.length) (h : a.take j = b.take j) (he : a.getD j d = b.getD j d) : a.take (j + 1) = b.take (j + 1) := by
  have hb : j < b.length := by omega
  rw [List.take_succ_eq_append_getElem hj, List.take_succ_eq_append_getElem hb, h]
  simp only [List.getD, List.getElem?_eq_getElem hj, List.getElem?_eq_getElem hb, Option.getD_some] at he
  rw [he]

theorem sameNotes_c (a b : List Note) (ha : a.length < 1000000) : ∀ objs, AGives Try.prog 18 [notes a, notes b] objs (Bo (decide (a = b))) := by
  refine AGives.any' (.cons (notes_low _ _) (.cons (notes_low _ _) .nil)) (low2_sound rfl) (ACalls.of_cwp (fun _ => true) Try.func18 rfl rfl ?_)
  conv => whnf
  refine And.intro (fun h => ?_) (fun h => ?_)
  all_goals conv => whnf
  · refine ⟨_, _, told_low2 rfl, B_eq ?_, rfl⟩
    simp at h
    have : a ≠ b := fun e => h (by rw [e])
    simp [this]
  have hl : a.length = b.length := by simp at h; omega
  refine loop_start (fun j : Nat => j ≤ a.length ∧ a.take j = b.take j) (fun j => a.length - j) (fun j => [(5, I j), (4, Bo false), (0, notes a), (1, notes b)]) (fun _ => []) 0 (weaker_drop ?_) ⟨Nat.zero_le _, rfl⟩ ?_
  · repeat (first | exact .nil | refine .cons _ _ _ rfl (by first | exact low2_sound rfl | exact notes_low _ _) ?_ | (refine .cons _ _ _ (I_eq ?_) (low2_sound rfl) ?_; rotate_left))
    all_goals try exact wr (by omega)
  rintro j ⟨hj, hjj⟩
  conv => whnf
  refine And.intro (fun h => ?_) (fun h => ?_)
  all_goals conv => whnf
  · have hj' := of_decide_eq_true h
    repeat' (first
      | (refine And.intro (fun _ => ?_) (fun h => Bool.noConfusion h); conv => whnf)
      | (refine And.intro (fun h => Bool.noConfusion h) (fun _ => ?_); conv => whnf)
      | (refine And.intro (fun h => ?_) (fun h => ?_) <;> conv => whnf)
      | (refine And.intro (?_ : (_ && drawCheck _ _) = true) ?_; · kernel_rfl
         conv => whnf)
      | (refine And.intro (fun hg => decide_eq_true ?_) ?_; · ((try simp only [cond_true, cond_false, Bool.not_eq_true', Bool.not_eq_eq_eq_not, Bool.not_true, Bool.not_false, decide_eq_true_eq, decide_eq_false_iff_not, Bool.and_eq_true, Bool.or_eq_true, Bool.or_eq_false_iff] at *); omega)
         conv => whnf)
      | (refine And.intro rfl ?_; conv => whnf)
      | (refine And.intro (fun _ => rfl) ?_; conv => whnf)
      | (refine And.intro (fun _ => eqNote) ?_; conv => whnf)
      | fail)
    · have h' : (!Note.eqb (a.getD j .zero) (b.getD j .zero)) = true := h
      refine ⟨_, _, told_low2 rfl, B_eq ?_, rfl⟩
      have : a ≠ b := fun e => by rw [e, (Note.eqb_iff _ _).2 rfl] at h'; cases h'
      simp [this]
    · have h' : (!Note.eqb (a.getD j .zero) (b.getD j .zero)) = false := h
      refine loop_next (j + 1) (by omega) (weaker_drop ?_) ⟨by omega, ?_⟩
      · repeat (first | exact .nil | refine .cons _ _ _ rfl (by first | exact low2_sound rfl | exact notes_low _ _) ?_ | (refine .cons _ _ _ (I_eq ?_) (low2_sound rfl) ?_; rotate_left))
        all_goals try exact wr (by omega)
      · exact take_succ_eq .zero hl (by omega) hjj ((Note.eqb_iff _ _).1 (by simpa using h'))
  · have hj' := of_decide_eq_false h
    refine ⟨_, _, told_low2 rfl, B_eq ?_, rfl⟩
    rw [List.take_of_length_le (by omega), List.take_of_length_le (by omega)] at hjj
    simp [hjj]
end Go.Proofs.Ytlgfgcadoocgoaa
