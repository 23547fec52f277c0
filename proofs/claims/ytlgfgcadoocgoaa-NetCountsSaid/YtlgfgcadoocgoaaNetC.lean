/-
  The laws NetTaken and NetCounts, as contracts.
-/
import Derived.Test.YtlgfgcadoocgoaaNetB
namespace Go.Proofs.Ytlgfgcadoocgoaa
set_option linter.unusedSimpArgs false
set_option linter.unusedVariables false
open Go.Fw

set_option maxRecDepth 20000
attribute [local irreducible] ACalls

def nA : Note := ⟨1, 0, 5, 1⟩
def nB : Note := ⟨11, 0, 5, 1⟩

theorem awake37_c : ∀ objs, AGives Try.prog 8 [] objs (Bo true) := by
  have s1 := send_c [] [nA, .zero, nB] (by simp) (by simp)
  rw [show sendP [] [nA, .zero, nB] = [nA, nB] by decide] at s1
  have d1 := double_c [nA, nB] 0 (by simp)
  rw [show doubleP [nA, nB] 0 = ([nA, nB, nA], 0) by decide] at d1
  have t1 := take_c [nA, nB, nA] 1 (by simp)
  rw [show takeP [nA, nB, nA] 1 = (nB, [nA, nA], 0) by decide] at t1
  have t2 := take_c [] 0 (by simp)
  rw [show takeP [] 0 = (.zero, [], 2) by decide] at t2
  have w1 := netdown_c [nA, nB, nA] (by simp)
  rw [show downP [nA, nB, nA] = 2 by decide] at w1
  refine AGives.any rfl rfl (ACalls.of_cwp (fun _ => true) Try.func8 rfl rfl ?_)
  conv => whnf
  refine ((s1 _).as (.cons _ _ _ _ as_nil (.cons _ _ _ _ (as_list [nA, .zero, nB] rfl ?_) .nil))).calls ?_
  · intro i hi
    match i, hi with
    | 0, _ => rfl
    | 1, _ => rfl
    | 2, _ => rfl
  conv => whnf
  refine (d1 _).calls ?_
  conv => whnf
  refine (t1 _).calls ?_
  conv => whnf
  refine ((t2 _).as (.cons _ _ _ _ as_nil (.cons _ _ _ _ (.refl _) .nil))).calls ?_
  conv => whnf
  refine ⟨by kernel_rfl, ?_⟩
  conv => whnf
  repeat ((first | refine ⟨fun _ => eqNote, ?_⟩ | refine ⟨fun _ => rfl, ?_⟩); conv => whnf)
  refine ⟨_, fun _ => w1 _, ?_⟩
  conv => whnf
  repeat (refine ⟨rfl, ?_⟩; conv => whnf)
  exact ⟨_, _, told_low2 rfl, rfl, rfl⟩

theorem eraseIdx_getD (l : List Note) (i k : Nat) (hi : i < l.length) (hk : k < l.length - 1) : (l.eraseIdx i).getD k .zero = l.getD (if k ≥ i then k + 1 else k) .zero := by
  simp only [List.getD, List.getElem?_eraseIdx]
  by_cases h : k < i
  · rw [if_pos h, if_neg (by omega)]
  · rw [if_neg h, if_pos (by omega)]

theorem netTaken_c (l : List Note) (i : Int) : ∀ objs, AGives Try.prog 3 [notes l, I i] objs (Bo true) := by
  refine AGives.any' (.cons (notes_low _ _) (.cons (low2_sound rfl) .nil)) (low2_sound rfl) (ACalls.of_cwp (fun t => Nat.ble 1000000 t || (Nat.blt t 10 || Nat.beq t 12 || Nat.beq t 22 || Nat.beq t 67 || Nat.beq t 71 || Nat.beq t 77 || Nat.beq t 88)) Try.func3 rfl rfl ?_)
  conv => whnf
  refine ⟨fun h => ?_, fun h => ?_⟩
  · conv => whnf
    refine (awake37_c _).calls ?_
    conv => whnf
    exact ⟨_, _, told_low2 rfl, rfl, rfl⟩
  have hl := of_decide_eq_false h
  have t1 := take_c l i (by omega)
  conv => whnf
  cases hin : decide (i ≥ 0) && decide (i < l.length) with
  | false =>
    rw [show takeP l i = (.zero, [], 2) by rw [takeP, hin]; rfl] at t1
    dsimp only at t1
    refine (t1 _).calls ?_
    conv => whnf
    refine ⟨fun h2 => ?_, fun h2 => absurd h2 (by decide)⟩
    conv => whnf
    refine ⟨fun _ => eqNote, ?_⟩
    conv => whnf
    refine ⟨_, fun _ => awake37_c _, ?_⟩
    conv => whnf
    refine ⟨_, _, told_low2 rfl, B_eq ?_, rfl⟩
    have hin2 : (decide (i < 0) || decide (i ≥ (l.length : Int))) = true := by
      simp only [Bool.and_eq_false_iff, decide_eq_false_iff_not, Bool.or_eq_true, decide_eq_true_eq] at hin ⊢
      omega
    rw [hin2]
    rfl
  | true =>
    rw [show takeP l i = (l.getD i.toNat .zero, l.eraseIdx i.toNat, 0) by rw [takeP, hin]; rfl] at t1
    dsimp only at t1
    refine (t1 _).calls ?_
    conv => whnf
    refine ⟨fun h2 => absurd h2 Bool.false_ne_true, fun h2 => ?_⟩
    conv => whnf
    refine ⟨by kernel_rfl, ?_⟩
    have hin2 := hin
    simp only [Bool.and_eq_true, decide_eq_true_eq] at hin2
    have hle : (l.eraseIdx i.toNat).length = l.length - 1 := by rw [List.length_eraseIdx, if_pos (by omega)]
    have hw : IntKind.i64.wrap ((l.length : Int) - 1) = ((l.length - 1 : Nat) : Int) := by rw [wr (by omega)]; omega
    conv => whnf
    refine ⟨fun _ => decide_eq_true ⟨hin2.1, hin2.2⟩, ?_⟩
    conv => whnf
    refine ⟨fun _ => eqNote, ?_⟩
    conv => whnf
    refine ⟨fun h3 => ?_, fun h3 => ?_⟩
    · exfalso
      revert h3
      simp [hle, hw]
      omega
    conv => whnf
    refine ⟨fun m s o => ∃ j, j ≤ l.length - 1 ∧ m = l.length - 1 - j ∧ s = [(8, I j), (6, notes (l.eraseIdx i.toNat)), (4, Bo false), (0, notes l), (1, I i)] ∧ o = [], l.length - 1, _, _, weaker_drop (.cons _ _ _ rfl (low2_sound rfl) (.cons _ _ _ rfl (notes_low _ _) (.cons _ _ _ rfl (low2_sound rfl) (.cons _ _ _ rfl (notes_low _ _) (.cons _ _ _ rfl (low2_sound rfl) .nil))))), ⟨0, Nat.zero_le _, rfl, rfl, rfl⟩, ?_⟩
    rintro m s o ⟨j, hj, rfl, rfl, rfl⟩
    conv => whnf
    refine ⟨fun h4 => ?_, fun h4 => ?_⟩
    · have hj' := of_decide_eq_true h4
      rw [hle] at hj'
      have hg := eraseIdx_getD l i.toNat j (by omega) (by omega)
      conv => whnf
      refine ⟨fun h5 => ?_, fun h5 => ?_⟩
      · have h5' := of_decide_eq_true h5
        rw [if_pos (by omega)] at hg
        have hw : IntKind.i64.wrap ((j : Int) + 1) = ((j + 1 : Nat) : Int) := by rw [wr (by omega)]; omega
        conv => whnf
        rw [hw]
        refine ⟨by kernel_rfl, ?_⟩
        conv => whnf
        refine ⟨fun _ => idx_ok (by omega), ?_⟩
        conv => whnf
        refine ⟨fun _ => idx_ok (by omega), ?_⟩
        conv => whnf
        refine ⟨fun _ => eqNote, ?_⟩
        conv => whnf
        refine ⟨fun h6 => ?_, fun h6 => ?_⟩
        · have h6' : (!Note.eqb ((l.eraseIdx i.toNat).getD j .zero) (l.getD (j + 1) .zero)) = true := h6
          rw [hg, (Note.eqb_iff _ _).2 rfl] at h6'
          cases h6'
        · conv => whnf
          exact ⟨l.length - 1 - (j + 1), _, _, by omega, weaker_drop (s' := [(8, I (j + 1 : Nat)), (6, notes (l.eraseIdx i.toNat)), (4, Bo false), (0, notes l), (1, I i)]) (.cons _ _ _ (I_eq (wr (by omega))) (low2_sound rfl) (.cons _ _ _ rfl (notes_low _ _) (.cons _ _ _ rfl (low2_sound rfl) (.cons _ _ _ rfl (notes_low _ _) (.cons _ _ _ rfl (low2_sound rfl) .nil))))), j + 1, by omega, rfl, rfl, rfl⟩
      · have h5' := of_decide_eq_false h5
        rw [if_neg (by omega)] at hg
        conv => whnf
        refine ⟨by kernel_rfl, ?_⟩
        conv => whnf
        refine ⟨fun _ => idx_ok (by omega), ?_⟩
        conv => whnf
        refine ⟨fun _ => idx_ok (by omega), ?_⟩
        conv => whnf
        refine ⟨fun _ => eqNote, ?_⟩
        conv => whnf
        refine ⟨fun h6 => ?_, fun h6 => ?_⟩
        · have h6' : (!Note.eqb ((l.eraseIdx i.toNat).getD j .zero) (l.getD j .zero)) = true := h6
          rw [hg, (Note.eqb_iff _ _).2 rfl] at h6'
          cases h6'
        · conv => whnf
          exact ⟨l.length - 1 - (j + 1), _, _, by omega, weaker_drop (s' := [(8, I (j + 1 : Nat)), (6, notes (l.eraseIdx i.toNat)), (4, Bo false), (0, notes l), (1, I i)]) (.cons _ _ _ (I_eq (wr (by omega))) (low2_sound rfl) (.cons _ _ _ rfl (notes_low _ _) (.cons _ _ _ rfl (low2_sound rfl) (.cons _ _ _ rfl (notes_low _ _) (.cons _ _ _ rfl (low2_sound rfl) .nil))))), j + 1, by omega, rfl, rfl, rfl⟩
    · have hj' := of_decide_eq_false h4
      conv => whnf
      refine (awake37_c _).calls ?_
      conv => whnf
      exact ⟨_, _, told_low2 rfl, rfl, rfl⟩

end Go.Proofs.Ytlgfgcadoocgoaa
