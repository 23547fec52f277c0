/-
  The law NetCounts, as a contract.
-/
import Derived.Test.YtlgfgcadoocgoaaNetC
import Derived.Test.YtlgfgcadoocgoaaFwU
namespace Go.Proofs.Ytlgfgcadoocgoaa
set_option linter.unusedSimpArgs false
set_option linter.unusedVariables false
open Go.Fw

set_option maxRecDepth 20000
set_option maxHeartbeats 4000000
attribute [local irreducible] ACalls

abbrev ints (l : List Int) : AVal := listA 1 (fun n => [I n]) 0 l
theorem ints_low (l : List Int) (n : Nat) : Low n (ints l) := listA_low (fun _ => rfl)

def cnt (n : Note) (l : List Note) : Nat := l.countP (·.eqb n)

theorem often_cnt (n : Note) (l : List Note) (b : Int) : l.foldl (oftenStep n) b = b + cnt n l := by
  induction l generalizing b with
  | nil => simp [cnt]
  | cons x l ih =>
    rw [List.foldl_cons, ih]
    simp only [cnt, List.countP_cons, oftenStep]
    cases x.eqb n <;> simp <;> omega

theorem oftenP_cnt (l : List Note) (n : Note) : oftenP l n = cnt n l := by unfold oftenP; rw [often_cnt]; simp

theorem cnt_le (n : Note) (l : List Note) : cnt n l ≤ l.length := List.countP_le_length

theorem cnt_erase (n : Note) (l : List Note) (i : Nat) (h : i < l.length) : cnt n l = cnt n (l.eraseIdx i) + (if (l.getD i .zero).eqb n then 1 else 0) := by
  have e : l = l.take i ++ l[i] :: l.drop (i + 1) := by rw [List.getElem_cons_drop, List.take_append_drop]
  have g : l.getD i .zero = l[i] := by simp [List.getD, List.getElem?_eq_getElem h]
  rw [List.eraseIdx_eq_take_drop_succ, g]
  conv => lhs; rw [e]
  simp only [cnt, List.countP_append, List.countP_cons]
  omega

theorem cnt_snoc (n : Note) (l : List Note) (x : Note) : cnt n (l ++ [x]) = cnt n l + (if x.eqb n then 1 else 0) := by
  simp [cnt, List.countP_append, List.countP_cons]

theorem send_filter (more : List Note) (out : List Note) (h : out.length + more.length ≤ 300) : more.foldl sendStep out = out ++ more.filter (fun x => noteC x == 0) := by
  induction more generalizing out with
  | nil => simp
  | cons x l ih =>
    simp only [List.length_cons] at h
    rw [List.foldl_cons, List.filter_cons]
    have hd : decide ((out.length : Int) < 300) = true := by simp; omega
    cases hc : (noteC x == 0) with
    | true =>
      rw [sendStep_t (by rw [hd, hc]; rfl), ih _ (by simp; omega)]
      simp
    | false =>
      rw [sendStep_f (by rw [hc]; simp), ih _ (by omega)]
      simp

theorem cnt_filter (n : Note) (l : List Note) : cnt n (l.filter fun x => noteC x == 0) = bif noteC n == 0 then cnt n l else 0 := by
  simp only [cnt, List.countP_filter]
  cases h : noteC n == 0 with
  | true =>
    simp only [cond_true]
    congr 1
    funext x
    cases hx : x.eqb n with
    | false => rfl
    | true => rw [(Note.eqb_iff _ _).1 hx, h]; rfl
  | false =>
    simp only [cond_false, List.countP_eq_zero]
    intro x _ hx
    simp only [Bool.and_eq_true] at hx
    rw [(Note.eqb_iff _ _).1 hx.1, h] at hx
    exact Bool.false_ne_true hx.2

theorem take_ok {l : List Note} {i : Int} (h : ((takeP l i).2.2 == 0) = true) : 0 ≤ i ∧ i < l.length ∧ takeP l i = (l.getD i.toNat .zero, l.eraseIdx i.toNat, 0) := by
  cases hc : decide (i ≥ 0) && decide (i < l.length) with
  | false => simp [takeP, hc] at h
  | true =>
    have h2 := hc
    simp only [Bool.and_eq_true, decide_eq_true_eq] at h2
    exact ⟨h2.1, h2.2, by rw [takeP, hc]; rfl⟩

theorem double_ok {l : List Note} {i : Int} (h : ((doubleP l i).2 == 0) = true) : l.length < 300 ∧ doubleP l i = (l ++ [l.getD i.toNat .zero], 0) := by
  cases hc : !(decide (i ≥ 0) && decide (i < l.length)) with
  | true => simp only [doubleP, hc, cond_true] at h; exact absurd h (by decide)
  | false =>
    cases hd : decide ((l.length : Int) ≥ 300) with
    | true => simp only [doubleP, hc, hd, cond_true, cond_false] at h; exact absurd h (by decide)
    | false => exact ⟨by simp at hd; omega, by simp only [doubleP, hc, hd, cond_false]⟩

theorem netCounts_c (more : List Note) (acts : List Int) (n : Note) : ∀ objs, AGives Try.prog 4 [notes more, ints acts, n.a] objs (Bo true) := by
  refine AGives.any' (.cons (notes_low _ _) (.cons (ints_low _ _) (.cons (low2_sound rfl) .nil))) (low2_sound rfl) (ACalls.of_cwp (fun t => !(Nat.beq t 1000007) && (Nat.ble 1000000 t || (true))) Try.func4 rfl rfl ?_)
  conv => whnf
  repeat' (first
    | (refine And.intro (fun _ => ?_) (fun h => Bool.noConfusion h); conv => whnf)
    | (refine And.intro (fun h => Bool.noConfusion h) (fun _ => ?_); conv => whnf)
    | (refine And.intro (fun h => ?_) (fun h => ?_) <;> conv => whnf)
    | (refine (awake37_c _).calls ?_; conv => whnf)
    | (refine ⟨_, fun _ => awake37_c _, ?_⟩; conv => whnf)
    | (refine ⟨_, _, awake37_c _, ?_⟩; conv => whnf)
    | (refine And.intro (?_ : (_ && drawCheck _ _) = true) ?_; · kernel_rfl
       conv => whnf)
    | (refine And.intro (fun hg => decide_eq_true ?_) ?_; · ((try simp only [cond_true, cond_false, Bool.not_eq_true', Bool.not_eq_eq_eq_not, Bool.not_true, Bool.not_false, decide_eq_true_eq, decide_eq_false_iff_not, Bool.and_eq_true, Bool.or_eq_true, Bool.or_eq_false_iff] at *); omega)
       conv => whnf)
    | (refine And.intro rfl ?_; conv => whnf)
    | (refine And.intro (fun _ => rfl) ?_; conv => whnf)
    | fail)
  · exact ⟨_, _, told_low2 rfl, rfl, rfl⟩
  have hlen : more.length ≤ 100 ∧ acts.length ≤ 100 := by simp at h; omega
  refine ((send_c [] more (by simp) (by omega) _).as (.cons _ _ _ _ as_nil (.cons _ _ _ _ (.refl _) .nil))).calls ?_
  rw [show sendP [] more = more.filter (fun x => noteC x == 0) from (send_filter more [] (by simp; omega)).trans (by simp)]
  generalize hl0 : more.filter (fun x => noteC x == 0) = l0
  have hl0len : l0.length ≤ 100 := by rw [← hl0]; exact Nat.le_trans (List.length_filter_le _ _) hlen.1
  have hc0 := cnt_filter n more
  rw [hl0] at hc0
  conv => whnf
  refine join_start (fun _ : Unit => True) (fun _ => [(8, I (cnt n l0)), (7, notes l0), (6, Bo false), (5, .ptr 0 0 4 0 0), (0, notes more), (1, ints acts)]) (fun _ => [(0, .row 25 4 [n.cells])]) ?_ ?_
  · rintro _ -
    conv => whnf
    repeat' (first
      | (refine And.intro (fun _ => ?_) (fun h => Bool.noConfusion h); conv => whnf)
      | (refine And.intro (fun h => Bool.noConfusion h) (fun _ => ?_); conv => whnf)
      | (refine And.intro (fun h => ?_) (fun h => ?_) <;> conv => whnf)
      | (refine And.intro (?_ : (_ && drawCheck _ _) = true) ?_; · kernel_rfl
         conv => whnf)
      | (refine And.intro (fun hg => decide_eq_true ?_) ?_; · ((try simp only [cond_true, cond_false, Bool.not_eq_true', Bool.not_eq_eq_eq_not, Bool.not_true, Bool.not_false, decide_eq_true_eq, decide_eq_false_iff_not, Bool.and_eq_true, Bool.or_eq_true, Bool.or_eq_false_iff] at *); omega)
         conv => whnf)
      | (refine And.intro rfl ?_; conv => whnf)
      | (refine And.intro (fun _ => rfl) ?_; conv => whnf)
      | fail)
    refine loop_start (fun p : Nat × List Note => p.1 ≤ acts.length ∧ p.2.length ≤ 300) (fun p => acts.length - p.1) (fun p => [(9, I p.1), (8, I (cnt n p.2)), (7, notes p.2), (6, Bo false), (5, .ptr 0 0 4 0 0), (0, notes more), (1, ints acts)]) (fun _ => [(0, .row 25 4 [n.cells])]) (0, l0) (weaker_same ?_) ⟨Nat.zero_le _, by show l0.length ≤ 300; omega⟩ ?_
    · repeat (first | exact .nil | refine .cons _ _ _ rfl ?_ | (refine .cons _ _ _ (I_eq ?_) ?_; rotate_left))
      all_goals try exact wr (by omega)
    rintro ⟨j, l⟩ ⟨hj, hl⟩
    have tk := fun i => take_c l i (by dsimp only at hl; omega)
    have db := fun i => double_c l i (by dsimp only at hl; omega)
    have of := often_c l n (by dsimp only at hl; omega)
    dsimp only at hj hl ⊢
    conv => whnf
    repeat' (first
      | (refine And.intro (fun _ => ?_) (fun h => Bool.noConfusion h); conv => whnf)
      | (refine And.intro (fun h => Bool.noConfusion h) (fun _ => ?_); conv => whnf)
      | (refine And.intro (fun h => ?_) (fun h => ?_) <;> conv => whnf)
      | (refine (tk _ _).calls ?_; conv => whnf)
      | (refine ⟨_, fun _ => tk _ _, ?_⟩; conv => whnf)
      | (refine ⟨_, _, tk _ _, ?_⟩; conv => whnf)
      | (refine (db _ _).calls ?_; conv => whnf)
      | (refine ⟨_, fun _ => db _ _, ?_⟩; conv => whnf)
      | (refine ⟨_, _, db _ _, ?_⟩; conv => whnf)
      | (refine (of _).calls ?_; conv => whnf)
      | (refine ⟨_, fun _ => of _, ?_⟩; conv => whnf)
      | (refine ⟨_, _, of _, ?_⟩; conv => whnf)
      | (refine (awake37_c _).calls ?_; conv => whnf)
      | (refine ⟨_, fun _ => awake37_c _, ?_⟩; conv => whnf)
      | (refine ⟨_, _, awake37_c _, ?_⟩; conv => whnf)
      | (refine And.intro (?_ : (_ && drawCheck _ _) = true) ?_; · kernel_rfl
         conv => whnf)
      | (refine And.intro (fun hg => decide_eq_true ?_) ?_; · ((try simp only [cond_true, cond_false, Bool.not_eq_true', Bool.not_eq_eq_eq_not, Bool.not_true, Bool.not_false, decide_eq_true_eq, decide_eq_false_iff_not, Bool.and_eq_true, Bool.or_eq_true, Bool.or_eq_false_iff] at *); omega)
         conv => whnf)
      | (refine And.intro rfl ?_; conv => whnf)
      | (refine And.intro (fun _ => rfl) ?_; conv => whnf)
      | (refine And.intro (fun _ => eqNote) ?_; conv => whnf)
      | fail)
    · rename_i h1 h2 h3
      generalize IntKind.i64.wrap ((acts.getD (j : Int).toNat 0).tdiv 2) = i at *
      obtain ⟨q1, q2, q3⟩ := take_ok h3
      simp only [q3] at h ⊢
      have hx : (l.getD i.toNat .zero).eqb n = true := h
      have hc := cnt_erase n l i.toNat (by omega)
      have hle := cnt_le n l
      rw [if_pos hx] at hc
      have hj' := of_decide_eq_true h1
      have hel : (l.eraseIdx i.toNat).length ≤ 300 := Nat.le_trans (List.length_eraseIdx_le _ _) hl
      refine loop_next (j + 1, l.eraseIdx i.toNat) (by show acts.length - (j + 1) < _; omega) (weaker_turn0 [0] (by simp) (.cons 0 [] _ _ _ rfl (.same rfl (fun e he => by simp at he; subst he; exact LowL.of2 rfl)) .nil) ?_) ⟨by show j + 1 ≤ _; omega, hel⟩
      repeat (first | exact .nil | refine .cons _ _ _ (turn_low (by first | exact low2_sound rfl | exact notes_low _ _ | exact ints_low _ _)) ?_ | refine .cons _ _ _ (turn_ptr 0 rfl rfl) ?_ | refine .cons _ _ _ (turn_ptr 1 rfl rfl) ?_ | refine .cons _ _ _ (turn_ptr 2 rfl rfl) ?_ | (refine .cons _ _ _ (turn_eq (I_eq ?_) (low2_sound rfl)) ?_; rotate_left))
      all_goals try exact wr (by omega)
      dsimp only; rw [wr (by omega)]; omega
    · rename_i h1 h2 h3
      generalize IntKind.i64.wrap ((acts.getD (j : Int).toNat 0).tdiv 2) = i at *
      obtain ⟨q1, q2, q3⟩ := take_ok h3
      simp only [q3] at h ⊢
      have hx : (l.getD i.toNat .zero).eqb n = false := h
      have hc := cnt_erase n l i.toNat (by omega)
      have hle := cnt_le n l
      rw [if_neg (by rw [hx]; exact Bool.false_ne_true)] at hc
      have hj' := of_decide_eq_true h1
      have hel : (l.eraseIdx i.toNat).length ≤ 300 := Nat.le_trans (List.length_eraseIdx_le _ _) hl
      refine loop_next (j + 1, l.eraseIdx i.toNat) (by show acts.length - (j + 1) < _; omega) (weaker_turn0 [0] (by simp) (.cons 0 [] _ _ _ rfl (.same rfl (fun e he => by simp at he; subst he; exact LowL.of2 rfl)) .nil) ?_) ⟨by show j + 1 ≤ _; omega, hel⟩
      repeat (first | exact .nil | refine .cons _ _ _ (turn_low (by first | exact low2_sound rfl | exact notes_low _ _ | exact ints_low _ _)) ?_ | refine .cons _ _ _ (turn_ptr 0 rfl rfl) ?_ | refine .cons _ _ _ (turn_ptr 1 rfl rfl) ?_ | refine .cons _ _ _ (turn_ptr 2 rfl rfl) ?_ | (refine .cons _ _ _ (turn_eq (I_eq ?_) (low2_sound rfl)) ?_; rotate_left))
      all_goals try exact wr (by omega)
      dsimp only; omega
    · have hj' := of_decide_eq_true (by assumption : decide ((j : Int) < acts.length) = true)
      refine loop_next (j + 1, l) (by show acts.length - (j + 1) < _; omega) (weaker_turn0 [0] (by simp) (.cons 0 [] _ _ _ rfl (.same rfl (fun e he => by simp at he; subst he; exact LowL.of2 rfl)) .nil) ?_) ⟨by show j + 1 ≤ _; omega, hl⟩
      repeat (first | exact .nil | refine .cons _ _ _ (turn_low (by first | exact low2_sound rfl | exact notes_low _ _ | exact ints_low _ _)) ?_ | refine .cons _ _ _ (turn_ptr 0 rfl rfl) ?_ | refine .cons _ _ _ (turn_ptr 1 rfl rfl) ?_ | refine .cons _ _ _ (turn_ptr 2 rfl rfl) ?_ | (refine .cons _ _ _ (turn_eq (I_eq ?_) (low2_sound rfl)) ?_; rotate_left))
      all_goals try exact wr (by omega)
    · rename_i h1 h2
      generalize IntKind.i64.wrap ((acts.getD (j : Int).toNat 0).tdiv 2) = i at *
      simp only [Bool.and_eq_true] at h
      obtain ⟨q1, q2⟩ := double_ok h.1
      simp only [q2] at h ⊢
      have hj' := of_decide_eq_true h1
      have hlen1 : (l ++ [l.getD i.toNat .zero]).length = l.length + 1 := by simp
      have hw : IntKind.i64.wrap (((l ++ [l.getD i.toNat .zero]).length : Int) - 1) = l.length := by rw [hlen1, wr (by omega)]; omega
      rw [hw]
      have hlast : (l ++ [l.getD i.toNat .zero]).getD ((l.length : Int)).toNat .zero = l.getD i.toNat .zero := by simp [List.getD]
      have hc := cnt_snoc n l (l.getD i.toNat .zero)
      have hle := cnt_le n l
      refine And.intro (fun _ => decide_eq_true (by rw [hlen1]; omega)) ?_
      conv => whnf
      repeat' (first
        | (refine And.intro (fun _ => ?_) (fun h => Bool.noConfusion h); conv => whnf)
        | (refine And.intro (fun h => Bool.noConfusion h) (fun _ => ?_); conv => whnf)
        | (refine And.intro (fun h => ?_) (fun h => ?_) <;> conv => whnf)
        | (refine And.intro (?_ : (_ && drawCheck _ _) = true) ?_; · kernel_rfl
           conv => whnf)
        | (refine And.intro (fun hg => decide_eq_true ?_) ?_; · ((try simp only [cond_true, cond_false, Bool.not_eq_true', Bool.not_eq_eq_eq_not, Bool.not_true, Bool.not_false, decide_eq_true_eq, decide_eq_false_iff_not, Bool.and_eq_true, Bool.or_eq_true, Bool.or_eq_false_iff] at *); omega)
           conv => whnf)
        | (refine And.intro rfl ?_; conv => whnf)
        | (refine And.intro (fun _ => rfl) ?_; conv => whnf)
        | (refine And.intro (fun _ => eqNote) ?_; conv => whnf)
        | fail)
      · have hx : (l.getD i.toNat .zero).eqb n = true := by rw [← hlast]; exact h
        rw [if_pos hx] at hc
        refine loop_next (j + 1, l ++ [l.getD i.toNat .zero]) (by show acts.length - (j + 1) < _; omega) (weaker_turn0 [0] (by simp) (.cons 0 [] _ _ _ rfl (.same rfl (fun e he => by simp at he; subst he; exact LowL.of2 rfl)) .nil) ?_) ⟨by show j + 1 ≤ _; omega, by show (l ++ _).length ≤ 300; omega⟩
        repeat (first | exact .nil | refine .cons _ _ _ (turn_low (by first | exact low2_sound rfl | exact notes_low _ _ | exact ints_low _ _)) ?_ | refine .cons _ _ _ (turn_ptr 0 rfl rfl) ?_ | refine .cons _ _ _ (turn_ptr 1 rfl rfl) ?_ | refine .cons _ _ _ (turn_ptr 2 rfl rfl) ?_ | (refine .cons _ _ _ (turn_eq (I_eq ?_) (low2_sound rfl)) ?_; rotate_left))
        all_goals try exact wr (by omega)
        dsimp only; rw [wr (by omega)]; omega
      · have hx : (l.getD i.toNat .zero).eqb n = false := by rw [← hlast]; exact h
        rw [if_neg (by rw [hx]; exact Bool.false_ne_true)] at hc
        refine loop_next (j + 1, l ++ [l.getD i.toNat .zero]) (by show acts.length - (j + 1) < _; omega) (weaker_turn0 [0] (by simp) (.cons 0 [] _ _ _ rfl (.same rfl (fun e he => by simp at he; subst he; exact LowL.of2 rfl)) .nil) ?_) ⟨by show j + 1 ≤ _; omega, by show (l ++ _).length ≤ 300; omega⟩
        repeat (first | exact .nil | refine .cons _ _ _ (turn_low (by first | exact low2_sound rfl | exact notes_low _ _ | exact ints_low _ _)) ?_ | refine .cons _ _ _ (turn_ptr 0 rfl rfl) ?_ | refine .cons _ _ _ (turn_ptr 1 rfl rfl) ?_ | refine .cons _ _ _ (turn_ptr 2 rfl rfl) ?_ | (refine .cons _ _ _ (turn_eq (I_eq ?_) (low2_sound rfl)) ?_; rotate_left))
        all_goals try exact wr (by omega)
        dsimp only; omega
    · have hj' := of_decide_eq_true (by assumption : decide ((j : Int) < acts.length) = true)
      refine loop_next (j + 1, l) (by show acts.length - (j + 1) < _; omega) (weaker_turn0 [0] (by simp) (.cons 0 [] _ _ _ rfl (.same rfl (fun e he => by simp at he; subst he; exact LowL.of2 rfl)) .nil) ?_) ⟨by show j + 1 ≤ _; omega, hl⟩
      repeat (first | exact .nil | refine .cons _ _ _ (turn_low (by first | exact low2_sound rfl | exact notes_low _ _ | exact ints_low _ _)) ?_ | refine .cons _ _ _ (turn_ptr 0 rfl rfl) ?_ | refine .cons _ _ _ (turn_ptr 1 rfl rfl) ?_ | refine .cons _ _ _ (turn_ptr 2 rfl rfl) ?_ | (refine .cons _ _ _ (turn_eq (I_eq ?_) (low2_sound rfl)) ?_; rotate_left))
      all_goals try exact wr (by omega)
    · refine ⟨_, _, told_low2 rfl, B_eq ?_, rfl⟩
      rw [oftenP_cnt]
      simp
  · conv => whnf
    repeat' (first
      | (refine And.intro (fun _ => ?_) (fun h => Bool.noConfusion h); conv => whnf)
      | (refine And.intro (fun h => Bool.noConfusion h) (fun _ => ?_); conv => whnf)
      | (refine And.intro (fun h => ?_) (fun h => ?_) <;> conv => whnf)
      | (refine (check_c n.k n.n n.j n.e _).calls ?_; conv => whnf)
      | (refine ⟨_, fun _ => check_c n.k n.n n.j n.e _, ?_⟩; conv => whnf)
      | (refine ⟨_, _, check_c n.k n.n n.j n.e _, ?_⟩; conv => whnf)
      | (refine (often_c more n (by omega) _).calls ?_; conv => whnf)
      | (refine ⟨_, fun _ => often_c more n (by omega) _, ?_⟩; conv => whnf)
      | (refine ⟨_, _, often_c more n (by omega) _, ?_⟩; conv => whnf)
      | (refine And.intro (?_ : (_ && drawCheck _ _) = true) ?_; · kernel_rfl
         conv => whnf)
      | (refine And.intro (fun hg => decide_eq_true ?_) ?_; · ((try simp only [cond_true, cond_false, Bool.not_eq_true', Bool.not_eq_eq_eq_not, Bool.not_true, Bool.not_false, decide_eq_true_eq, decide_eq_false_iff_not, Bool.and_eq_true, Bool.or_eq_true, Bool.or_eq_false_iff] at *); omega)
         conv => whnf)
      | (refine And.intro rfl ?_; conv => whnf)
      | (refine And.intro (fun _ => rfl) ?_; conv => whnf)
      | fail)
    all_goals
      refine join_here () (weaker_same ?_) trivial
      repeat (first | exact .nil | refine .cons _ _ _ rfl ?_ | (refine .cons _ _ _ (I_eq ?_) ?_; rotate_left))
      change (noteC n == 0) = _ at h
      rw [h] at hc0
      rw [hc0]
      simp [oftenP_cnt]

end Go.Proofs.Ytlgfgcadoocgoaa
