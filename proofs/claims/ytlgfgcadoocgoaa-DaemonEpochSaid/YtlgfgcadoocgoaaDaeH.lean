/-
  The law DaemonEpoch as a contract.
-/
import Derived.Test.YtlgfgcadoocgoaaDaeE
import Derived.Test.YtlgfgcadoocgoaaFwU
namespace Go.Proofs.Ytlgfgcadoocgoaa
set_option linter.unusedSimpArgs false
set_option linter.unusedVariables false
open Go.Fw

set_option maxRecDepth 20000
set_option maxHeartbeats 4000000
attribute [local irreducible] ACalls

abbrev ints (l : List Int) : AVal := listA 1 (fun n => [I n]) 0 l
theorem ints_low (l : List Int) (n : Nat) : Low n (ints l) := listA_low (fun _ => rfl)

/-- A note that a daemon of a node may say. -/
def SaidOK (node : Int) (x : Note) : Prop := noteC x = 0 ∧ downB x.k = false ∧ x.n = node

theorem dmnE_zero {d : Daemon} : dmnE d = 0 ↔ dmnOK d = true := by
  unfold dmnE
  cases dmnOK d <;> simp

theorem noteC_zero {x : Note} : noteC x = 0 ↔ noteBad x.k x.n x.j x.e = false := by
  unfold noteC noteE
  cases noteBad x.k x.n x.j x.e <;> simp

structure Good (d k : Daemon) (top : Int) (said : List Note) : Prop where
  ok : dmnE k = 0
  node : k.node = d.node
  lo : d.epoch ≤ k.epoch
  hi : k.epoch ≤ top
  says : ∀ x ∈ said, SaidOK d.node x

theorem hear_good (d : Daemon) (n : Note) (h : dmnE d = 0) : Good d (hearD d n).1 (max d.epoch n.e) (hearD d n).2 := by
  have h0 : (dmnE d != 0) = false := by rw [h]; rfl
  rw [dmnE_zero] at h
  obtain ⟨a1, a2, a3, a4, a5, a6, a7, a8⟩ := d
  obtain ⟨k1, k2, k3, k4⟩ := n
  simp only [hearD, h0, cond_false]
  cases hh : heedsB ⟨a1, a2, a3, a4, a5, a6, a7, a8⟩ ⟨k1, k2, k3, k4⟩ with
  | false =>
    simp only [Bool.not_false, cond_true]
    exact ⟨by rw [dmnE_zero]; exact h, rfl, Int.le_refl _, by dsimp only; omega, fun x hx => by simp at hx⟩
  | true =>
    simp only [heedsB, Bool.and_eq_true, decide_eq_true_eq, beq_iff_eq] at hh
    obtain ⟨⟨⟨⟨hn, hd⟩, hnode⟩, hup⟩, he⟩ := hh
    rw [noteC_zero] at hn
    clear h0
    simp only [dmnOK, dmnBad, dmnFit, dmnHeld, Bool.cond_eq_ite] at h
    simp only [noteBad, knownB, Bool.cond_eq_ite] at hn
    simp only [downB] at hd
    have key : ∀ (p : Daemon × List Note), dmnOK p.1 = true → p.1.node = a1 → a4 ≤ p.1.epoch → p.1.epoch ≤ max a4 k4 → (∀ x ∈ p.2, SaidOK a1 x) → Good ⟨a1, a2, a3, a4, a5, a6, a7, a8⟩ p.1 (max a4 k4) p.2 :=
      fun p q1 q2 q3 q4 q5 => ⟨dmnE_zero.2 q1, q2, q3, q4, q5⟩
    simp only [Bool.not_true, cond_false, shrinkD, laterB, ownB, servesB, Daemon.idle, Daemon.bound, Note.as, Bool.cond_eq_ite]
    repeat' split
    all_goals try contradiction
    all_goals
      refine key _ ?_ ?_ ?_ ?_ ?_
      · simp only [dmnOK, dmnBad, dmnFit, dmnHeld, Bool.cond_eq_ite]
        grind
      · rfl
      · first | exact Int.le_refl _ | exact he
      · dsimp only; omega
      · intro x hx
        simp only [List.mem_singleton] at hx
        subst hx
        refine ⟨?_, ?_, ?_⟩
        · rw [noteC_zero]
          simp only [noteBad, knownB, Bool.cond_eq_ite]
          grind
        · rfl
        · exact hnode

theorem Good.fall {d k : Daemon} {top : Int} {said : List Note} (h : Good d k top said) : Good d (fallD k) top said := by
  obtain ⟨h1, h2, h3, h4, h5⟩ := h
  have h0 : (dmnE k != 0) = false := by rw [h1]; rfl
  unfold fallD
  rw [h0]
  refine ⟨?_, h2, h3, h4, h5⟩
  rw [dmnE_zero] at h1 ⊢
  obtain ⟨a1, a2, a3, a4, a5, a6, a7, a8⟩ := k
  simp only [dmnOK, dmnBad, dmnFit, dmnHeld, Bool.cond_eq_ite, cond_false, Daemon.idle] at h1 ⊢
  grind

theorem Good.rise {d k : Daemon} {top : Int} {said : List Note} (h : Good d k top said) : Good d (riseD k) top said := by
  obtain ⟨h1, h2, h3, h4, h5⟩ := h
  have h0 : (dmnE k != 0) = false := by rw [h1]; rfl
  unfold riseD
  rw [h0]
  refine ⟨?_, h2, h3, h4, h5⟩
  rw [dmnE_zero] at h1 ⊢
  obtain ⟨a1, a2, a3, a4, a5, a6, a7, a8⟩ := k
  simp only [dmnOK, dmnBad, dmnFit, dmnHeld, Bool.cond_eq_ite, cond_false] at h1 ⊢
  grind

theorem Good.sulk {d k : Daemon} {top : Int} {said : List Note} (b : Bool) (h : Good d k top said) : Good d (sulkD k b) top said := by
  obtain ⟨h1, h2, h3, h4, h5⟩ := h
  have h0 : (dmnE k != 0) = false := by rw [h1]; rfl
  unfold sulkD
  rw [h0]
  refine ⟨?_, h2, h3, h4, h5⟩
  rw [dmnE_zero] at h1 ⊢
  obtain ⟨a1, a2, a3, a4, a5, a6, a7, a8⟩ := k
  simp only [dmnOK, dmnBad, dmnFit, dmnHeld, Bool.cond_eq_ite, cond_false] at h1 ⊢
  grind

theorem Good.finish {d k : Daemon} {top : Int} {said : List Note} (now : Int) (h : Good d k top said) (he : ((finishD k true now).2.2 == 0) = true) : Good d (finishD k true now).1 top (said ++ (finishD k true now).2.1) := by
  obtain ⟨h1, h2, h3, h4, h5⟩ := h
  have h0 : (dmnE k != 0) = false := by rw [h1]; rfl
  have ht : 0 ≤ tickI now ∧ tickI now ≤ 1000000 := by unfold tickI; omega
  cases hm : (k.mode != 2 || k.ended != 0) with
  | true => simp [finishD, h0, hm] at he
  | false =>
    simp only [finishD, h0, hm, cond_false, cond_true]
    rw [dmnE_zero] at h1
    obtain ⟨a1, a2, a3, a4, a5, a6, a7, a8⟩ := k
    simp only [dmnOK, dmnBad, dmnFit, dmnHeld, Bool.cond_eq_ite] at h1
    refine ⟨?_, h2, h3, h4, fun x hx => ?_⟩
    · rw [dmnE_zero]
      simp only [dmnOK, dmnBad, dmnFit, dmnHeld, Bool.cond_eq_ite]
      grind
    · rcases List.mem_append.1 hx with hx | hx
      · exact h5 x hx
      · simp only [List.mem_singleton, Daemon.told] at hx
        subst hx
        refine ⟨?_, rfl, h2⟩
        rw [noteC_zero]
        simp only [noteBad, knownB, Bool.cond_eq_ite]
        grind

theorem daemonEpoch_c (d : Daemon) (l : List Note) (turns : List Int) : ∀ objs, AGives Try.prog 6 [d.a, notes l, ints turns] objs (Bo true) := by
  refine AGives.any' (.cons (low2_sound rfl) (.cons (notes_low _ _) (.cons (ints_low _ _) .nil))) (low2_sound rfl) (ACalls.of_cwp (fun t => !(Nat.beq t 1000022) && (Nat.ble 1000000 t || (true))) Try.func6 rfl rfl ?_)
  conv => whnf
  repeat' (first
    | (refine And.intro (fun _ => ?_) (fun h => Bool.noConfusion h); conv => whnf)
    | (refine And.intro (fun h => Bool.noConfusion h) (fun _ => ?_); conv => whnf)
    | (refine And.intro (fun h => ?_) (fun h => ?_) <;> conv => whnf)
    | (refine (dmnCheck_c d _).calls ?_; conv => whnf)
    | (refine ⟨_, fun _ => dmnCheck_c d _, ?_⟩; conv => whnf)
    | (refine ⟨_, _, dmnCheck_c d _, ?_⟩; conv => whnf)
    | (refine And.intro (fun _ => dmnCheck_c d _) ?_; conv => whnf)
    | (refine (awake36_c _).calls ?_; conv => whnf)
    | (refine ⟨_, fun _ => awake36_c _, ?_⟩; conv => whnf)
    | (refine ⟨_, _, awake36_c _, ?_⟩; conv => whnf)
    | (refine And.intro (fun _ => awake36_c _) ?_; conv => whnf)
    | (refine And.intro (?_ : (_ && drawCheck _ _) = true) ?_; · kernel_rfl
       conv => whnf)
    | (refine And.intro (fun hg => decide_eq_true ?_) ?_; · ((try simp only [cond_true, cond_false, Bool.not_eq_true', Bool.not_eq_eq_eq_not, Bool.not_true, Bool.not_false, decide_eq_true_eq, decide_eq_false_iff_not, Bool.and_eq_true, Bool.or_eq_true, Bool.or_eq_false_iff] at *); omega)
       conv => whnf)
    | (refine And.intro rfl ?_; conv => whnf)
    | (refine And.intro (fun _ => rfl) ?_; conv => whnf)
    | fail)
  · exact ⟨_, _, told_low2 rfl, rfl, rfl⟩
  simp only [Bool.or_eq_false_iff, bne_eq_false_iff_eq, decide_eq_false_iff_not] at h
  refine loop_start (fun p : Nat × Daemon × Int => p.1 ≤ l.length ∧ dmnE p.2.1 = 0 ∧ p.2.1.epoch ≤ p.2.2) (fun p => l.length - p.1) (fun p => [(8, I p.1), (7, I p.2.2), (6, Bo false), (3, .ptr 0 0 8 0 0), (1, notes l), (2, ints turns)]) (fun p => [(0, .row 38 8 [p.2.1.cells])]) (0, d, d.epoch) (weaker_same ?_) ⟨Nat.zero_le _, h.1, Int.le_refl _⟩ ?_
  · repeat (first | exact .nil | refine .cons _ _ _ rfl ?_ | (refine .cons _ _ _ (I_eq ?_) ?_; rotate_left))
    all_goals try exact wr (by omega)
  rintro ⟨j, d, top⟩ ⟨hj, hd, ht⟩
  dsimp only at hj hd ht ⊢
  conv => whnf
  repeat' (first
    | (refine And.intro (fun _ => ?_) (fun h => Bool.noConfusion h); conv => whnf)
    | (refine And.intro (fun h => Bool.noConfusion h) (fun _ => ?_); conv => whnf)
    | (refine And.intro (fun h => ?_) (fun h => ?_) <;> conv => whnf)
    | (refine (hear_c d (l.getD (j : Int).toNat .zero) _).calls ?_; conv => whnf)
    | (refine ⟨_, fun _ => hear_c d (l.getD (j : Int).toNat .zero) _, ?_⟩; conv => whnf)
    | (refine ⟨_, _, hear_c d (l.getD (j : Int).toNat .zero) _, ?_⟩; conv => whnf)
    | (refine And.intro (fun _ => hear_c d (l.getD (j : Int).toNat .zero) _) ?_; conv => whnf)
    | (refine (awake36_c _).calls ?_; conv => whnf)
    | (refine ⟨_, fun _ => awake36_c _, ?_⟩; conv => whnf)
    | (refine ⟨_, _, awake36_c _, ?_⟩; conv => whnf)
    | (refine And.intro (fun _ => awake36_c _) ?_; conv => whnf)
    | (refine And.intro (?_ : (_ && drawCheck _ _) = true) ?_; · kernel_rfl
       conv => whnf)
    | (refine And.intro (fun hg => decide_eq_true ?_) ?_; · ((try simp only [cond_true, cond_false, Bool.not_eq_true', Bool.not_eq_eq_eq_not, Bool.not_true, Bool.not_false, decide_eq_true_eq, decide_eq_false_iff_not, Bool.and_eq_true, Bool.or_eq_true, Bool.or_eq_false_iff] at *); omega)
       conv => whnf)
    | (refine And.intro rfl ?_; conv => whnf)
    | (refine And.intro (fun _ => rfl) ?_; conv => whnf)
    | fail)
  · generalize hn : l.getD (j : Int).toNat .zero = n
    have hg := hear_good d n hd
    have hg' : Good d (hearD d n).1 (max top n.e) (hearD d n).2 := ⟨hg.ok, hg.node, hg.lo, by have := hg.hi; omega, hg.says⟩
    have hjl := of_decide_eq_true h
    refine join_start (fun p : Daemon × List Note => Good d p.1 (max top n.e) p.2 ∧ p.2.length < 1000) (fun p => [(3, .ptr 0 0 8 0 0), (6, Bo false), (7, I (max top n.e)), (8, I j), (9, .ptr 1 0 8 0 0), (10, notes p.2), (1, notes l), (2, ints turns)]) (fun p => [(0, .row 38 8 [d.cells]), (0, .row 38 8 [p.1.cells])]) ?_ ?_
    · rintro ⟨k, said⟩ ⟨hgk, hlen⟩
      dsimp only at hgk hlen ⊢
      have ck := dmnCheck_c k
      rw [hgk.ok] at ck
      conv => whnf
      repeat' (first
        | (refine And.intro (fun _ => ?_) (fun h => Bool.noConfusion h); conv => whnf)
        | (refine And.intro (fun h => Bool.noConfusion h) (fun _ => ?_); conv => whnf)
        | (refine And.intro (fun h => ?_) (fun h => ?_) <;> conv => whnf)
        | (refine (ck _).calls ?_; conv => whnf)
        | (refine ⟨_, fun _ => ck _, ?_⟩; conv => whnf)
        | (refine ⟨_, _, ck _, ?_⟩; conv => whnf)
        | (refine And.intro (fun _ => ck _) ?_; conv => whnf)
        | (refine And.intro (?_ : (_ && drawCheck _ _) = true) ?_; · kernel_rfl
           conv => whnf)
        | (refine And.intro (fun hg => decide_eq_true ?_) ?_; · ((try simp only [cond_true, cond_false, Bool.not_eq_true', Bool.not_eq_eq_eq_not, Bool.not_true, Bool.not_false, decide_eq_true_eq, decide_eq_false_iff_not, Bool.and_eq_true, Bool.or_eq_true, Bool.or_eq_false_iff] at *); omega)
           conv => whnf)
        | (refine And.intro rfl ?_; conv => whnf)
        | (refine And.intro (fun _ => rfl) ?_; conv => whnf)
        | fail)
      · exfalso
        have h1 := hgk.node
        have h2 := hgk.lo
        have h3 := hgk.hi
        simp only [Bool.or_eq_true, bne_iff_ne, decide_eq_true_eq] at h
        omega
      refine loop_start (fun q : Nat => q ≤ said.length) (fun q => said.length - q) (fun q => [(14, I q), (3, .ptr 0 0 8 0 0), (6, Bo false), (7, I (max top n.e)), (8, I j), (9, .ptr 1 0 8 0 0), (10, notes said), (1, notes l), (2, ints turns)]) (fun _ => [(0, .row 38 8 [d.cells]), (0, .row 38 8 [k.cells])]) 0 (weaker_same ?_) (Nat.zero_le _) ?_
      · repeat (first | exact .nil | refine .cons _ _ _ rfl ?_ | (refine .cons _ _ _ (I_eq ?_) ?_; rotate_left))
        all_goals try exact wr (by omega)
      intro q hq
      have hs : ∀ x, x = said.getD (q : Int).toNat .zero → q < said.length → SaidOK d.node x := fun x hx hlt => by
        refine hgk.says x ?_
        rw [hx]
        simp [List.getD, List.getElem?_eq_getElem hlt]
      conv => whnf
      repeat' (first
        | (refine And.intro (fun _ => ?_) (fun h => Bool.noConfusion h); conv => whnf)
        | (refine And.intro (fun h => Bool.noConfusion h) (fun _ => ?_); conv => whnf)
        | (refine And.intro (fun h => ?_) (fun h => ?_) <;> conv => whnf)
        | (refine (check_c _ _ _ _ _).calls ?_; conv => whnf)
        | (refine ⟨_, fun _ => check_c _ _ _ _ _, ?_⟩; conv => whnf)
        | (refine ⟨_, _, check_c _ _ _ _ _, ?_⟩; conv => whnf)
        | (refine And.intro (fun _ => check_c _ _ _ _ _) ?_; conv => whnf)
        | (refine (down_c _ _).calls ?_; conv => whnf)
        | (refine ⟨_, fun _ => down_c _ _, ?_⟩; conv => whnf)
        | (refine ⟨_, _, down_c _ _, ?_⟩; conv => whnf)
        | (refine And.intro (fun _ => down_c _ _) ?_; conv => whnf)
        | (refine And.intro (?_ : (_ && drawCheck _ _) = true) ?_; · kernel_rfl
           conv => whnf)
        | (refine And.intro (fun hg => decide_eq_true ?_) ?_; · ((try simp only [cond_true, cond_false, Bool.not_eq_true', Bool.not_eq_eq_eq_not, Bool.not_true, Bool.not_false, decide_eq_true_eq, decide_eq_false_iff_not, Bool.and_eq_true, Bool.or_eq_true, Bool.or_eq_false_iff] at *); omega)
           conv => whnf)
        | (refine And.intro rfl ?_; conv => whnf)
        | (refine And.intro (fun _ => rfl) ?_; conv => whnf)
        | fail)
      · exfalso
        rename_i hq'
        obtain ⟨c1, c2, c3⟩ := hs _ rfl (by simp only [decide_eq_true_eq] at hq'; omega)
        rw [noteC] at c1
        rw [c1, c2, c3] at h
        simp at h
      · rename_i hq'
        simp only [decide_eq_true_eq] at hq'
        refine loop_next (q + 1) (by omega) (weaker_same ?_) (by omega)
        repeat (first | exact .nil | refine .cons _ _ _ rfl ?_ | (refine .cons _ _ _ (I_eq ?_) ?_; rotate_left))
        all_goals try exact wr (by omega)
      · refine loop_next (j + 1, k, max top n.e) (by show l.length - (j + 1) < _; omega) (weaker_turn0 [0] (by simp) (.cons 0 [] _ _ _ rfl (.same rfl (fun e he => by simp at he; subst he; exact LowL.of2 rfl)) .nil) ?_) ⟨by show j + 1 ≤ _; omega, hgk.ok, hgk.hi⟩
        repeat (first | exact .nil | refine .cons _ _ _ (turn_low (by first | exact low2_sound rfl | exact notes_low _ _ | exact ints_low _ _)) ?_ | refine .cons _ _ _ (turn_ptr 0 rfl rfl) ?_ | refine .cons _ _ _ (turn_ptr 1 rfl rfl) ?_ | refine .cons _ _ _ (turn_ptr 2 rfl rfl) ?_ | (refine .cons _ _ _ (turn_eq (I_eq ?_) (low2_sound rfl)) ?_; rotate_left))
        all_goals try exact wr (by omega)
    · have hl2 : (hearD d n).2.length ≤ 1 := by
        unfold hearD shrinkD
        simp only [Bool.cond_eq_ite]
        repeat' split
        all_goals simp
      conv => whnf
      repeat' (first
        | (refine And.intro (fun _ => ?_) (fun h => Bool.noConfusion h); conv => whnf)
        | (refine And.intro (fun h => Bool.noConfusion h) (fun _ => ?_); conv => whnf)
        | (refine And.intro (fun h => ?_) (fun h => ?_) <;> conv => whnf)
        | (refine (fall_c (hearD d n).1 _).calls ?_; conv => whnf)
        | (refine ⟨_, fun _ => fall_c (hearD d n).1 _, ?_⟩; conv => whnf)
        | (refine ⟨_, _, fall_c (hearD d n).1 _, ?_⟩; conv => whnf)
        | (refine And.intro (fun _ => fall_c (hearD d n).1 _) ?_; conv => whnf)
        | (refine (rise_c (hearD d n).1 _).calls ?_; conv => whnf)
        | (refine ⟨_, fun _ => rise_c (hearD d n).1 _, ?_⟩; conv => whnf)
        | (refine ⟨_, _, rise_c (hearD d n).1 _, ?_⟩; conv => whnf)
        | (refine And.intro (fun _ => rise_c (hearD d n).1 _) ?_; conv => whnf)
        | (refine (sulk_c (hearD d n).1 _ _).calls ?_; conv => whnf)
        | (refine ⟨_, fun _ => sulk_c (hearD d n).1 _ _, ?_⟩; conv => whnf)
        | (refine ⟨_, _, sulk_c (hearD d n).1 _ _, ?_⟩; conv => whnf)
        | (refine And.intro (fun _ => sulk_c (hearD d n).1 _ _) ?_; conv => whnf)
        | (refine (finish_c (hearD d n).1 true j _).calls ?_; conv => whnf)
        | (refine ⟨_, fun _ => finish_c (hearD d n).1 true j _, ?_⟩; conv => whnf)
        | (refine ⟨_, _, finish_c (hearD d n).1 true j _, ?_⟩; conv => whnf)
        | (refine And.intro (fun _ => finish_c (hearD d n).1 true j _) ?_; conv => whnf)
        | (refine And.intro (?_ : (_ && drawCheck _ _) = true) ?_; · kernel_rfl
           conv => whnf)
        | (refine And.intro (fun hg => decide_eq_true ?_) ?_; · ((try simp only [cond_true, cond_false, Bool.not_eq_true', Bool.not_eq_eq_eq_not, Bool.not_true, Bool.not_false, decide_eq_true_eq, decide_eq_false_iff_not, Bool.and_eq_true, Bool.or_eq_true, Bool.or_eq_false_iff] at *); omega)
           conv => whnf)
        | (refine And.intro rfl ?_; conv => whnf)
        | (refine And.intro (fun _ => rfl) ?_; conv => whnf)
        | fail)
      · refine join_here (fallD (hearD d n).1, (hearD d n).2) (weaker_turn0 [0, 1] (by decide) (.cons 0 [1] _ _ _ rfl (.same rfl (fun e he => by simp at he; subst he; exact LowL.of2 rfl)) (.cons 1 [] _ _ _ rfl (.same rfl (fun e he => by simp at he; subst he; exact LowL.of2 rfl)) .nil)) ?_) ⟨hg'.fall, by show ((hearD d n).2).length < 1000; omega⟩
        repeat (first | exact .nil | refine .cons _ _ _ (turn_low (by first | exact low2_sound rfl | exact notes_low _ _ | exact ints_low _ _)) ?_ | refine .cons _ _ _ (turn_ptr 0 rfl rfl) ?_ | refine .cons _ _ _ (turn_ptr 1 rfl rfl) ?_ | refine .cons _ _ _ (turn_ptr 2 rfl rfl) ?_ | (refine .cons _ _ _ (turn_eq (I_eq ?_) (low2_sound rfl)) ?_; rotate_left))
        all_goals try exact wr (by omega)
      · refine join_here (riseD (hearD d n).1, (hearD d n).2) (weaker_turn0 [0, 1] (by decide) (.cons 0 [1] _ _ _ rfl (.same rfl (fun e he => by simp at he; subst he; exact LowL.of2 rfl)) (.cons 1 [] _ _ _ rfl (.same rfl (fun e he => by simp at he; subst he; exact LowL.of2 rfl)) .nil)) ?_) ⟨hg'.rise, by show ((hearD d n).2).length < 1000; omega⟩
        repeat (first | exact .nil | refine .cons _ _ _ (turn_low (by first | exact low2_sound rfl | exact notes_low _ _ | exact ints_low _ _)) ?_ | refine .cons _ _ _ (turn_ptr 0 rfl rfl) ?_ | refine .cons _ _ _ (turn_ptr 1 rfl rfl) ?_ | refine .cons _ _ _ (turn_ptr 2 rfl rfl) ?_ | (refine .cons _ _ _ (turn_eq (I_eq ?_) (low2_sound rfl)) ?_; rotate_left))
        all_goals try exact wr (by omega)
      · refine join_here (sulkD (hearD d n).1 (!(hearD d n).1.sulks), (hearD d n).2) (weaker_turn0 [0, 1] (by decide) (.cons 0 [1] _ _ _ rfl (.same rfl (fun e he => by simp at he; subst he; exact LowL.of2 rfl)) (.cons 1 [] _ _ _ rfl (.same rfl (fun e he => by simp at he; subst he; exact LowL.of2 rfl)) .nil)) ?_) ⟨hg'.sulk _, by show ((hearD d n).2).length < 1000; omega⟩
        repeat (first | exact .nil | refine .cons _ _ _ (turn_low (by first | exact low2_sound rfl | exact notes_low _ _ | exact ints_low _ _)) ?_ | refine .cons _ _ _ (turn_ptr 0 rfl rfl) ?_ | refine .cons _ _ _ (turn_ptr 1 rfl rfl) ?_ | refine .cons _ _ _ (turn_ptr 2 rfl rfl) ?_ | (refine .cons _ _ _ (turn_eq (I_eq ?_) (low2_sound rfl)) ?_; rotate_left))
        all_goals try exact wr (by omega)
      · have hfl : (finishD (hearD d n).1 true j).2.1.length ≤ 1 := by
          unfold finishD
          simp only [Bool.cond_eq_ite]
          repeat' split
          all_goals simp
        refine And.intro (by rw [small_of 32 rfl (by simp only [List.length_map, List.length_range]; omega)]; rfl) ?_
        conv => whnf
        refine And.intro (app_ok 32 rfl (by simp) (by simp only [List.length_map, List.length_range]; omega)) ?_
        conv => whnf
        have hes := range_list (hearD d n).2 Note.zero Note.cells
        have hes2 := range_list (finishD (hearD d n).1 true j).2.1 Note.zero Note.cells
        refine join_here ((finishD (hearD d n).1 true j).1, (hearD d n).2 ++ (finishD (hearD d n).1 true j).2.1) (weaker_turn0 [0, 1] (by decide) (.cons 0 [1] _ _ _ rfl (.same rfl (fun e he => by simp at he; subst he; exact LowL.of2 rfl)) (.cons 1 [] _ _ _ rfl (.same rfl (fun e he => by simp at he; subst he; exact LowL.of2 rfl)) .nil)) ?_) ⟨hg'.finish j h, by show List.length (_ ++ _) < 1000; rw [List.length_append]; omega⟩
        refine .cons _ _ _ (turn_ptr 0 rfl rfl) (.cons _ _ _ (turn_low (low2_sound rfl)) (.cons _ _ _ (turn_low (low2_sound rfl)) (.cons _ _ _ (turn_low (low2_sound rfl)) (.cons _ _ _ (turn_ptr 1 rfl rfl) (.cons _ _ _ (turn_list0 Note.zero _ rfl (Nat.zero_le _) (by decide) ?_ Note.low ?_) (.cons _ _ _ (turn_low (notes_low _ _)) (.cons _ _ _ (turn_low (ints_low _ _)) .nil)))))))
        · dsimp only
          rw [List.map_append, ← hes, ← hes2]
          rfl
        · simp
      · refine join_here ((hearD d n).1, (hearD d n).2) (weaker_turn0 [0, 1] (by decide) (.cons 0 [1] _ _ _ rfl (.same rfl (fun e he => by simp at he; subst he; exact LowL.of2 rfl)) (.cons 1 [] _ _ _ rfl (.same rfl (fun e he => by simp at he; subst he; exact LowL.of2 rfl)) .nil)) ?_) ⟨hg', by show ((hearD d n).2).length < 1000; omega⟩
        repeat (first | exact .nil | refine .cons _ _ _ (turn_low (by first | exact low2_sound rfl | exact notes_low _ _ | exact ints_low _ _)) ?_ | refine .cons _ _ _ (turn_ptr 0 rfl rfl) ?_ | refine .cons _ _ _ (turn_ptr 1 rfl rfl) ?_ | refine .cons _ _ _ (turn_ptr 2 rfl rfl) ?_ | (refine .cons _ _ _ (turn_eq (I_eq ?_) (low2_sound rfl)) ?_; rotate_left))
        all_goals try exact wr (by omega)
      · refine join_here ((hearD d n).1, (hearD d n).2) (weaker_turn0 [0, 1] (by decide) (.cons 0 [1] _ _ _ rfl (.same rfl (fun e he => by simp at he; subst he; exact LowL.of2 rfl)) (.cons 1 [] _ _ _ rfl (.same rfl (fun e he => by simp at he; subst he; exact LowL.of2 rfl)) .nil)) ?_) ⟨hg', by show ((hearD d n).2).length < 1000; omega⟩
        repeat (first | exact .nil | refine .cons _ _ _ (turn_low (by first | exact low2_sound rfl | exact notes_low _ _ | exact ints_low _ _)) ?_ | refine .cons _ _ _ (turn_ptr 0 rfl rfl) ?_ | refine .cons _ _ _ (turn_ptr 1 rfl rfl) ?_ | refine .cons _ _ _ (turn_ptr 2 rfl rfl) ?_ | (refine .cons _ _ _ (turn_eq (I_eq ?_) (low2_sound rfl)) ?_; rotate_left))
        all_goals try exact wr (by omega)
      · refine join_here ((hearD d n).1, (hearD d n).2) (weaker_turn0 [0, 1] (by decide) (.cons 0 [1] _ _ _ rfl (.same rfl (fun e he => by simp at he; subst he; exact LowL.of2 rfl)) (.cons 1 [] _ _ _ rfl (.same rfl (fun e he => by simp at he; subst he; exact LowL.of2 rfl)) .nil)) ?_) ⟨hg', by show ((hearD d n).2).length < 1000; omega⟩
        repeat (first | exact .nil | refine .cons _ _ _ (turn_low (by first | exact low2_sound rfl | exact notes_low _ _ | exact ints_low _ _)) ?_ | refine .cons _ _ _ (turn_ptr 0 rfl rfl) ?_ | refine .cons _ _ _ (turn_ptr 1 rfl rfl) ?_ | refine .cons _ _ _ (turn_ptr 2 rfl rfl) ?_ | (refine .cons _ _ _ (turn_eq (I_eq ?_) (low2_sound rfl)) ?_; rotate_left))
        all_goals try exact wr (by omega)
  · exact ⟨_, _, told_low2 rfl, rfl, rfl⟩

end Go.Proofs.Ytlgfgcadoocgoaa
