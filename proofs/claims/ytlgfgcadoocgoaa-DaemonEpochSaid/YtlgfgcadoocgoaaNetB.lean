/-
  Contracts of the net's functions.
-/
import Derived.Test.YtlgfgcadoocgoaaNetA
import Derived.Test.YtlgfgcadoocgoaaFwR
namespace Go.Proofs.Ytlgfgcadoocgoaa
set_option linter.unusedSimpArgs false
set_option linter.unusedVariables false
open Go.Fw

attribute [local irreducible] ACalls

structure Note where
  k : Int
  n : Int
  j : Int
  e : Int
  deriving DecidableEq

def Note.zero : Note := ⟨0, 0, 0, 0⟩
def Note.cells (x : Note) : List AVal := [I x.k, I x.n, I x.j, I x.e]
def Note.a (x : Note) : AVal := .agg x.cells
def notes (l : List Note) : AVal := listA 4 Note.cells .zero l

theorem Note.low (x : Note) : x.cells.all low0 = true := rfl
theorem notes_low (l : List Note) (n : Nat) : Low n (notes l) := listA_low Note.low

theorem within_c (l : List Note) (i : Int) : ∀ objs, AGives Try.prog 28 [notes l, I i] objs (Bo (decide (i ≥ 0) && decide (i < l.length))) := by
  refine AGives.any' (.cons (notes_low _ _) (.cons (low2_sound rfl) .nil)) (low2_sound rfl) (ACalls.of_cwp (fun _ => true) Try.func28 rfl rfl ?_)
  conv => whnf
  exact ⟨_, _, told_low2 rfl, rfl, rfl⟩

theorem head_c (l : List Note) (i : Int) (hi : 0 ≤ i) (hl : l.length < 2000) : ∀ objs, ACalls Try.prog 29 [notes l, I i] objs fun r o => r = .own objs.length 0 4 0 (min i.toNat l.length) ∧ o = objs ++ [(0, .row 25 4 ((l.take i.toNat).map Note.cells))] := by
  refine ACalls.frameOwn (ACalls.of_cwp (fun _ => true) Try.func29 rfl rfl ?_) (.cons (notes_low _ _) (.cons (low2_sound rfl) .nil)) fun e he => ?_
  · conv => whnf
    refine ⟨fun _ => ?_, ?_⟩
    · simp; omega
    conv => whnf
    refine ⟨?_, ?_⟩
    · rw [small_of 32 rfl (by simp only [List.length_map, List.length_range, Option.getD]; omega)]
      rfl
    conv => whnf
    refine ⟨_, _, .refl, ?_, ?_⟩
    · simp only [List.length_map, List.length_range, Option.getD]
      show AVal.own 0 0 4 0 _ = _
      congr 1
      omega
    · show [(0, AObj.row 25 4 _)] = _
      refine congrArg (fun x => [((0 : Nat), AObj.row 25 4 x)]) ?_
      simp only [List.range_zero, List.map_nil, List.nil_append, Option.getD, Int.toNat_zero, Nat.zero_add, Nat.sub_zero]
      rw [range_take l Note.zero Note.cells _ (by omega)]
      congr 1
      rw [show (min i (l.length : Int)).toNat = min i.toNat l.length by omega, List.take_eq_take_iff]
      omega
  · obtain ⟨x, _, rfl⟩ := List.mem_map.1 he
    exact LowL.of2 rfl

def takeP (l : List Note) (i : Int) : Note × List Note × Int := bif decide (i ≥ 0) && decide (i < l.length) then (l.getD i.toNat .zero, l.eraseIdx i.toNat, 0) else (.zero, [], 2)

theorem take_c (l : List Note) (i : Int) (hl : l.length < 2000) : ∀ objs, AGives Try.prog 9 [notes l, I i] objs (.tup [(takeP l i).1.a, notes (takeP l i).2.1, I (takeP l i).2.2]) := by
  have low : Low 0 (.tup [(takeP l i).1.a, notes (takeP l i).2.1, I (takeP l i).2.2]) := .tup' (.cons (low2_sound rfl) (.cons (notes_low _ _) (.cons (low2_sound rfl) .nil)))
  refine AGives.any' (.cons (notes_low _ _) (.cons (low2_sound rfl) .nil)) low (ACalls.of_cwp (fun _ => true) Try.func9 rfl rfl ?_)
  conv => whnf
  refine (within_c _ _ _).calls ?_
  conv => whnf
  refine ⟨fun h => ?_, fun h => ?_⟩
  · conv => whnf
    have h' := (Bool.not_eq_true' _).mp h
    refine ret_seen low ?_
    simp only [takeP, h', cond_false]
    exact Seen.tup (.cons _ _ _ _ (Seen.refl _ _) (.cons _ _ _ _ seen_nil (.cons _ _ _ _ (Seen.refl _ _) .nil)))
  · conv => whnf
    refine ⟨rfl, ?_⟩
    conv => whnf
    have h' := (Bool.not_eq_false' _).mp h
    have h2 := h'
    simp only [Bool.and_eq_true, decide_eq_true_eq] at h2
    refine ⟨fun _ => decide_eq_true ⟨h2.1, h2.2⟩, ?_⟩
    conv => whnf
    refine ⟨_, _, (head_c l i h2.1 hl _), ?_⟩
    conv => whnf
    have hw : IntKind.i64.wrap (i + 1) = i + 1 := wr (by omega)
    simp only [hw, Option.getD]
    refine ⟨fun _ => decide_eq_true (by omega), ?_⟩
    conv => whnf
    refine ⟨app_ok 32 rfl (by simp) (by simp only [List.length_map, List.length_range]; omega), ?_⟩
    conv => whnf
    repeat (refine ⟨rfl, ?_⟩; conv => whnf)
    refine ret_seen low ?_
    simp only [takeP, h', cond_true]
    refine Seen.tup (.cons _ _ _ _ (Seen.refl _ _) (.cons _ _ _ _ (seen_list _ _ rfl ?_ ?_) (.cons _ _ _ _ (Seen.refl _ _) .nil)))
    · rw [range_drop l Note.zero Note.cells _ _ (by omega), ← erase_split, show (i + 1).toNat = i.toNat + 1 by omega]
    · simp only [List.length_map, List.length_range, List.length_eraseIdx]
      split <;> omega

def doubleP (l : List Note) (i : Int) : List Note × Int := bif !(decide (i ≥ 0) && decide (i < l.length)) then ([], 2) else bif decide ((l.length : Int) ≥ 300) then ([], 3) else (l ++ [l.getD i.toNat .zero], 0)

theorem double_c (l : List Note) (i : Int) (hl : l.length < 2000) : ∀ objs, AGives Try.prog 13 [notes l, I i] objs (.tup [notes (doubleP l i).1, I (doubleP l i).2]) := by
  have low : Low 0 (.tup [notes (doubleP l i).1, I (doubleP l i).2]) := .tup' (.cons (notes_low _ _) (.cons (low2_sound rfl) .nil))
  refine AGives.any' (.cons (notes_low _ _) (.cons (low2_sound rfl) .nil)) low (ACalls.of_cwp (fun _ => true) Try.func13 rfl rfl ?_)
  conv => whnf
  refine (within_c _ _ _).calls ?_
  conv => whnf
  refine ⟨fun h => ?_, fun h => ?_⟩
  · conv => whnf
    refine ret_seen low ?_
    simp only [doubleP, h, cond_true]
    exact Seen.tup (.cons _ _ _ _ seen_nil (.cons _ _ _ _ (Seen.refl _ _) .nil))
  · conv => whnf
    refine ⟨fun h2 => ?_, fun h2 => ?_⟩
    · conv => whnf
      refine ret_seen low ?_
      simp only [doubleP, h, h2, cond_true, cond_false]
      exact Seen.tup (.cons _ _ _ _ seen_nil (.cons _ _ _ _ (Seen.refl _ _) .nil))
    · conv => whnf
      refine ⟨rfl, ?_⟩
      conv => whnf
      have h' := (Bool.not_eq_false' _).mp h
      simp only [Bool.and_eq_true, decide_eq_true_eq] at h'
      refine ⟨_, _, (head_c l l.length (by omega) hl _), ?_⟩
      conv => whnf
      refine ⟨fun _ => decide_eq_true ⟨h'.1, h'.2⟩, ?_⟩
      conv => whnf
      refine ⟨app_ok 32 rfl (by simp) (by simp only [List.length_map, List.length_range]; omega), ?_⟩
      conv => whnf
      repeat (refine ⟨rfl, ?_⟩; conv => whnf)
      refine ret_seen low ?_
      simp only [doubleP, h, h2, cond_false]
      refine Seen.tup (.cons _ _ _ _ (seen_list _ _ rfl ?_ ?_) (.cons _ _ _ _ (Seen.refl _ _) .nil))
      · have e : l.take (l.length : Int).toNat = l := by simp
        rw [e, List.map_append]
        rfl
      · simp

def downStep (n : Int) (x : Note) : Int := bif downB x.k then n + 1 else n
def downP (l : List Note) : Int := l.foldl downStep 0

theorem downP_le (l : List Note) (b : Int) : b ≤ l.foldl downStep b ∧ l.foldl downStep b ≤ b + l.length := by
  induction l generalizing b with
  | nil => simp
  | cons x l ih =>
    have h1 := ih (downStep b x)
    have h2 : b ≤ downStep b x ∧ downStep b x ≤ b + 1 := by unfold downStep; cases downB x.k <;> simp <;> omega
    simp only [List.foldl_cons, List.length_cons]
    omega

theorem netdown_c (l : List Note) (hl : l.length < 2000) : ∀ objs, AGives Try.prog 27 [notes l] objs (I (downP l)) := by
  refine AGives.any' (.cons (notes_low _ _) .nil) (low2_sound rfl) (ACalls.of_cwp (fun _ => true) Try.func27 rfl rfl ?_)
  conv => whnf
  refine ⟨fun m s o => ∃ j, j ≤ l.length ∧ m = l.length - j ∧ s = [(8, I j), (7, I l.length), (6, notes l), (3, I ((l.take j).foldl downStep 0)), (2, I 0), (0, notes l)] ∧ o = [], l.length, _, _, weaker_refl, ⟨0, Nat.zero_le _, rfl, rfl, rfl⟩, ?_⟩
  rintro m s o ⟨j, hj, rfl, rfl, rfl⟩
  conv => whnf
  refine ⟨fun h => ?_, fun h => ?_⟩
  · conv => whnf
    have hj' := of_decide_eq_true h
    refine ⟨fun _ => idx_ok (by omega), ?_⟩
    conv => whnf
    refine (down_c _ _).calls ?_
    conv => whnf
    have hb := downP_le (l.take j) 0
    have hs := foldl_take downStep 0 l Note.zero j (by omega)
    simp only [List.length_take] at hb
    refine ⟨fun h2 => ?_, fun h2 => ?_⟩
    all_goals
      conv => whnf
      change downB (l.getD j Note.zero).k = _ at h2
      simp only [downStep, h2, cond_true, cond_false] at hs
      refine ⟨l.length - (j + 1), [(8, I (j + 1 : Nat)), (7, I l.length), (6, notes l), (3, I ((l.take (j + 1)).foldl downStep 0)), (2, I 0), (0, notes l)], [], by omega, weaker_drop (.cons _ _ _ ?_ (low2_sound rfl) (.cons _ _ _ rfl (low2_sound rfl) (.cons _ _ _ rfl (notes_low _ _) (.cons _ _ _ ?_ (low2_sound rfl) (.cons _ _ _ rfl (low2_sound rfl) (.cons _ _ _ rfl (notes_low _ _) .nil)))))), j + 1, by omega, rfl, rfl, rfl⟩
      · exact I_eq (wr (by omega))
    · refine I_eq ?_
      rw [wr (by omega)]
      exact hs.symm
    · exact I_eq hs.symm
  · have hj' := of_decide_eq_false h
    conv => whnf
    refine ⟨_, _, told_low2 rfl, I_eq ?_, rfl⟩
    rw [List.take_of_length_le (by omega)]
    rfl

def Note.eqb (y x : Note) : Bool := y.k == x.k && (y.n == x.n && (y.j == x.j && y.e == x.e))
theorem Note.eqb_iff (y x : Note) : y.eqb x = true ↔ y = x := by
  obtain ⟨a, b, c, d⟩ := y
  obtain ⟨a', b', c', d'⟩ := x
  simp [Note.eqb]

theorem eqNote : eqOK Try.prog 25 = true := by kernel_rfl

def oftenStep (x : Note) (k : Int) (y : Note) : Int := bif y.eqb x then k + 1 else k
def oftenP (l : List Note) (x : Note) : Int := l.foldl (oftenStep x) 0

theorem oftenP_le (x : Note) (l : List Note) (b : Int) : b ≤ l.foldl (oftenStep x) b ∧ l.foldl (oftenStep x) b ≤ b + l.length := by
  induction l generalizing b with
  | nil => simp
  | cons y l ih =>
    have h1 := ih (oftenStep x b y)
    have h2 : b ≤ oftenStep x b y ∧ oftenStep x b y ≤ b + 1 := by unfold oftenStep; cases y.eqb x <;> simp <;> omega
    simp only [List.foldl_cons, List.length_cons]
    omega

theorem often_c (l : List Note) (x : Note) (hl : l.length < 2000) : ∀ objs, AGives Try.prog 12 [notes l, x.a] objs (I (oftenP l x)) := by
  refine AGives.any' (.cons (notes_low _ _) (.cons (low2_sound rfl) .nil)) (low2_sound rfl) (ACalls.of_cwp (fun _ => true) Try.func12 rfl rfl ?_)
  conv => whnf
  refine ⟨fun m s o => ∃ j, j ≤ l.length ∧ m = l.length - j ∧ s = [(6, I j), (5, I ((l.take j).foldl (oftenStep x) 0)), (4, I 0), (3, AVal.ptr 0 0 4 0 0), (0, notes l), (1, x.a)] ∧ o = [(0, AObj.row 25 4 [x.cells])], l.length, _, _, weaker_refl, ⟨0, Nat.zero_le _, rfl, rfl, rfl⟩, ?_⟩
  rintro m s o ⟨j, hj, rfl, rfl, rfl⟩
  conv => whnf
  refine ⟨fun h => ?_, fun h => ?_⟩
  · conv => whnf
    have hj' := of_decide_eq_true h
    refine ⟨rfl, ?_⟩
    conv => whnf
    refine ⟨fun _ => idx_ok (by omega), ?_⟩
    conv => whnf
    refine ⟨fun _ => eqNote, ?_⟩
    conv => whnf
    have hb := oftenP_le x (l.take j) 0
    have hs := foldl_take (oftenStep x) 0 l Note.zero j (by omega)
    simp only [List.length_take] at hb
    refine ⟨fun h2 => ?_, fun h2 => ?_⟩
    all_goals
      conv => whnf
      change (l.getD j Note.zero).eqb x = _ at h2
      simp only [oftenStep, h2, cond_true, cond_false] at hs
      refine ⟨l.length - (j + 1), [(6, I (j + 1 : Nat)), (5, I ((l.take (j + 1)).foldl (oftenStep x) 0)), (4, I 0), (3, AVal.ptr 0 0 4 0 0), (0, notes l), (1, x.a)], _, by omega, weaker_same (.cons _ _ _ ?_ (.cons _ _ _ ?_ (.cons _ _ _ rfl (.cons _ _ _ rfl (.cons _ _ _ rfl (.cons _ _ _ rfl .nil)))))), j + 1, by omega, rfl, rfl, rfl⟩
      · exact I_eq (wr (by omega))
    · refine I_eq ?_
      rw [wr (by omega)]
      exact hs.symm
    · exact I_eq hs.symm
  · have hj' := of_decide_eq_false h
    conv => whnf
    refine ⟨_, _, told_low2 rfl, I_eq ?_, rfl⟩
    rw [List.take_of_length_le (by omega)]
    rfl

def noteC (x : Note) : Int := noteE x.k x.n x.j x.e
def sendStep (out : List Note) (x : Note) : List Note := bif decide ((out.length : Int) < 300) && (noteC x == 0) then out ++ [x] else out
def sendP (l more : List Note) : List Note := more.foldl sendStep (l.take 300)

theorem sendStep_t {out : List Note} {x : Note} (h : (decide ((out.length : Int) < 300) && (noteC x == 0)) = true) : sendStep out x = out ++ [x] := by
  unfold sendStep
  rw [h, cond_true]
theorem sendStep_f {out : List Note} {x : Note} (h : (decide ((out.length : Int) < 300) && (noteC x == 0)) = false) : sendStep out x = out := by
  unfold sendStep
  rw [h, cond_false]

theorem send_len (more : List Note) (out : List Note) (h : out.length ≤ 300) : (more.foldl sendStep out).length ≤ 300 := by
  induction more generalizing out with
  | nil => exact h
  | cons x l ih =>
    rw [List.foldl_cons]
    refine ih _ ?_
    unfold sendStep
    cases hc : decide ((out.length : Int) < 300) && (noteC x == 0)
    · exact h
    · simp only [Bool.and_eq_true, decide_eq_true_eq] at hc
      have hc := hc.1
      have e : (out ++ [x]).length = out.length + 1 := by rw [List.length_append]; rfl
      rw [cond_true, e]
      omega

theorem send_c (l more : List Note) (hl : l.length < 2000) (hm : more.length < 2000) : ∀ objs, AGives Try.prog 10 [notes l, notes more] objs (notes (sendP l more)) := by
  refine AGives.any' (.cons (notes_low _ _) (.cons (notes_low _ _) .nil)) (notes_low _ _) (ACalls.of_cwp (fun t => !(Nat.beq t 8 || Nat.beq t 9)) Try.func10 rfl rfl ?_)
  conv => whnf
  refine (head_c l 300 (by omega) hl _).mono ?_
  rintro r o ⟨rfl, rfl⟩
  conv => whnf
  refine ⟨fun m s o => ∃ j, j ≤ more.length ∧ m = more.length - j ∧ s = [(12, I j), (11, I more.length), (10, notes more), (5, .own 0 0 4 0 ((more.take j).foldl sendStep (l.take 300)).length), (4, AVal.lit (.slice none 0 0)), (0, notes l), (1, notes more)] ∧ o = [(0, .row 25 4 (((more.take j).foldl sendStep (l.take 300)).map Note.cells))], more.length, _, _, weaker_refl, ⟨0, Nat.zero_le _, rfl, ?_, rfl⟩, ?_⟩
  · have e : (List.foldl sendStep (List.take 300 l) (List.take 0 more)).length = min (Int.toNat 300) l.length := by
      rw [List.take_zero, List.foldl_nil, List.length_take]
      rfl
    rw [e]
    rfl
  rintro m s o ⟨j, hj, rfl, rfl, rfl⟩
  have hlen := send_len (more.take j) (l.take 300) (by rw [List.length_take]; omega)
  conv => whnf
  refine ⟨fun h => ?_, fun h => ?_⟩
  · conv => whnf
    have hj' := of_decide_eq_true h
    refine ⟨fun _ => idx_ok (by omega), ?_⟩
    conv => whnf
    refine ⟨_, fun _ => check_c _ _ _ _ _, ?_⟩
    conv => whnf
    have hs := foldl_take sendStep (l.take 300) more Note.zero j (by omega)
    refine ⟨fun h2 => ?_, fun h2 => ?_⟩
    · conv => whnf
      have hs2 : (more.take (j + 1)).foldl sendStep (l.take 300) = (more.take j).foldl sendStep (l.take 300) ++ [more.getD j Note.zero] := by
        rw [hs]
        exact sendStep_t h2
      refine ⟨app_ok 32 rfl (by simp) (by simp only [List.length_map, List.length_range]; omega), ?_⟩
      conv => whnf
      refine ⟨more.length - (j + 1), [(12, I (j + 1 : Nat)), (11, I more.length), (10, notes more), (5, .own 0 0 4 0 ((more.take (j + 1)).foldl sendStep (l.take 300)).length), (4, AVal.lit (.slice none 0 0)), (0, notes l), (1, notes more)], _, by omega, weaker_reset 1 (Nat.le_add_left 1 _) ?_ (.cons _ _ _ ?_ (low2_sound rfl) (.cons _ _ _ rfl (low2_sound rfl) (.cons _ _ _ rfl (notes_low _ _) (.own _ _ _ _ _ _ _ _ _ rfl rfl (Nat.zero_lt_succ 0) ?_ (.cons _ _ _ rfl (low2_sound rfl) (.cons _ _ _ rfl (notes_low _ _) (.cons _ _ _ rfl (notes_low _ _) .nil))))))), j + 1, by omega, rfl, rfl, ?_⟩
      · exact low_first (lowRow' _ (List.map_append (l₁ := (more.take j).foldl sendStep (l.take 300)) (l₂ := [more.getD j Note.zero])).symm Note.low)
      · exact I_eq (wr (by omega))
      · rw [hs2, List.length_append]; rfl
      · rw [hs2, List.map_append]; rfl
    · conv => whnf
      have hs2 : (more.take (j + 1)).foldl sendStep (l.take 300) = (more.take j).foldl sendStep (l.take 300) := by
        rw [hs]
        exact sendStep_f h2
      refine ⟨more.length - (j + 1), [(12, I (j + 1 : Nat)), (11, I more.length), (10, notes more), (5, .own 0 0 4 0 ((more.take (j + 1)).foldl sendStep (l.take 300)).length), (4, AVal.lit (.slice none 0 0)), (0, notes l), (1, notes more)], _, by omega, weaker_reset 1 (Nat.le_add_left 1 _) ?_ (.cons _ _ _ ?_ (low2_sound rfl) (.cons _ _ _ rfl (low2_sound rfl) (.cons _ _ _ rfl (notes_low _ _) (.own _ _ _ _ _ _ _ _ _ rfl rfl (Nat.zero_lt_succ 0) ?_ (.cons _ _ _ rfl (low2_sound rfl) (.cons _ _ _ rfl (notes_low _ _) (.cons _ _ _ rfl (notes_low _ _) .nil))))))), j + 1, by omega, rfl, rfl, ?_⟩
      · exact low_first (lowRow Note.low)
      · exact I_eq (wr (by omega))
      · rw [hs2]
      · rw [hs2]; rfl
  · have hj' := of_decide_eq_false h
    conv => whnf
    have e : List.take j more = more := List.take_of_length_le (by omega)
    rw [e]
    exact ret_seen (notes_low _ _) (seen_list _ _ (o := 0) (ver := 0) rfl rfl rfl)

end Go.Proofs.Ytlgfgcadoocgoaa
