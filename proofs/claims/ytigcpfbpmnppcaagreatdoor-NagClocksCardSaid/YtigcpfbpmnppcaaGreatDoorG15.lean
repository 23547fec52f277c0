/-
  What the program's and the document's 'same' say of states: that they are one and the same. No condition.
  Tables of jobs: what a table that may be is like; what the check of a state shows of its jobs. Conditions stand in each lemma.
  The program's checks and the document's are the same, first part: nodes, books, the ledger, shapes. Conditions stand in each lemma.
  The program's checks and the document's are the same, second part: the ledger, shapes and their options, names, what is waited for. Conditions stand in each lemma.
  The program's checks and the document's are the same, third part: how many nodes a set has. Conditions stand in each lemma.
  The program's checks and the document's are the same, fourth part: a shape's options, names, what is waited for. Conditions stand in each lemma.
  The program's checks and the document's are the same, fifth part: what is a word. Conditions stand in each lemma.
  The program's checks and the document's are the same, sixth part: a text is a word for the program if it is one for the document. Conditions stand in each lemma.
  The program's checks and the document's are the same, seventh part: a text is a word for the document if it is one for the program. Conditions stand in each lemma.
  The program's checks and the document's are the same, eighth part: submissions, jobs, tables of jobs, what a plan asks of a state. Condition: sets of nodes are words; texts and rows are of a size that a machine holds.
-/
import Derived.Test.YtigcpfbpmnppcaaGreatDoorG14
namespace Go.Proofs.YtigcpfbpmnppcaaGreatDoor
set_option linter.unusedSimpArgs false
set_option linter.unusedVariables false
open Go.Fw
theorem same_go {α : Type} (d : α) (b : List α) (e : α -> α -> Bool) (he : ∀ x y, e x y = true ↔ x = y) (G : List α -> Nat -> Bool) (h0 : ∀ i, G [] i = true) (h1 : ∀ x r i, G (x :: r) i = bif !(e x (b.getD i d)) then false else G r (i + 1)) :
  ∀ (l : List α) (i : Nat), i + l.length = b.length -> (G l i = true ↔ l = b.drop i)
 | [], i, h => by
  rw [h0, drop_none (by simp at h; omega)]
  simp
 | x :: r, i, h => by
  have hi : i < b.length := by simp at h; omega
  rw [h1, drop_getD d hi]
  cases hx : e x (b.getD i d) with
  | false =>
   have hne : x ≠ b.getD i d := fun hq => by rw [(he _ _).2 hq] at hx; cases hx
   simp only [Bool.not_false, cond_true]
   exact ⟨fun h => (nomatch h), fun h => absurd (List.cons.inj h).1 hne⟩
  | true =>
   have hq := (he _ _).1 hx
   have := same_go d b e he G h0 h1 r (i + 1) (by simp at h ⊢; omega)
   simp only [Bool.not_true, cond_false]
   rw [this, hq]
   simp
theorem same_list {α : Type} (d : α) (a b : List α) (e : α -> α -> Bool) (he : ∀ x y, e x y = true ↔ x = y) (G : List α -> Nat -> Bool) (h0 : ∀ i, G [] i = true) (h1 : ∀ x r i, G (x :: r) i = bif !(e x (b.getD i d)) then false else G r (i + 1)) :
  (bif ((a.length : Int) != (b.length : Int)) then false else G a 0) = true ↔ a = b := by
 cases hl : ((a.length : Int) != (b.length : Int)) with
 | true =>
  have : (a.length : Int) ≠ (b.length : Int) := by simpa using hl
  simp only [cond_true]
  refine ⟨fun h => (nomatch h), fun h => ?_⟩
  subst h
  exact absurd rfl this
 | false =>
  have h : (a.length : Int) = (b.length : Int) := by simpa using hl
  simp only [cond_false]
  have := same_go d b e he G h0 h1 a 0 (by omega)
  simpa using this
theorem bytes_inj (a b : ByteArray) : (ByteArray.toList a == ByteArray.toList b) = true ↔ a = b := by
 rw [beq_iff_eq, ByteArray.toList_eq, ByteArray.toList_eq]
 refine ⟨fun h => ?_, fun h => by rw [h]⟩
 exact ByteArray.ext (Array.toList_inj.1 h)
theorem bytes_inj2 (a b : ByteArray) : ByteArray.toList a = ByteArray.toList b ↔ a = b := by
 rw [← bytes_inj, beq_iff_eq]
theorem bytes_beq (a b : ByteArray) : (a == b) = true ↔ a = b := by
 cases a with | mk a => cases b with | mk b =>
 show (a == b) = true ↔ ByteArray.mk a = ByteArray.mk b
 simp
theorem equal_Alt (a b : List Alt) : slices_Equal_Alt a b = true ↔ a = b :=
 same_list Alt.zero a b (fun x y => ((x.nodes == y.nodes) && (x.wall == y.wall))) (fun x y => by cases x; cases y; simp) (slices_Equal_Alt_g1 b) (fun _ => rfl) (fun _ _ _ => rfl)
theorem equal_Dep (a b : List Dep) : slices_Equal_Dep a b = true ↔ a = b :=
 same_list Dep.zero a b (fun x y => ((x.how == y.how) && (x.job == y.job))) (fun x y => by cases x; cases y; simp) (slices_Equal_Dep_g1 b) (fun _ => rfl) (fun _ _ _ => rfl)
theorem shape_same (a b : Shape) : shape_Same a b = true ↔ a = b := by
 cases a; cases b
 simp only [shape_Same, Bool.and_eq_true, beq_iff_eq, equal_Alt, Shape.mk.injEq]
 grind
theorem ref12_same (a b : List Node) : ref12_Same a b = true ↔ a = b :=
 same_list Node.zero a b (fun x y => ((x.state == y.state) && ((x.job == y.job) && ((x.epoch == y.epoch) && ((x.drain == y.drain) && ((x.want == y.want) && ((x.since == y.since) && (x.asked == y.asked)))))))) (fun x y => by cases x; cases y; simp) (ref12_Same_g1 b) (fun _ => rfl) (fun _ _ _ => rfl)
theorem ref19_same (a b : List Book) : ref19_Same a b = true ↔ a = b :=
 same_list Book.zero a b (fun x y => ((x.id == y.id) && ((x.from_ == y.from_) && ((x.to == y.to) && (x.nodes == y.nodes))))) (fun x y => by cases x; cases y; simp) (ref19_Same_g1 b) (fun _ => rfl) (fun _ _ _ => rfl)
theorem ref25_sameResizes (a b : List Resize) : ref25_SameResizes a b = true ↔ a = b :=
 same_list Resize.zero a b (fun x y => ((x.job == y.job) && ((x.grow == y.grow) && ((x.nodes == y.nodes) && ((x.said == y.said) && (x.since == y.since)))))) (fun x y => by cases x; cases y; simp) (ref25_SameResizes_g1 b) (fun _ => rfl) (fun _ _ _ => rfl)
theorem ref17_same (a b : List Usage) : ref17_Same a b = true ↔ a = b :=
 same_list Usage.zero a b (fun x y => !((((!(ByteArray.toList x.user == ByteArray.toList y.user)) || (!(ByteArray.toList x.account == ByteArray.toList y.account))) || (x.used != y.used)) || (x.share != y.share)))
  (fun x y => by
   have b1 := bytes_inj x.user y.user
   have b2 := bytes_inj x.account y.account
   cases x; cases y
   simp only at b1 b2
   simp only [Bool.not_eq_true', Bool.or_eq_false_iff, Bool.not_eq_false', b1, b2, bne_eq_false_iff_eq, Usage.mk.injEq]
   grind) (ref17_Same_g1 b) (fun _ => rfl) (fun _ _ _ => by rw [ref17_Same_g1, Bool.not_not])
theorem ref07_sameAlts (a b : List Alt) : ref07_SameAlts a b = true ↔ a = b :=
 same_list Alt.zero a b (fun x y => !((x.nodes != y.nodes) || (x.wall != y.wall))) (fun x y => by cases x; cases y; simp) (ref07_SameAlts_g1 b) (fun _ => rfl) (fun _ _ _ => by rw [ref07_SameAlts_g1, Bool.not_not])
theorem ref07_same (a b : Shape) : ref07_Same a b = true ↔ a = b := by
 cases a; cases b
 simp only [ref07_Same, Bool.and_eq_true, beq_iff_eq, ref07_sameAlts, Shape.mk.injEq]
 grind
theorem ref14_same_g1 (a b : Job) : ∀ (l : List Dep) (i : Nat), i + l.length = b.after.length -> (ref14_Same_g1 a b l i = true ↔ (l = b.after.drop i ∧ ref14_Same_g1 a b [] 0 = true))
 | [], i, h => by
  rw [drop_none (by simp at h; omega)]
  simp [ref14_Same_g1]
 | x :: r, i, h => by
  have hi : i < b.after.length := by simp at h; omega
  rw [ref14_Same_g1.eq_2, drop_getD Dep.zero hi]
  have ih := ref14_same_g1 a b r (i + 1) (by simp at h ⊢; omega)
  cases hx : ((x.how == (b.after.getD i Dep.zero).how) && (x.job == (b.after.getD i Dep.zero).job)) with
  | false =>
   have hne : x ≠ b.after.getD i Dep.zero := fun hq => by rw [hq] at hx; simp at hx
   simp only [Bool.not_false, cond_true]
   exact ⟨fun h => (nomatch h), fun h => absurd (List.cons.inj h.1).1 hne⟩
  | true =>
   have hq : x = b.after.getD i Dep.zero := by
    revert hx
    cases x; cases (b.after.getD i Dep.zero)
    simp
   simp only [Bool.not_true, cond_false]
   rw [ih, hq]
   simp
theorem ref14_same (a b : Job) : ref14_Same a b = true ↔ a = b := by
 unfold ref14_Same
 cases hl : ((a.after.length : Int) != (b.after.length : Int)) with
 | true =>
  have : (a.after.length : Int) ≠ (b.after.length : Int) := by simpa using hl
  simp only [Bool.true_or, cond_true]
  exact ⟨fun h => (nomatch h), fun h => absurd (by rw [h]) this⟩
 | false =>
  have hl' : (a.after.length : Int) = (b.after.length : Int) := by simpa using hl
  cases h1 : ref07_Same a.shape b.shape with
  | false =>
   have : a.shape ≠ b.shape := fun h => by rw [(ref07_same _ _).2 h] at h1; cases h1
   simp only [Bool.not_false, Bool.or_true, cond_true]
   exact ⟨fun h => (nomatch h), fun h => absurd (by rw [h]) this⟩
  | true =>
   have e1 := (ref07_same _ _).1 h1
   simp only [Bool.not_true, Bool.or_false, cond_false]
   rw [ref14_same_g1 a b a.after 0 (by omega)]
   simp only [ref14_Same_g1, List.drop_zero, Bool.and_eq_true, beq_iff_eq, bytes_inj2]
   cases a; cases b
   simp only at e1
   simp only [Job.mk.injEq]
   grind
theorem ref15_same (a b : List Job) : ref15_Same a b = true ↔ a = b :=
 same_list Job.zero a b ref14_Same ref14_same (ref15_Same_g1 b) (fun _ => rfl) (fun _ _ _ => rfl)
theorem ref25_same (a b : State) : ref25_Same a b = true ↔ a = b := by
 cases a; cases b
 simp only [ref25_Same, Bool.and_eq_true, beq_iff_eq, ref12_same, ref15_same, ref25_sameResizes, ref19_same, ref17_same, State.mk.injEq]
 grind
end Go.Proofs.YtigcpfbpmnppcaaGreatDoor
namespace Go.Proofs.YtigcpfbpmnppcaaGreatDoor
set_option linter.unusedSimpArgs false
set_option linter.unusedVariables false
open Go.Fw
theorem plan_Check_parts {s : State} (h : plan_Check s = 0) : fleet_Check s.nodes = 0 ∧ table_Check s.jobs = 0 := by
 unfold plan_Check at h
 cases h1 : (room_Check s != 0) with
 | true => rw [h1] at h; cases h
 | false =>
  have hr : room_Check s = 0 := by simpa using h1
  unfold room_Check at hr
  cases h2 : (((((decide (s.now < 0)) || (decide (s.now > 1000000))) || ((fleet_Check s.nodes) != 0)) || ((table_Check s.jobs) != 0)) || ((book_Check s.books) != 0)) with
  | true => rw [h2] at hr; cases hr
  | false =>
   obtain ⟨h3, _⟩ := or_f h2
   obtain ⟨h4, h5⟩ := or_f h3
   obtain ⟨_, h6⟩ := or_f h4
   exact ⟨by simpa using h6, by simpa using h5⟩
theorem check_held (s : State) (a b : Int) (c : List (Int × Job)) : ∀ (l : List Resize) (i : Nat) (c2 : List (Int × Resize)), state_Check_g4 s a b c l i c2 = 0 ->
  c.all (fun (en : Int × Job) => (bif ((alloc_Held s.nodes en.1) != en.2.nodes) then false else true)) = true
 | [], i, c2, h => by
  rw [state_Check_g4] at h
  cases h1 : ((((!true) || (!(state_next s.nextJob a))) || (!(state_next s.nextBook b))) || (!(state_nodes s c c2))) with
  | true => rw [h1] at h; cases h
  | false =>
   rw [h1] at h
   simp only [cond_false] at h
   cases h2 : c.all (fun (en : Int × Job) => (bif ((alloc_Held s.nodes en.1) != en.2.nodes) then false else true)) with
   | true => rfl
   | false => rw [h2] at h; cases h
 | x :: r, i, c2, h => by
  rw [state_Check_g4] at h
  cases h1 : (((!(getM x.job c).isSome) || ((decide ((i : Int) > 0)) && (decide ((s.resizes.getD (Int.toNat (w64 ((i : Int) - 1))) Resize.zero).job >= x.job)))) || (!(state_resize s x ((getM x.job c).getD Job.zero)))) with
  | true => rw [h1] at h; cases h
  | false =>
   rw [h1] at h
   exact check_held s a b c r (i + 1) _ h
theorem setM_mem {α β : Type} [BEq α] [LawfulBEq α] (k : α) (v : β) : ∀ l : List (α × β), (k, v) ∈ setM k v l
 | [] => by simp [setM]
 | p :: r => by
  rw [setM]
  cases hk : k == p.1 with
  | true => simp
  | false => simp [setM_mem k v r]
theorem setM_keep {α β : Type} [BEq α] [LawfulBEq α] (k k' : α) (v v' : β) (hne : k ≠ k') : ∀ l : List (α × β), (k, v) ∈ l -> (k, v) ∈ setM k' v' l
 | [], h => nomatch h
 | p :: r, h => by
  rw [setM]
  cases hk : k' == p.1 with
  | true =>
   have e := eq_of_beq hk
   rcases List.mem_cons.1 h with h | h
   ·exact absurd (by rw [e, ← h]) hne
   ·exact List.mem_cons_of_mem _ h
  | false =>
   rcases List.mem_cons.1 h with h | h
   ·rw [← h]; exact List.mem_cons_self ..
   ·exact List.mem_cons_of_mem _ (setM_keep k k' v v' hne r h)
theorem running_mem (x : Job) : ∀ (l : List Job) (i : Nat) (c : List (Int × Job)), ((x.id, x) ∈ c ∧ (∀ y ∈ l, y.id ≠ x.id)) ∨ (x ∈ l ∧ x.state = 2 ∧ l.Pairwise (fun a b => a.id < b.id)) -> (x.id, x) ∈ state_Check_g3 l i c
 | [], i, c, h => by
  rcases h with ⟨h, _⟩ | ⟨h, _⟩
  ·exact h
  ·exact nomatch h
 | y :: r, i, c, h => by
  rw [state_Check_g3]
  rcases h with ⟨h, hn⟩ | ⟨h, hs, hp⟩
  ·have hy := hn y (List.mem_cons_self ..)
   cases (y.state == 2) with
   | true => exact running_mem x r (i + 1) _ (.inl ⟨setM_keep _ _ _ _ (Ne.symm hy) c h, fun z hz => hn z (List.mem_cons_of_mem _ hz)⟩)
   | false => exact running_mem x r (i + 1) _ (.inl ⟨h, fun z hz => hn z (List.mem_cons_of_mem _ hz)⟩)
  ·obtain ⟨h1, h2⟩ := List.pairwise_cons.1 hp
   rcases List.mem_cons.1 h with rfl | h
   ·rw [beq_iff_eq.2 hs]
    exact running_mem x r (i + 1) _ (.inl ⟨setM_mem _ _ c, fun z hz => by have := h1 z hz; omega⟩)
   ·cases (y.state == 2) with
    | true => exact running_mem x r (i + 1) _ (.inr ⟨h, hs, h2⟩)
    | false => exact running_mem x r (i + 1) _ (.inr ⟨h, hs, h2⟩)
theorem table_rows (l : List Job) (hn : l.length <= 40) : ∀ (r : List Job) (i : Nat), r = l.drop i -> i + r.length = l.length -> table_Check_g1 l r i = 0 ->
  (∀ x ∈ r, job_Check x = 0) ∧ r.Pairwise (fun a b => a.id < b.id) ∧ (∀ y, 0 < i -> l[i - 1]? = some y -> ∀ x ∈ r, y.id < x.id)
 | [], i, _, _, _ => ⟨fun x hx => (nomatch hx), .nil, fun _ _ _ x hx => (nomatch hx)⟩
 | x :: r, i, hr, hlen, h => by
  simp only [List.length_cons] at hlen
  rw [table_Check_g1] at h
  cases h1 : (((job_Check x) != 0) || ((decide ((i : Int) > 0)) && (decide ((l.getD (Int.toNat (w64 ((i : Int) - 1))) Job.zero).id >= x.id)))) with
  | true => rw [h1] at h; cases h
  | false =>
   rw [h1] at h
   obtain ⟨h2, h3⟩ := or_f h1
   have hx : job_Check x = 0 := by simpa using h2
   have hi : l[i]? = some x := by
    have := congrArg (fun q => q[0]?) hr
    simpa [List.getElem?_drop] using this.symm
   have hr' : r = l.drop (i + 1) := by rw [← List.drop_drop, ← hr]; rfl
   obtain ⟨ih1, ih2, ih3⟩ := table_rows l hn r (i + 1) hr' (by omega) h
   have hxr : ∀ z ∈ r, x.id < z.id := ih3 x (by omega) hi
   refine ⟨fun z hz => ?_, List.pairwise_cons.2 ⟨hxr, ih2⟩, fun y hi0 hy z hz => ?_⟩
   ·rcases List.mem_cons.1 hz with rfl | hz
    ·exact hx
    ·exact ih1 z hz
   ·have hyx : y.id < x.id := by
     have hw : w64 ((i : Int) - 1) = (i : Int) - 1 := wr (by omega)
     have ht : Int.toNat ((i : Int) - 1) = i - 1 := by omega
     have hg : l.getD (i - 1) Job.zero = y := by simp [List.getD, hy]
     rw [hw, ht, hg] at h3
     simp at h3
     omega
    rcases List.mem_cons.1 hz with rfl | hz
    ·exact hyx
    ·exact Int.lt_trans hyx (hxr z hz)
theorem job_bounds {j : Job} (h : job_Check j = 0) : 1 <= j.id ∧ j.id <= 99999 := by
 unfold job_Check at h
 cases h1 : ((((((decide (j.id < 1)) || (decide (j.id > 99999))) || (!(job_tick j.born))) || (j.used != (sat_Usage j.used))) || ((cmd_Check (job_view_submission j)) != 0)) || (slices_ContainsFunc_Dep j.after (fun (y : Dep) => (decide (y.job >= j.id))))) with
 | true => rw [h1] at h; cases h
 | false =>
  obtain ⟨h2, _⟩ := or_f h1
  obtain ⟨h3, _⟩ := or_f h2
  obtain ⟨h4, _⟩ := or_f h3
  obtain ⟨h5, _⟩ := or_f h4
  simp at h5
  omega
theorem pairwise_get {l : List Job} (h : l.Pairwise (fun a b => a.id < b.id)) : ∀ (a b : Nat) (x y : Job), a < b -> l[a]? = some x -> l[b]? = some y -> x.id < y.id := by
 intro a b x y hab ha hb
 obtain ⟨ha1, rfl⟩ := List.getElem?_eq_some_iff.1 ha
 obtain ⟨hb1, rfl⟩ := List.getElem?_eq_some_iff.1 hb
 exact List.pairwise_iff_getElem.1 h a b ha1 hb1 hab
theorem table_parts {l : List Job} (h : table_Check l = 0) : l.length <= 40 ∧ (∀ x ∈ l, job_Check x = 0) ∧ l.Pairwise (fun a b => a.id < b.id) := by
 unfold table_Check at h
 cases h1 : (decide ((l.length : Int) > 40)) with
 | true => rw [h1] at h; cases h
 | false =>
  rw [h1] at h
  have h2 := of_decide_eq_false h1
  obtain ⟨a, b, _⟩ := table_rows l (by omega) l 0 (by simp) (by omega) h
  exact ⟨by omega, a, b⟩
section
variable {s : State}
theorem check_parts (h : state_Check s = 0) : plan_Check s = 0 ∧ ∀ x ∈ s.jobs, x.state = 2 -> alloc_Held s.nodes x.id = x.nodes := by
 have h0 := h
 unfold state_Check at h
 cases h1 : (plan_Check s != 0) with
 | true => rw [h1] at h; cases h
 | false =>
  rw [h1] at h
  have hp : plan_Check s = 0 := by simpa using h1
  refine ⟨hp, fun x hx hs => ?_⟩
  obtain ⟨_, _, ho⟩ := table_parts (plan_Check_parts hp).2
  have hall := check_held s _ _ _ _ _ _ h
  have hm := running_mem x s.jobs 0 [] (.inr ⟨hx, hs, ho⟩)
  have := List.all_eq_true.1 hall _ hm
  simp only at this
  cases hq : (alloc_Held s.nodes x.id != x.nodes) with
  | false => simpa using hq
  | true => rw [hq] at this; cases this
end
end Go.Proofs.YtigcpfbpmnppcaaGreatDoor
namespace Go.Proofs.YtigcpfbpmnppcaaGreatDoor
set_option linter.unusedSimpArgs false
set_option linter.unusedVariables false
open Go.Fw
theorem indexF_any {α : Type} (f : α -> Bool) (G : List α -> Nat -> Int) (h0 : ∀ i, G [] i = -1) (h1 : ∀ x r i, G (x :: r) i = bif f x then (i : Int) else G r (i + 1)) : ∀ (l : List α) (i : Nat), decide (G l i >= 0) = l.any f
 | [], i => by rw [h0]; rfl
 | x :: r, i => by
  rw [h1, List.any_cons]
  cases f x with
  | true => simp
  | false => simpa using indexF_any f G h0 h1 r (i + 1)
theorem any_Node (l : List Node) (f : Node -> Bool) : slices_ContainsFunc_Node l f = l.any f := indexF_any f _ (fun _ => rfl) (fun _ _ _ => rfl) l 0
theorem any_Alt (l : List Alt) (f : Alt -> Bool) : slices_ContainsFunc_Alt l f = l.any f := indexF_any f _ (fun _ => rfl) (fun _ _ _ => rfl) l 0
theorem any_Dep (l : List Dep) (f : Dep -> Bool) : slices_ContainsFunc_Dep l f = l.any f := indexF_any f _ (fun _ => rfl) (fun _ _ _ => rfl) l 0
theorem contains_int (l : List Int) (v : Int) : slices_Contains_int l v = l.any (fun x => v == x) := indexF_any (fun x => v == x) _ (fun _ => rfl) (fun _ _ _ => rfl) l 0
theorem fine_eq (x : Node) : fleet_fine x = ref12_fine x := by
 unfold fleet_fine ref12_fine
 simp only [contains_int, fleet_tick, List.any_cons, List.any_nil]
 obtain ⟨st, jb, ep, dr, wa, si, as_⟩ := x
 dsimp only
 by_cases h0 : st = 0
 ·subst h0; grind
 by_cases h1 : st = 1
 ·subst h1; grind
 by_cases h2 : st = 2
 ·subst h2; grind
 by_cases h3 : st = 3
 ·subst h3; grind
 by_cases h4 : st = 4
 ·subst h4; grind
 grind
theorem loop_all {α : Type} (f : α -> Bool) (e : Int) (he : e ≠ 0) (G : List α -> Nat -> Int) (h0 : ∀ i, G [] i = 0) (h1 : ∀ x r i, G (x :: r) i = bif !(f x) then e else G r (i + 1)) : ∀ (l : List α) (i : Nat), G l i = bif l.any (fun x => !(f x)) then e else 0
 | [], i => h0 i
 | x :: r, i => by
  rw [h1, List.any_cons]
  cases f x with
  | true => simpa using loop_all f e he G h0 h1 r (i + 1)
  | false => rfl
theorem fleet_Check_eq (l : List Node) : fleet_Check l = ref12_Check l := by
 unfold fleet_Check ref12_Check
 rw [any_Node, loop_all ref12_fine 120 (by decide) ref12_Check_g1 (fun _ => rfl) (fun _ _ _ => rfl)]
 have e : (fun y => !(fleet_fine y)) = (fun y => !(ref12_fine y)) := by funext y; rw [fine_eq]
 rw [e]
 have e2 : decide ((l.length : Int) < 1) = ((l.length : Int) == 0) := by
  rw [Bool.eq_iff_iff]
  simp only [decide_eq_true_eq, beq_iff_eq]
  omega
 rw [e2]
 cases ((l.length : Int) == 0) <;> cases (decide ((l.length : Int) > 48)) <;> cases l.any (fun y => !(ref12_fine y)) <;> rfl
theorem ord_eq {α : Type} (d : α) (key : α -> Int) (bad : α -> Bool) (e : Int) (N : Nat) (l : List α) (hl : l.length <= 4294967296) (GP : List α -> Nat -> Int) (GR : List α -> Int -> Nat -> Int)
  (p0 : ∀ i, GP [] i = 0) (p1 : ∀ x ∈ l, ∀ r i, GP (x :: r) i = bif bad x || (decide ((i : Int) > 0) && decide (key (l.getD (Int.toNat (w64 ((i : Int) - 1))) d) >= key x)) then e else GP r (i + 1))
  (r0 : ∀ last i, GR [] last i = 0) (r1 : ∀ x ∈ l, ∀ r last i, 0 <= last -> GR (x :: r) last i = bif ((i : Int) == (N : Int)) || bad x || decide (key x <= last) then e else GR r (key x) (i + 1))
  (hb : ∀ x, bad x = false -> key x >= 1) : ∀ (r : List α) (i : Nat) (last : Int), r = l.drop i -> i + r.length = l.length -> i <= N -> (i = 0 -> last = 0) -> (0 < i -> ∃ y, l[i - 1]? = some y ∧ last = key y ∧ key y >= 1) -> (bif decide (l.length > N) then e else GP r i) = GR r last i
 | [], i, last, hr, hlen, hN, _, _ => by
  simp only [List.length_nil, Nat.add_zero] at hlen
  rw [p0, r0, decide_eq_false (by omega)]
  rfl
 | x :: r, i, last, hr, hlen, hN, hl0, hl1 => by
  simp only [List.length_cons] at hlen
  have hi : l[i]? = some x := by
   have := congrArg (fun q => q[0]?) hr
   simpa [List.getElem?_drop] using this.symm
  have hx : x ∈ l := List.mem_of_getElem? hi
  have hr' : r = l.drop (i + 1) := by rw [← List.drop_drop, ← hr]; rfl
  have hlast : 0 <= last := by
   rcases Nat.eq_zero_or_pos i with h | h
   ·rw [hl0 h]; exact Int.le_refl 0
   ·obtain ⟨y, _, e, h⟩ := hl1 h; omega
  have hord : bad x = false -> (decide ((i : Int) > 0) && decide (key (l.getD (Int.toNat (w64 ((i : Int) - 1))) d) >= key x)) = decide (key x <= last) := by
   intro hbx
   have hk := hb x hbx
   rcases Nat.eq_zero_or_pos i with h | h
   ·subst h
    rw [hl0 rfl, decide_eq_false (show ¬ ((0 : Nat) : Int) > 0 by omega), decide_eq_false (show ¬ key x <= 0 by omega)]
    rfl
   ·obtain ⟨y, hy, e, _⟩ := hl1 h
    have hw : w64 ((i : Int) - 1) = (i : Int) - 1 := wr (by omega)
    have ht : Int.toNat ((i : Int) - 1) = i - 1 := by omega
    have hg : l.getD (i - 1) d = y := by simp [List.getD, hy]
    rw [hw, ht, hg, decide_eq_true (show (i : Int) > 0 by omega), e]
    rfl
  rw [p1 x hx, r1 x hx r last i hlast]
  cases hbx : bad x with
  | true =>
   simp only [Bool.true_or, Bool.or_true, cond_true]
   cases decide (l.length > N) <;> rfl
  | false =>
   rw [hord hbx]
   simp only [Bool.false_or, Bool.or_false]
   cases hk : decide (key x <= last) with
   | true =>
    simp only [Bool.or_true, cond_true]
    cases decide (l.length > N) <;> rfl
   | false =>
    simp only [Bool.or_false, cond_false]
    rcases Nat.lt_or_ge i N with h | h
    ·have : ((i : Int) == (N : Int)) = false := by simp; omega
     rw [this]
     simp only [cond_false]
     exact ord_eq d key bad e N l hl GP GR p0 p1 r0 r1 hb r (i + 1) (key x) hr' (by omega) (by omega) (by omega) (fun _ => ⟨x, by simpa using hi, rfl, hb x hbx⟩)
    ·have : ((i : Int) == (N : Int)) = true := by simp; omega
     rw [this, decide_eq_true (show l.length > N by omega)]
     rfl
theorem book_Check_eq (l : List Book) (hl : l.length <= 4294967296) : book_Check l = ref19_Check l := by
 have h := ord_eq Book.zero (·.id) (fun b => !(book_fine b)) 190 8 l hl (book_Check_g1 l) ref19_Check_g1 (fun _ => rfl) (fun _ _ _ _ => rfl) (fun _ _ => rfl) (fun x _ r last i hlast => by
   rw [ref19_Check_g1]
   congr 1
   unfold book_fine
   grind) (fun x hx => by
   unfold book_fine at hx
   simp at hx
   omega) l 0 0 (by simp) (by omega) (by omega) (fun _ => rfl) (fun h => absurd h (by omega))
 unfold book_Check ref19_Check
 rw [← h]
 have e : decide ((l.length : Int) > 8) = decide (l.length > 8) := by rw [Bool.eq_iff_iff]; simp only [decide_eq_true_eq]; omega
 rw [e]
end Go.Proofs.YtigcpfbpmnppcaaGreatDoor
namespace Go.Proofs.YtigcpfbpmnppcaaGreatDoor
set_option linter.unusedSimpArgs false
set_option linter.unusedVariables false
open Go.Fw
theorem order_eq (a b : Usage) : decide (ledger_order a b >= 0) = !(ref17_ahead a b) := by
 unfold ledger_order ref17_ahead cmp_Or_int cmp_Compare_string cmp_isNaN_string
 simp only [beq_self_eq_true, Bool.not_true, cond_false]
 generalize Op.bytesLess (ByteArray.toList a.user) (ByteArray.toList b.user) = lu
 generalize (ByteArray.toList a.user == ByteArray.toList b.user) = eu
 generalize Op.bytesLess (ByteArray.toList a.account) (ByteArray.toList b.account) = la
 generalize (ByteArray.toList a.account == ByteArray.toList b.account) = ea
 revert lu eu la ea
 decide
theorem ledger_go (l : List Usage) (hl : l.length <= 4294967296) : ∀ (r : List Usage) (i : Nat), i + r.length = l.length -> i <= 200 -> (bif decide (l.length > 200) then 2 else ledger_Check_g1 l r i) = ref17_Check_g1 l r i
 | [], i, hlen, hi => by
  simp only [List.length_nil, Nat.add_zero] at hlen
  rw [decide_eq_false (by omega)]
  rfl
 | x :: r, i, hlen, hi => by
  simp only [List.length_cons] at hlen
  rw [ledger_Check_g1, ref17_Check_g1, order_eq]
  have e1 : (((((!(ledger_name x.user)) || (!(ledger_name x.account))) || (x.used != (sat_Usage x.used))) || (decide (x.share < 0))) || (decide (x.share > x.used))) = ((((((!(ref17_name x.user)) || (!(ref17_name x.account))) || (decide (x.used < 0))) || (decide (x.used > 1000000000000))) || (decide (x.share < 0))) || (decide (x.share > x.used))) := by
   unfold ledger_name ref17_name sat_Usage sat_within_int
   grind
  have e2 : (((((((i : Int) == 200) || (!(ref17_name x.user))) || (!(ref17_name x.account))) || (decide (x.used < 0))) || (decide (x.used > 1000000000000))) || (decide (x.share < 0))) = (((i : Int) == 200) || (((((!(ref17_name x.user)) || (!(ref17_name x.account))) || (decide (x.used < 0))) || (decide (x.used > 1000000000000))) || (decide (x.share < 0)))) := by
   simp only [Bool.or_assoc]
  rw [e1, e2]
  rcases Nat.lt_or_ge i 200 with h | h
  ·have hh : ((i : Int) == 200) = false := by simp; omega
   rw [hh, Bool.false_or, ← ledger_go l hl r (i + 1) (by omega) (by omega)]
   generalize ((((((!(ref17_name x.user)) || (!(ref17_name x.account))) || (decide (x.used < 0))) || (decide (x.used > 1000000000000))) || (decide (x.share < 0))) || (decide (x.share > x.used))) = p
   generalize ((decide ((i : Int) > 0)) && (!(ref17_ahead (l.getD (Int.toNat (w64 ((i : Int) - 1))) Usage.zero) x))) = q
   cases p <;> cases q <;> cases decide (l.length > 200) <;> rfl
  ·have hh : ((i : Int) == 200) = true := by simp; omega
   rw [hh, decide_eq_true (show l.length > 200 by omega)]
   rfl
theorem ledger_Check_eq (l : List Usage) (hl : l.length <= 4294967296) : ledger_Check l = ref17_Check l := by
 unfold ledger_Check ref17_Check
 rw [← ledger_go l hl l 0 (by omega) (by omega)]
 have e : decide ((l.length : Int) > 200) = decide (l.length > 200) := by rw [Bool.eq_iff_iff]; simp only [decide_eq_true_eq]; omega
 rw [e]
theorem g3_any (x : Alt) : ∀ (l : List Alt) (k : Nat), (ref07_Check_g3 x l k).isLeft = l.any (fun y => x.nodes == y.nodes) ∧ ∀ v, ref07_Check_g3 x l k = Sum.inl v -> v = 70
 | [], k => ⟨rfl, fun v h => by cases h⟩
 | y :: r, k => by
  rw [ref07_Check_g3, List.any_cons]
  cases (x.nodes == y.nodes) with
  | true => exact ⟨rfl, fun v h => by cases h; rfl⟩
  | false => exact g3_any x r (k + 1)
def okAlt (a : Alt) : Bool := ref07_size a.nodes && ref07_wall a.wall
theorem g2_eq (s : Shape) : ∀ (r : List Alt) (i : Nat), r = s.alts.drop i -> (ref07_Check_g2 s r i = 0 ↔ (∀ x ∈ r, okAlt x = true) ∧ r.Pairwise (fun a b => a.nodes ≠ b.nodes)) ∧ (ref07_Check_g2 s r i = 0 ∨ ref07_Check_g2 s r i = 70)
 | [], i, _ => ⟨⟨fun _ => ⟨fun x hx => (nomatch hx), .nil⟩, fun _ => rfl⟩, .inl rfl⟩
 | x :: r, i, hr => by
  have hr' : r = s.alts.drop (i + 1) := by rw [← List.drop_drop, ← hr]; rfl
  obtain ⟨ih, ih2⟩ := g2_eq s r (i + 1) hr'
  rw [ref07_Check_g2, ← hr']
  cases hf : ((!(ref07_size x.nodes)) || (!(ref07_wall x.wall))) with
  | true =>
   refine ⟨⟨fun h => (by cases h), fun h => ?_⟩, .inr rfl⟩
   have := h.1 x (List.mem_cons_self ..)
   unfold okAlt at this
   simp at this hf
   rcases hf with h | h <;> simp_all
  | false =>
   have hok : okAlt x = true := by unfold okAlt; simp at hf; simp [hf]
   obtain ⟨h1, h2⟩ := g3_any x r (i + 1)
   simp only [cond_false]
   cases hg : ref07_Check_g3 x r (i + 1) with
   | inl v =>
    have hv := h2 v hg
    subst hv
    rw [hg] at h1
    refine ⟨⟨fun h => (by cases h), fun h => ?_⟩, .inr rfl⟩
    obtain ⟨y, hy, he⟩ := List.any_eq_true.1 h1.symm
    exact absurd (eq_of_beq he) ((List.pairwise_cons.1 h.2).1 y hy)
   | inr v =>
    rw [hg] at h1
    show (ref07_Check_g2 s r (i + 1) = 0 ↔ _) ∧ (ref07_Check_g2 s r (i + 1) = 0 ∨ ref07_Check_g2 s r (i + 1) = 70)
    refine ⟨ih.trans ⟨fun h => ⟨fun y hy => ?_, List.pairwise_cons.2 ⟨fun y hy e => ?_, h.2⟩⟩, fun h => ⟨fun y hy => h.1 y (List.mem_cons_of_mem _ hy), (List.pairwise_cons.1 h.2).2⟩⟩, ih2⟩
    ·rcases List.mem_cons.1 hy with rfl | hy
     ·exact hok
     ·exact h.1 y hy
    ·have := (List.any_eq_true (p := fun y : Alt => x.nodes == y.nodes)).2 ⟨y, hy, beq_iff_eq.2 e⟩
     rw [← h1] at this
     cases this
theorem apart_iff (l : List Alt) : ∀ (r : List Alt) (i : Nat), r = l.drop i -> (shape_apart_g1 l r i = true ↔ (∀ x ∈ r, ∀ y ∈ l.take i, x.nodes ≠ y.nodes) ∧ r.Pairwise (fun a b => a.nodes ≠ b.nodes))
 | [], i, _ => ⟨fun _ => ⟨fun x hx => (nomatch hx), .nil⟩, fun _ => rfl⟩
 | x :: r, i, hr => by
  have hr' : r = l.drop (i + 1) := by rw [← List.drop_drop, ← hr]; rfl
  have hi : l[i]? = some x := by
   have := congrArg (fun q => q[0]?) hr
   simpa [List.getElem?_drop] using this.symm
  have ht : l.take (i + 1) = l.take i ++ [x] := by rw [List.take_add_one, hi]; rfl
  have ih := apart_iff l r (i + 1) hr'
  rw [shape_apart_g1, any_Alt]
  cases ha : (List.take i l).any (fun (y : Alt) => (x.nodes == y.nodes)) with
  | true =>
   refine ⟨fun h => (by cases h), fun h => ?_⟩
   obtain ⟨y, hy, he⟩ := List.any_eq_true.1 ha
   exact absurd (eq_of_beq he) (h.1 x (List.mem_cons_self ..) y hy)
  | false =>
   have hno : ∀ y ∈ l.take i, x.nodes ≠ y.nodes := fun y hy e => by
    have := (List.any_eq_true (p := fun y : Alt => x.nodes == y.nodes)).2 ⟨y, hy, beq_iff_eq.2 e⟩
    rw [ha] at this
    cases this
   simp only [cond_false]
   rw [ih, ht]
   constructor
   ·rintro ⟨h1, h2⟩
    refine ⟨fun z hz y hy => ?_, List.pairwise_cons.2 ⟨fun z hz => ?_, h2⟩⟩
    ·rcases List.mem_cons.1 hz with rfl | hz
     ·exact hno y hy
     ·exact h1 z hz y (List.mem_append.2 (.inl hy))
    ·exact Ne.symm (h1 z hz x (List.mem_append.2 (.inr (List.mem_singleton.2 rfl))))
   ·rintro ⟨h1, h2⟩
    obtain ⟨h3, h4⟩ := List.pairwise_cons.1 h2
    refine ⟨fun z hz y hy => ?_, h4⟩
    rcases List.mem_append.1 hy with hy | hy
    ·exact h1 z (List.mem_cons_of_mem _ hz) y hy
    ·rw [List.mem_singleton.1 hy]
     exact Ne.symm (h3 z hz)
theorem fine_ok (a : Alt) : shape_fine a = okAlt a := by
 unfold shape_fine okAlt ref07_size ref07_wall
 simp only [Bool.and_assoc]
theorem shape_Check_eq (s : Shape) : shape_Check s = ref07_Check s := by
 unfold shape_Check ref07_Check
 by_cases h3 : s.kind = 3
 ·simp only [h3, beq_self_eq_true, cond_true, shape_Check_k1, shape_fine, ref07_size, ref07_wall]
  have e1 : ((3 : Int) == 1) = false := rfl
  have e2 : ((3 : Int) == 2) = false := rfl
  simp only [e1, e2, cond_false]
  have e0 : ((s.alts.length : Int) == 0) = !(decide ((s.alts.length : Int) > 0)) := by rw [Bool.eq_iff_iff]; simp only [beq_iff_eq, Bool.not_eq_true', decide_eq_false_iff_not]; omega
  rw [e0]
  congr 1
  grind
 have e3 : (s.kind == 3) = false := by simpa using h3
 obtain ⟨q1, q2⟩ := g2_eq s s.alts 0 (by simp)
 have ap := apart_iff s.alts s.alts 0 (by simp)
 simp only [e3, cond_false]
 by_cases h2 : s.kind = 2
 ·simp only [h2, beq_self_eq_true, cond_true]
  have e1 : ((2 : Int) == 1) = false := rfl
  simp only [e1, cond_false, ref07_Check_k1, shape_Check_k1, any_Alt, fine_ok]
  have e4 : ((((((((s.min == 0) && (s.max == 0)) && (s.wall == 0)) && (decide ((s.alts.length : Int) >= 1))) && (decide ((s.alts.length : Int) <= 6))) && (shape_apart s.alts)) && (!(s.alts.any (fun (y : Alt) => (!(okAlt y))))))) = (!(((((decide ((s.alts.length : Int) < 1)) || (decide ((s.alts.length : Int) > 6))) || (s.min != 0)) || (s.max != 0)) || (s.wall != 0)) && ((shape_apart s.alts) && (!(s.alts.any (fun (y : Alt) => (!(okAlt y))))))) := by grind
  have e5 : ((shape_apart s.alts) && (!(s.alts.any (fun (y : Alt) => (!(okAlt y)))))) = (ref07_Check_g2 s s.alts 0 == 0) := by
   rw [Bool.eq_iff_iff, beq_iff_eq, q1, Bool.and_eq_true]
   unfold shape_apart
   rw [ap]
   simp
   grind
  rw [e4, e5]
  cases (((((decide ((s.alts.length : Int) < 1)) || (decide ((s.alts.length : Int) > 6))) || (s.min != 0)) || (s.max != 0)) || (s.wall != 0)) with
  | true => rfl
  | false =>
   rcases q2 with h | h <;> rw [h] <;> rfl
 have e2 : (s.kind == 2) = false := by simpa using h2
 by_cases h1 : s.kind = 1
 ·have e6 : ((2 : Int) == 1) = false := rfl
  simp only [h1, beq_self_eq_true, cond_true]
  have e7 : ((1 : Int) == 2) = false := rfl
  have e8 : ((1 : Int) != 1) = false := rfl
  simp only [e7, e8, cond_false, ref07_Check_k1, shape_Check_k1, fine_ok]
  match hm : s.alts with
  | [] => rw [hm] at *; cases (s.min == 0) <;> cases (s.max == 0) <;> cases (s.wall == 0) <;> rfl
  | [x] =>
   rw [hm] at q1 q2
   have e9 : okAlt x = (ref07_Check_g2 s [x] 0 == 0) := by
    rw [Bool.eq_iff_iff, beq_iff_eq, q1]
    simp
   show (bif !(((((s.min == 0) && (s.max == 0)) && (s.wall == 0)) && true) && okAlt x) then (70 : Int) else 0) = bif ((((false || false) || (s.min != 0)) || (s.max != 0)) || (s.wall != 0)) then 70 else ref07_Check_g2 s [x] 0
   rw [e9]
   unfold bne
   cases (s.min == 0) <;> cases (s.max == 0) <;> cases (s.wall == 0) <;> first | rfl | (rcases q2 with h | h <;> rw [h] <;> rfl)
  | x :: y :: r =>
   have l1 : ((((x :: y :: r).length : Nat) : Int) == 1) = false := by simp; omega
   have l2 : decide ((((x :: y :: r).length : Nat) : Int) > 1) = true := by simp; omega
   rw [l1, l2]
   simp
 have e1 : (s.kind == 1) = false := by simpa using h1
 have e1' : (s.kind != 1) = true := by simpa using h1
 rw [e1, e2, e1']
 rfl
end Go.Proofs.YtigcpfbpmnppcaaGreatDoor
namespace Go.Proofs.YtigcpfbpmnppcaaGreatDoor
set_option linter.unusedSimpArgs false
set_option linter.unusedVariables false
open Go.Fw
theorem cnt1 (n : Nat) (hn : n < 18446744073709551616) : wu64 ((wu64 (BitVec.ofInt 64 (Int.fdiv (n : Int) (2 ^ (min (Int.toNat 1) 64))) &&& BitVec.ofInt 64 6148914691236517205).toNat) + (wu64 (BitVec.ofInt 64 (n : Int) &&& BitVec.ofInt 64 6148914691236517205).toNat)) = ((sw1 n : Nat) : Int) := by
 have e1 : Int.fdiv (n : Int) (2 ^ (min (Int.toNat 1) 64)) = ((n / 2 ^ 1 : Nat) : Int) := nat_shr n 1 (by decide)
 have h1 : n / 2 ^ 1 < 18446744073709551616 := by omega
 have e2 : wu64 (BitVec.ofInt 64 ((n / 2 ^ 1 : Nat) : Int) &&& BitVec.ofInt 64 6148914691236517205).toNat = (((n / 2 ^ 1) &&& 6148914691236517205 : Nat) : Int) := nat_and (c := 6148914691236517205) h1 (by decide)
 have e3 : wu64 (BitVec.ofInt 64 (n : Int) &&& BitVec.ofInt 64 6148914691236517205).toNat = ((n &&& 6148914691236517205 : Nat) : Int) := nat_and (c := 6148914691236517205) hn (by decide)
 have l1 := Nat.and_le_right (n := n / 2 ^ 1) (m := 6148914691236517205)
 have l2 := Nat.and_le_right (n := n) (m := 6148914691236517205)
 rw [e1, e2, e3]
 exact nat_sum (by omega)
theorem cnt2 (n : Nat) (hn : n < 18446744073709551616) : wu64 ((wu64 (BitVec.ofInt 64 (Int.fdiv (n : Int) (2 ^ (min (Int.toNat 2) 64))) &&& BitVec.ofInt 64 3689348814741910323).toNat) + (wu64 (BitVec.ofInt 64 (n : Int) &&& BitVec.ofInt 64 3689348814741910323).toNat)) = ((sw2 n : Nat) : Int) := by
 have e1 : Int.fdiv (n : Int) (2 ^ (min (Int.toNat 2) 64)) = ((n / 2 ^ 2 : Nat) : Int) := nat_shr n 2 (by decide)
 have h1 : n / 2 ^ 2 < 18446744073709551616 := by omega
 have e2 : wu64 (BitVec.ofInt 64 ((n / 2 ^ 2 : Nat) : Int) &&& BitVec.ofInt 64 3689348814741910323).toNat = (((n / 2 ^ 2) &&& 3689348814741910323 : Nat) : Int) := nat_and (c := 3689348814741910323) h1 (by decide)
 have e3 : wu64 (BitVec.ofInt 64 (n : Int) &&& BitVec.ofInt 64 3689348814741910323).toNat = ((n &&& 3689348814741910323 : Nat) : Int) := nat_and (c := 3689348814741910323) hn (by decide)
 have l1 := Nat.and_le_right (n := n / 2 ^ 2) (m := 3689348814741910323)
 have l2 := Nat.and_le_right (n := n) (m := 3689348814741910323)
 rw [e1, e2, e3]
 exact nat_sum (by omega)
theorem cnt3 (n : Nat) (hn : n <= 7378697629483820646) : wu64 (BitVec.ofInt 64 (wu64 ((Int.fdiv (n : Int) (2 ^ (min (Int.toNat 4) 64))) + (n : Int))) &&& BitVec.ofInt 64 1085102592571150095).toNat = ((sw3 n : Nat) : Int) := by
 have e1 : Int.fdiv (n : Int) (2 ^ (min (Int.toNat 4) 64)) = ((n / 2 ^ 4 : Nat) : Int) := nat_shr n 4 (by decide)
 rw [e1, nat_sum (by omega)]
 exact nat_and (c := 1085102592571150095) (by omega) (by decide)
theorem count_eq {s : Int} (hs : U64 s) : nodeset_Count s = ((popN 64 s.toNat : Nat) : Int) := by
 obtain ⟨n, rfl⟩ : ∃ n : Nat, s = (n : Int) := ⟨s.toNat, by unfold U64 at hs; omega⟩
 have hn : n < 18446744073709551616 := by unfold U64 at hs; omega
 have b1 : sw1 n < 18446744073709551616 := by
  unfold sw1
  have l1 := Nat.and_le_right (n := n / 2 ^ 1) (m := 6148914691236517205)
  have l2 := Nat.and_le_right (n := n) (m := 6148914691236517205)
  omega
 have b2 : sw2 (sw1 n) <= 7378697629483820646 := by
  unfold sw2
  have l1 := Nat.and_le_right (n := sw1 n / 2 ^ 2) (m := 3689348814741910323)
  have l2 := Nat.and_le_right (n := sw1 n) (m := 3689348814741910323)
  omega
 obtain ⟨a, b, c, d, e, f, g, h, hx, ha, hb, hc, hd, he, hf, hg, hh, hp⟩ := sw_pop hn
 unfold nodeset_Count bits_OnesCount64 oc3 oc2 oc1
 rw [cnt1 n hn, cnt2 (sw1 n) b1, cnt3 (sw2 (sw1 n)) b2, hx, Int.toNat_natCast, hp]
 obtain ⟨q0, q1, q2, q3⟩ := sum_low ha hb hc hd he hf hg hh _ _ _ rfl rfl rfl
 generalize hX : by8 a b c d e f g h = X at *
 have hXlt : X < 9223372036854775808 := by omega
 have s8 : Int.fdiv (X : Int) (2 ^ (min (Int.toNat 8) 64)) = ((X / 256 : Nat) : Int) := nat_shr X 8 (by decide)
 rw [s8, nat_sum (by omega)]
 generalize hY : X + X / 256 = Y at *
 have s16 : Int.fdiv (Y : Int) (2 ^ (min (Int.toNat 16) 64)) = ((Y / 65536 : Nat) : Int) := nat_shr Y 16 (by decide)
 rw [s16, nat_sum (by omega)]
 generalize hZ : Y + Y / 65536 = Z at *
 have s32 : Int.fdiv (Z : Int) (2 ^ (min (Int.toNat 32) 64)) = ((Z / 4294967296 : Nat) : Int) := nat_shr Z 32 (by decide)
 rw [s32, nat_sum (by omega)]
 generalize hW : Z + Z / 4294967296 = W at *
 have hw : w64 (W : Int) = (W : Int) := wr (by omega)
 rw [hw]
 have hm : ((BitVec.ofInt 64 (W : Int) &&& BitVec.ofInt 64 127).toNat : Int) = ((W &&& 127 : Nat) : Int) := by
  have := nat_and (n := W) (c := 127) (by omega) (by decide)
  rw [wu64_bv] at this
  exact this
 rw [hm, Nat.and_two_pow_sub_one_eq_mod W 7]
 show w64 (((W % 128 : Nat)) : Int) = _
 rw [q0]
 exact wr (by omega)
theorem list_len : ∀ (m K s : Nat) (out : List Int) (n : Nat), s < m -> s < 2 ^ K -> s < 18446744073709551616 -> (ref09_List_g1 m (s : Int) out n).2.1.length = out.length + popN K s
 | 0, _, _, _, _, h, _, _ => absurd h (by omega)
 | m + 1, K, s, out, n, hm, hK, hs => by
  rw [ref09_List_g1]
  rcases Nat.eq_zero_or_pos s with h | h
  ·subst h
   have hz : ∀ K, popN K 0 = 0 := fun K => by induction K with
    | zero => rfl
    | succ K ih => simp [popN, ih]
   rw [hz]
   rfl
  ·obtain ⟨K, rfl⟩ : ∃ k, K = k + 1 := ⟨K - 1, by
    rcases K with _ | K
    ·simp at hK; omega
    ·rfl⟩
   rw [decide_eq_true (show (s : Int) > 0 by omega)]
   have e1 : Int.tmod (s : Int) 2 = ((s % 2 : Nat) : Int) := rfl
   have e2 : Int.tdiv (s : Int) 2 = ((s / 2 : Nat) : Int) := rfl
   have e3 : wu64 ((s / 2 : Nat) : Int) = ((s / 2 : Nat) : Int) := wu64_id ⟨by omega, by omega⟩
   rw [e1, e2, e3, popN]
   rw [Nat.pow_succ] at hK
   simp only [cond_true]
   rcases Nat.mod_two_eq_zero_or_one s with hb | hb
   ·rw [hb]
    show (ref09_List_g1 m ((s / 2 : Nat) : Int) out (n + 1)).2.1.length = _
    rw [list_len m K (s / 2) out (n + 1) (by omega) (by omega) (by omega)]
    omega
   ·rw [hb]
    show (ref09_List_g1 m ((s / 2 : Nat) : Int) (out ++ [(n : Int)]) (n + 1)).2.1.length = _
    rw [list_len m K (s / 2) _ (n + 1) (by omega) (by omega) (by omega)]
    simp
    omega
theorem count_list {s : Int} (hs : U64 s) : nodeset_Count s = ((ref09_List s).length : Int) := by
 rw [count_eq hs]
 obtain ⟨n, rfl⟩ : ∃ n : Nat, s = (n : Int) := ⟨s.toNat, by unfold U64 at hs; omega⟩
 unfold ref09_List ref09_List_k1
 have hn : n < 18446744073709551616 := by unfold U64 at hs; omega
 rw [Int.toNat_natCast, list_len (n + 1) 64 n [] 0 (by omega) (by rw [pow64]; exact hn) hn]
 simp
end Go.Proofs.YtigcpfbpmnppcaaGreatDoor
namespace Go.Proofs.YtigcpfbpmnppcaaGreatDoor
set_option linter.unusedSimpArgs false
set_option linter.unusedVariables false
open Go.Fw
theorem ref_options_loop (s : Shape) (hw : w64 (s.max - s.min) = s.max - s.min) (h1 : 1 <= s.min) (h2 : s.min <= s.max) (h3 : s.max <= 48) : ∀ (m : Nat) (out : List Alt) (i : Nat), i <= (s.max - s.min + 1).toNat -> (s.max - s.min + 1).toNat - i < m ->
  (ref07_Options_g1 s m out i).1 = out ++ (List.range' i ((s.max - s.min + 1).toNat - i)).map fun (i : Nat) => (⟨s.max - (i : Int), s.wall⟩ : Alt)
 | 0, _, _, _, h => absurd h (by omega)
 | m + 1, out, i, hi, hm => by
  rw [ref07_Options_g1, hw]
  rcases Nat.lt_or_ge i (s.max - s.min + 1).toNat with h | h
  ·have e : (s.max - s.min + 1).toNat - i = ((s.max - s.min + 1).toNat - (i + 1)) + 1 := by omega
   have e2 : w64 (s.max - (i : Int)) = s.max - (i : Int) := wr (by omega)
   rw [decide_eq_true (show (i : Int) <= s.max - s.min by omega), e2]
   simp only [cond_true]
   rw [ref_options_loop s hw h1 h2 h3 m _ (i + 1) (by omega) (by omega), e, List.range'_succ, List.map_cons, List.append_assoc]
   rfl
  ·rw [decide_eq_false (show ¬ (i : Int) <= s.max - s.min by omega), show (s.max - s.min + 1).toNat - i = 0 by omega]
   simp
theorem options_eq (s : Shape) : shape_Options s = ref07_Options s := by
 unfold shape_Options ref07_Options
 rw [shape_Check_eq]
 cases hc : (ref07_Check s != 0) with
 | true => rfl
 | false =>
  simp only [cond_false]
  cases hk : (s.kind == 3) with
  | false =>
   have : (s.kind != 3) = true := by unfold bne; rw [hk]; rfl
   rw [this]
   rfl
  | true =>
   have hk' : (s.kind != 3) = false := by unfold bne; rw [hk]; rfl
   obtain ⟨h1, h2, h3, h4⟩ := ref07_Check_mal hc hk'
   have h0 : s.alts = [] := by
    have hk3 : s.kind = 3 := by simpa using hk
    have hz : ref07_Check s = 0 := by simpa using hc
    unfold ref07_Check at hz
    simp only [hk3, beq_self_eq_true, cond_true] at hz
    cases hq : (((((decide ((s.alts.length : Int) > 0)) || (!(ref07_size s.min))) || (!(ref07_size s.max))) || (decide (s.max < s.min))) || (!(ref07_wall s.wall))) with
    | true => rw [hq] at hz; cases hz
    | false =>
     have := (or_f (or_f (or_f (or_f hq).1).1).1).1
     have hl : s.alts.length = 0 := by have := of_decide_eq_false this; omega
     exact List.eq_nil_of_length_eq_zero hl
   rw [hk', h0]
   simp only [cond_true, cond_false, List.nil_append, ref07_Options_k1, shape_sizes]
   rw [ref_options_loop s h4 h1 h2 h3 _ [] 0 (by omega) (by omega), List.range_eq_range']
   rfl
theorem allows_loop (s : Shape) (c n : Int) : ∀ (l : List Alt) (i : Nat), ref07_Allows_g1 s c n l i = true ↔ ∃ (k : Nat) (x : Alt), l[k]? = some x ∧ x.nodes = n ∧ (((i + k : Nat) : Int) = c ∨ s.kind = 3)
 | [], i => ⟨fun h => (by cases h), fun ⟨k, x, h, _⟩ => by simp at h⟩
 | y :: r, i => by
  rw [ref07_Allows_g1]
  cases hc : ((y.nodes == n) && (((i : Int) == c) || (s.kind == 3))) with
  | true =>
   simp only [Bool.and_eq_true, Bool.or_eq_true, beq_iff_eq] at hc
   exact ⟨fun _ => ⟨0, y, rfl, hc.1, by simpa using hc.2⟩, fun _ => rfl⟩
  | false =>
   simp only [cond_false]
   rw [allows_loop s c n r (i + 1)]
   constructor
   ·rintro ⟨k, x, h1, h2, h3⟩
    exact ⟨k + 1, x, by simpa using h1, h2, by rw [show i + (k + 1) = i + 1 + k by omega]; exact h3⟩
   ·rintro ⟨k, x, h1, h2, h3⟩
    rcases k with _ | k
    ·simp at h1
     subst h1
     have : ((y.nodes == n) && (((i : Int) == c) || (s.kind == 3))) = true := by
      simp only [Bool.and_eq_true, Bool.or_eq_true, beq_iff_eq]
      exact ⟨h2, by simpa using h3⟩
     rw [hc] at this
     cases this
    ·exact ⟨k, x, by simpa using h1, h2, by rw [show i + 1 + k = i + (k + 1) by omega]; exact h3⟩
theorem allows_eq (s : Shape) (c n : Int) : shape_Allows s c n = ref07_Allows s c n := by
 unfold shape_Allows ref07_Allows
 rw [options_eq]
 cases hb : ((decide (c < 0)) || (decide (c >= ((ref07_Options s).length : Int)))) with
 | true => rfl
 | false =>
  obtain ⟨h1, h2⟩ := or_f hb
  have h1' := of_decide_eq_false h1
  have h2' := of_decide_eq_false h2
  simp only [cond_false]
  obtain ⟨k, rfl⟩ : ∃ k : Nat, c = (k : Int) := ⟨c.toNat, by omega⟩
  have hk : k < (ref07_Options s).length := by omega
  rw [Bool.eq_iff_iff, allows_loop]
  cases h3 : (s.kind == 3) with
  | false =>
   have h3' : s.kind ≠ 3 := by simpa using h3
   simp only [cond_false, beq_iff_eq, Int.toNat_natCast]
   have hg : (ref07_Options s)[k]? = some ((ref07_Options s).getD k Alt.zero) := by simp [List.getD, List.getElem?_eq_getElem hk]
   constructor
   ·intro h
    exact ⟨k, _, hg, h, .inl (by simp)⟩
   ·rintro ⟨j, x, hx, hn, hj⟩
    have : j = k := by
     rcases hj with hj | hj
     ·omega
     ·exact absurd hj h3'
    subst this
    rw [hg] at hx
    cases hx
    exact hn
  | true =>
   have h3' : s.kind = 3 := by simpa using h3
   simp only [cond_true, Bool.and_eq_true, decide_eq_true_eq]
   cases hc : (shape_Check s != 0) with
   | true =>
    rw [← options_eq] at hk
    unfold shape_Options at hk
    rw [hc] at hk
    exact absurd hk (by simp)
   | false =>
    obtain ⟨q1, q2, q3⟩ := shape_Check_mal hc h3
    have h0 : shape_Options s = s.alts ++ shape_sizes s.min s.max s.wall := by unfold shape_Options; rw [hc, h3]; rfl
    have ha : s.alts = [] := by
     have hz : shape_Check s = 0 := by simpa using hc
     unfold shape_Check at hz
     simp only [h3'] at hz
     have e1 : ((3 : Int) == 1) = false := rfl
     have e2 : ((3 : Int) == 2) = false := rfl
     simp only [e1, e2, beq_self_eq_true, cond_false, cond_true, shape_Check_k1] at hz
     cases hq : (((((s.alts.length : Int) == 0) && (decide (s.min <= s.max))) && (shape_fine (⟨s.min, s.wall⟩ : Alt))) && (decide (s.max <= 48))) with
     | false => rw [hq] at hz; cases hz
     | true =>
      simp only [Bool.and_eq_true, beq_iff_eq] at hq
      exact List.eq_nil_of_length_eq_zero (by have := hq.1.1.1; omega)
    rw [← options_eq, h0, ha, List.nil_append]
    unfold shape_sizes
    constructor
    ·rintro ⟨hl, hu⟩
     exact ⟨(s.max - n).toNat, ⟨n, s.wall⟩, by
      rw [List.getElem?_map, List.getElem?_range (by omega)]
      simp
      omega, rfl, .inr h3'⟩
    ·rintro ⟨j, x, hx, hn, _⟩
     rw [List.getElem?_map] at hx
     rcases Nat.lt_or_ge j (s.max - s.min + 1).toNat with hj | hj
     ·rw [List.getElem?_range hj] at hx
      simp at hx
      subst hx
      simp only at hn
      omega
     ·rw [List.getElem?_eq_none (by simpa using hj)] at hx
      simp at hx
theorem class_eq (r : Int) : runes_Class r = ref04_Class r := by
 unfold runes_Class ref04_Class
 grind
theorem runes_Check_eq (s : ByteArray) : runes_Check s = ref04_Check s := by
 have : ∀ (l : List (Nat × Int)) (n : Nat), runes_Check_g1 l n = ref04_Check_g1 l n := by
  intro l
  induction l with
  | nil => exact fun _ => rfl
  | cons x r ih =>
   intro n
   rw [runes_Check_g1, ref04_Check_g1, class_eq, ih]
 exact this _ 0
theorem name_eq (s : ByteArray) : cmd_name s = ref08_Name s := by
 unfold cmd_name ref08_Name cmd_within
 rw [runes_Check_eq, Bool.and_assoc]
theorem waits_inner (l : List Dep) (i : Nat) (x : Dep) (hi : i <= l.length) : ∀ (m k : Nat), k <= i -> i - k < m -> (ref08_waits_g2 l i x m k).isLeft = ((l.take i).drop k).any (fun y => y.job == x.job) ∧ ∀ v, ref08_waits_g2 l i x m k = Sum.inl v -> v = false
 | 0, _, _, h => absurd h (by omega)
 | m + 1, k, hk, hm => by
  rw [ref08_waits_g2]
  rcases Nat.lt_or_ge k i with h | h
  ·rw [decide_eq_true (show (k : Int) < (i : Int) by omega)]
   have hkl : k < (l.take i).length := by rw [List.length_take]; omega
   have hd : (l.take i).drop k = (l.getD k Dep.zero) :: (l.take i).drop (k + 1) := by
    rw [List.drop_eq_getElem_cons hkl]
    congr 1
    simp [List.getD, List.getElem?_eq_getElem (show k < l.length by omega)]
   rw [hd, List.any_cons]
   simp only [cond_true]
   cases ((l.getD k Dep.zero).job == x.job) with
   | true => exact ⟨rfl, fun v h => by cases h; rfl⟩
   | false => exact waits_inner l i x hi m (k + 1) (by omega) (by omega)
  ·rw [decide_eq_false (show ¬ (k : Int) < (i : Int) by omega)]
   have : (l.take i).drop k = [] := List.drop_eq_nil_of_le (by rw [List.length_take]; omega)
   rw [this]
   exact ⟨rfl, fun v h => by cases h⟩
theorem waits_go (l : List Dep) : ∀ (r : List Dep) (i : Nat), r = l.drop i -> i + r.length = l.length -> (l.length <= 4 -> cmd_deps_g1 l r i = ref08_waits_g1 l r i)
 | [], i, _, _, h => by
  rw [cmd_deps_g1, ref08_waits_g1]
  exact decide_eq_true (by omega)
 | x :: r, i, hr, hlen, h => by
  simp only [List.length_cons] at hlen
  have hr' : r = l.drop (i + 1) := by rw [← List.drop_drop, ← hr]; rfl
  have ih := waits_go l r (i + 1) hr' (by omega) h
  obtain ⟨w1, w2⟩ := waits_inner l i x (by omega) ((Int.toNat ((i : Int) - (0 : Int))) + 1) 0 (by omega) (by omega)
  rw [cmd_deps_g1, ref08_waits_g1, any_Dep, ih]
  have e : (!(cmd_within x.how 1 3) || !(cmd_id x.job)) = ((!(ref08_in x.how 1 3)) || (!(ref08_in x.job 1 99999))) := rfl
  rw [e]
  rw [List.drop_zero] at w1
  cases ((!(ref08_in x.how 1 3)) || (!(ref08_in x.job 1 99999))) with
  | true => rfl
  | false =>
   rw [Bool.false_or]
   simp only [cond_false]
   cases hg : ref08_waits_g2 l i x ((Int.toNat ((i : Int) - (0 : Int))) + 1) 0 with
   | inl v =>
    have hv := w2 v hg
    subst hv
    rw [hg] at w1
    rw [← w1]
    rfl
   | inr v =>
    rw [hg] at w1
    rw [← w1]
    rfl
theorem deps_long (l : List Dep) (h : 4 < l.length) : ∀ (r : List Dep) (i : Nat), cmd_deps_g1 l r i = false
 | [], i => decide_eq_false (by omega)
 | x :: r, i => by
  rw [cmd_deps_g1, deps_long l h r]
  cases (((!(cmd_within x.how 1 3)) || (!(cmd_id x.job))) || (slices_ContainsFunc_Dep (List.take i l) (fun (y : Dep) => (y.job == x.job)))) <;> rfl
theorem deps_eq (l : List Dep) : cmd_deps l = ref08_waits l := by
 unfold cmd_deps ref08_waits
 rcases Nat.lt_or_ge 4 l.length with h | h
 ·rw [deps_long l h, decide_eq_true (by omega)]
  rfl
 ·rw [decide_eq_false (by omega)]
  exact waits_go l l 0 (by simp) (by omega) h
end Go.Proofs.YtigcpfbpmnppcaaGreatDoor
namespace Go.Proofs.YtigcpfbpmnppcaaGreatDoor
set_option linter.unusedSimpArgs false
set_option linter.unusedVariables false
open Go.Fw
def lowB (x : Int) : Int := if 65 <= x ∧ x <= 90 then x + 32 else x
theorem wu8_id {n : Int} (h : 0 <= n ∧ n < 256) : wu8 n = n := by
 show n % 256 = n
 omega
theorem lower_go (s : ByteArray) : ∀ (m i : Nat) (c : List Int), c.length = s.size -> s.size - i < m -> (∀ x ∈ c, 0 <= x ∧ x < 256) -> runes_Lower_g1 s m i c = c.take i ++ (c.drop i).map lowB
 | 0, _, _, _, h, _ => absurd h (by omega)
 | m + 1, i, c, hl, hm, hb => by
  rw [runes_Lower_g1]
  rcases Nat.lt_or_ge i s.size with h | h
  ·have hi : i < c.length := by omega
   have hg : c.getD i 0 = c[i] := by simp [List.getD, List.getElem?_eq_getElem hi]
   have hx := hb _ (List.getElem_mem hi)
   rw [decide_eq_true (show (i : Int) < (s.size : Int) by omega), hg]
   simp only [cond_true]
   have hd : c.drop i = c[i] :: c.drop (i + 1) := List.drop_eq_getElem_cons hi
   cases hc : ((decide (c[i] >= 65)) && (decide (c[i] <= 90))) with
   | true =>
    simp only [Bool.and_eq_true, decide_eq_true_eq] at hc
    have hv : wu8 ((wu8 (c[i] + 97)) - 65) = lowB c[i] := by
     rw [wu8_id (n := c[i] + 97) (by omega), wu8_id (by omega), lowB, if_pos hc]
     omega
    rw [hv]
    simp only [cond_true]
    rw [lower_go s m (i + 1) _ (by simpa using hl) (by omega) ?_]
    ·rw [hd, List.map_cons]
     have e1 : (c.set i (lowB c[i])).take (i + 1) = c.take i ++ [lowB c[i]] := by
      rw [List.take_add_one]
      simp [List.take_set_of_le, hi]
     have e2 : (c.set i (lowB c[i])).drop (i + 1) = c.drop (i + 1) := by
      rw [List.drop_set_of_lt (by omega)]
     rw [e1, e2]
     simp
    ·intro x hx'
     rcases List.mem_or_eq_of_mem_set hx' with h' | h'
     ·exact hb x h'
     ·rw [h', lowB, if_pos hc]; omega
   | false =>
    have hv : lowB c[i] = c[i] := by
     rw [lowB, if_neg]
     intro hq
     rw [decide_eq_true hq.1, decide_eq_true hq.2] at hc
     cases hc
    simp only [cond_false]
    rw [lower_go s m (i + 1) c hl (by omega) hb, hd, List.map_cons, hv, List.take_add_one, List.getElem?_eq_getElem hi, List.append_assoc]
    rfl
  ·rw [decide_eq_false (show ¬ (i : Int) < (s.size : Int) by omega)]
   simp only [cond_false]
   rw [List.drop_eq_nil_of_le (by omega), List.take_of_length_le (by omega)]
   simp
theorem bytes_range (s : ByteArray) : ∀ x ∈ bytesOf s, 0 <= x ∧ x < 256 := by
 intro x hx
 unfold bytesOf at hx
 obtain ⟨b, _, rfl⟩ := List.mem_map.1 hx
 have := b.toNat_lt
 omega
theorem lower_run (s : ByteArray) : runes_Lower s = bytesStr ((bytesOf s).map lowB) := by
 unfold runes_Lower runes_Lower_k1
 rw [lower_go s _ 0 _ (bytesOf_length s) (by omega) (bytes_range s)]
 rfl
theorem lower_ref_go (s : ByteArray) : ∀ (m : Nat) (out : List Int) (i : Nat), i <= s.size -> s.size - i < m -> (ref04_Lower_g1 s m out i).1 = out ++ ((bytesOf s).drop i).map lowB
 | 0, _, _, _, h => absurd h (by omega)
 | m + 1, out, i, hi, hm => by
  rw [ref04_Lower_g1]
  rcases Nat.lt_or_ge i s.size with h | h
  ·have hi' : i < (bytesOf s).length := by rw [bytesOf_length]; exact h
   have hd : (bytesOf s).drop i = (bytesOf s)[i] :: (bytesOf s).drop (i + 1) := List.drop_eq_getElem_cons hi'
   have hx := bytes_range s _ (List.getElem_mem hi')
   have hg : ((s.data.toList.getD i 0).toNat : Int) = (bytesOf s)[i] := by
    have hq : i < s.data.toList.length := by simpa [bytesOf] using hi'
    simp [bytesOf, List.getD, List.getElem?_eq_getElem hq]
   rw [decide_eq_true (show (i : Int) < (s.size : Int) by omega), hg, hd, List.map_cons]
   simp only [cond_true]
   cases hc : ((decide ((bytesOf s)[i] > 64)) && (decide ((bytesOf s)[i] < 91))) with
   | true =>
    simp only [Bool.and_eq_true, decide_eq_true_eq] at hc
    have hv : lowB (bytesOf s)[i] = (bytesOf s)[i] + 32 := by rw [lowB, if_pos (by omega)]
    rw [wu8_id (n := (bytesOf s)[i] + 32) (by omega), hv]
    simp only [cond_true]
    rw [lower_ref_go s m _ (i + 1) (by omega) (by omega)]
    simp
   | false =>
    have hv : lowB (bytesOf s)[i] = (bytesOf s)[i] := by
     rw [lowB, if_neg]
     intro hq
     rw [decide_eq_true (show (bytesOf s)[i] > 64 by omega), decide_eq_true (show (bytesOf s)[i] < 91 by omega)] at hc
     cases hc
    rw [hv]
    simp only [cond_false]
    rw [lower_ref_go s m _ (i + 1) (by omega) (by omega)]
    simp
  ·rw [decide_eq_false (show ¬ (i : Int) < (s.size : Int) by omega)]
   simp only [cond_false]
   rw [List.drop_eq_nil_of_le (by rw [bytesOf_length]; omega)]
   simp
theorem lower_ref (s : ByteArray) : ref04_Lower s = bytesStr ((bytesOf s).map lowB) := by
 unfold ref04_Lower ref04_Lower_k1
 rw [lower_ref_go s _ [] 0 (by omega) (by omega)]
 rfl
theorem lower_eq (s : ByteArray) : runes_Lower s = ref04_Lower s := by rw [lower_run, lower_ref]
def lineOf (s : ByteArray) : List Int := (runeList s).map (·.2)
theorem runes_line (s : ByteArray) : ref05_Runes s = lineOf s := by
 have : ∀ (l : List (Nat × Int)) (out : List Int), ref05_Runes_g1 l out = out ++ l.map (·.2) := by
  intro l
  induction l with
  | nil => intro out; rw [ref05_Runes_g1]; simp
  | cons x r ih => intro out; rw [ref05_Runes_g1, ih]; simp
 unfold ref05_Runes ref05_Runes_k1 lineOf
 rw [this]
 simp
theorem tokens_line (s : ByteArray) (b : ByteArray) : ∀ (l : List (Nat × Int)) (c : LexReader), lex_Tokens_g1 b l c = { c with line := c.line ++ l.map (·.2) }
 | [], c => by rw [lex_Tokens_g1]; simp
 | x :: r, c => by rw [lex_Tokens_g1, tokens_line s b r]; simp
theorem line_len (s : ByteArray) : (lineOf s).length <= s.size := by
 have := ref05_Runes_len s
 rw [runes_line] at this
 exact this
theorem while_go (is : Int -> Bool) (L : List Int) (hL : L.length <= 400) : ∀ (m a : Nat) (bad e : Int), a <= L.length -> L.length - a < m ->
  lex_reader_while_g1 is m ⟨L, (a : Int), bad, e⟩ = ⟨L, ((a + ((L.drop a).takeWhile is).length : Nat) : Int), bad, e⟩
 | 0, _, _, _, _, h => absurd h (by omega)
 | m + 1, a, bad, e, ha, hm => by
  rw [lex_reader_while_g1]
  simp only [Int.toNat_natCast]
  rcases Nat.lt_or_ge a L.length with h | h
  ·have hg : L.getD a 0 = L[a] := by simp [List.getD, List.getElem?_eq_getElem h]
   rw [decide_eq_true (show (a : Int) < (L.length : Int) by omega), hg, List.drop_eq_getElem_cons h, List.takeWhile_cons]
   cases is L[a] with
   | true =>
    have hw : w64 ((a : Int) + 1) = ((a + 1 : Nat) : Int) := wr (by omega)
    simp only [Bool.true_and, cond_true, if_true]
    rw [hw, while_go is L hL m (a + 1) bad e (by omega) (by omega), List.length_cons]
    congr 2
    omega
   | false => simp
  ·rw [decide_eq_false (show ¬ (a : Int) < (L.length : Int) by omega), List.drop_eq_nil_of_le h]
   simp
theorem take_run (is : Int -> Bool) (L : List Int) (a : Nat) : List.drop a (List.take (a + ((L.drop a).takeWhile is).length) L) = (L.drop a).takeWhile is := by
 rw [List.drop_take]
 have h : (L.drop a).takeWhile is <+: L.drop a := List.takeWhile_prefix is
 rw [Nat.add_sub_cancel_left]
 exact (List.prefix_iff_eq_take.1 h).symm
theorem while_eq (is : Int -> Bool) (L : List Int) (hL : L.length <= 400) (a : Nat) (bad e : Int) (ha : a <= L.length) :
  lex_reader_while ⟨L, (a : Int), bad, e⟩ is = (runesBytes ((L.drop a).takeWhile is), ⟨L, ((a + ((L.drop a).takeWhile is).length : Nat) : Int), bad, e⟩) := by
 unfold lex_reader_while lex_reader_while_k1
 simp only
 rw [while_go is L hL _ a bad e ha (by omega)]
 simp only [Int.toNat_natCast]
 rw [take_run]
def blankP (y : Int) : Bool := ref04_Class y == 1
def wordP (y : Int) : Bool := (((ref04_Class y == 2) || (ref04_Class y == 3)) || (y == 45)) || (y == 95)
theorem blank_fn : (fun (y : Int) => lex_Tokens_g3 y ([1] : List Int) 0) = blankP := by
 funext y
 rw [lex_Tokens_g3, lex_Tokens_g3, class_eq]
 unfold blankP
 cases (ref04_Class y == 1) <;> rfl
theorem word_fn : (fun (y : Int) => lex_reader_word_g1 y ([2, 3] : List Int) 0) = wordP := by
 funext y
 rw [lex_reader_word_g1, lex_reader_word_g1, lex_reader_word_g1, class_eq]
 unfold wordP
 cases (ref04_Class y == 2) <;> cases (ref04_Class y == 3) <;> rfl
end Go.Proofs.YtigcpfbpmnppcaaGreatDoor
namespace Go.Proofs.YtigcpfbpmnppcaaGreatDoor
set_option linter.unusedSimpArgs false
set_option linter.unusedVariables false
open Go.Fw
theorem tokens_pre : ∀ (m : Nat) (out : List Token) (c : LexReader), (lex_Tokens_g2 m out c).1 = [] ∨ out <+: (lex_Tokens_g2 m out c).1
 | 0, _, _ => .inl rfl
 | m + 1, out, c => by
  rw [lex_Tokens_g2]
  cases (c.error == 0) with
  | false => exact .inl rfl
  | true =>
   simp only [cond_true]
   cases ((lex_reader_while c (fun (y : Int) => lex_Tokens_g3 y ([1] : List Int) 0)).2.at_ == (((lex_reader_while c (fun (y : Int) => lex_Tokens_g3 y ([1] : List Int) 0)).2.line).length : Int)) with
   | true => exact .inr (List.prefix_refl _)
   | false =>
    simp only [cond_false]
    rcases tokens_pre m (out ++ [{ (lex_reader_next ((lex_reader_while c (fun (y : Int) => lex_Tokens_g3 y ([1] : List Int) 0)).2)).1 with at_ := (lex_reader_while c (fun (y : Int) => lex_Tokens_g3 y ([1] : List Int) 0)).2.at_ }]) ((lex_reader_next ((lex_reader_while c (fun (y : Int) => lex_Tokens_g3 y ([1] : List Int) 0)).2)).2) with h | h
    ·exact .inl h
    ·exact .inr (List.IsPrefix.trans (List.prefix_append _ _) h)
def skipB (L : List Int) (a : Nat) : Nat := a + ((L.drop a).takeWhile blankP).length
theorem skipB_le (L : List Int) (a : Nat) (h : a <= L.length) : skipB L a <= L.length := by
 unfold skipB
 have := (List.takeWhile_prefix (l := L.drop a) blankP).length_le
 rw [List.length_drop] at this
 omega
theorem tokens_step (L : List Int) (hL : L.length <= 400) (m : Nat) (out : List Token) (a : Nat) (bad : Int) (ha : a <= L.length) :
  lex_Tokens_g2 (m + 1) out ⟨L, (a : Int), bad, 0⟩ = bif (((skipB L a : Nat) : Int) == (L.length : Int)) then (out, (L.length : Int), 0)
   else lex_Tokens_g2 m (out ++ [{ (lex_reader_next ⟨L, ((skipB L a : Nat) : Int), bad, 0⟩).1 with at_ := ((skipB L a : Nat) : Int) }]) (lex_reader_next ⟨L, ((skipB L a : Nat) : Int), bad, 0⟩).2 := by
 rw [lex_Tokens_g2]
 simp only [blank_fn]
 rw [while_eq blankP L hL a bad 0 ha]
 rfl
theorem next_kind (r : LexReader) (h : (runes_Class (r.line.getD (Int.toNat r.at_) 0) == 2) = false) : (lex_reader_next r).1.kind ≠ 1 := by
 unfold lex_reader_next lex_reader_count lex_reader_text lex_reader_text_k1
 rw [h]
 simp only [cond_false, Bool.cond_eq_ite]
 repeat' split
 all_goals first | (simp [Token.zero]; done) | simp_all
theorem next_word (L : List Int) (hL : L.length <= 400) (a : Nat) (bad : Int) (ha : a <= L.length) (h : (runes_Class (L.getD a 0) == 2) = true) :
  lex_reader_next ⟨L, (a : Int), bad, 0⟩ = (⟨1, ref04_Lower (runesBytes ((L.drop a).takeWhile wordP)), 0, 0⟩, ⟨L, ((a + ((L.drop a).takeWhile wordP).length : Nat) : Int), bad, 0⟩) := by
 unfold lex_reader_next lex_reader_word
 simp only [Int.toNat_natCast, word_fn]
 rw [h, while_eq wordP L hL a bad 0 ha, lower_eq]
 rfl
def Wd (s : ByteArray) : Prop := s.size <= 400 ∧ ∃ x r, lineOf s = x :: r ∧ ref04_Class x = 2 ∧ ref04_Lower (runesBytes ((lineOf s).takeWhile wordP)) = s ∧ skipB (lineOf s) ((lineOf s).takeWhile wordP).length = (lineOf s).length
theorem tokens_start (s : ByteArray) (h : s.size <= 400) : lex_Tokens s = lex_Tokens_g2 (2 * (lineOf s).length + 1 + 1) [] ⟨lineOf s, ((0 : Nat) : Int), 0, 0⟩ := by
 unfold lex_Tokens
 rw [decide_eq_false (show ¬ (s.size : Int) > 400 by omega), tokens_line s s]
 unfold lex_Tokens_k1
 show lex_Tokens_g2 _ [] ⟨[] ++ (runeList s).map (·.2), 0, 0, 0⟩ = _
 rw [List.nil_append]
 congr 1
theorem word_prog (s : ByteArray) : cmd_word s = true ↔ Wd s := by
 rcases Nat.lt_or_ge 400 s.size with hs | hs
 ·constructor
  ·intro h
   unfold cmd_word lex_Tokens at h
   rw [decide_eq_true (show (s.size : Int) > 400 by omega)] at h
   cases h
  ·rintro ⟨h, _⟩
   omega
 have hL : (lineOf s).length <= 400 := Nat.le_trans (line_len s) hs
 generalize hLd : lineOf s = L at *
 have e0 : lex_Tokens s = lex_Tokens_g2 (2 * L.length + 1 + 1) [] ⟨L, ((0 : Nat) : Int), 0, 0⟩ := by rw [tokens_start s hs, hLd]
 rw [tokens_step L hL (2 * L.length + 1) [] 0 0 (by omega)] at e0
 unfold Wd cmd_word
 rw [hLd]
 constructor
 ·intro h
  cases hc : (((lex_Tokens s).2.2 != 0) || ((((lex_Tokens s).1).length : Int) != 1)) || (!(((((lex_Tokens s).1).getD 0 Token.zero).kind == 1) && (((((lex_Tokens s).1).getD 0 Token.zero).text == s) && (((((lex_Tokens s).1).getD 0 Token.zero).num == 0) && ((((lex_Tokens s).1).getD 0 Token.zero).at_ == 0))))) with
  | true => rw [hc] at h; cases h
  | false =>
   obtain ⟨h1, h2⟩ := or_f hc
   obtain ⟨_, hlen⟩ := or_f h1
   have hleni : ((lex_Tokens s).1.length : Int) = 1 := by simpa using hlen
   replace hlen : (lex_Tokens s).1.length = 1 := by omega
   simp only [Bool.not_eq_false', Bool.and_eq_true, beq_iff_eq, bytes_beq] at h2
   obtain ⟨hk, ht, _, hat⟩ := h2
   cases hb : (((skipB L 0 : Nat) : Int) == (L.length : Int)) with
   | true =>
    rw [hb] at e0
    rw [e0] at hlen
    cases hlen
   | false =>
    rw [hb] at e0
    simp only [cond_false, List.nil_append] at e0
    have hpre := tokens_pre (2 * L.length + 1) [{ (lex_reader_next ⟨L, ((skipB L 0 : Nat) : Int), 0, 0⟩).1 with at_ := ((skipB L 0 : Nat) : Int) }] (lex_reader_next ⟨L, ((skipB L 0 : Nat) : Int), 0, 0⟩).2
    rw [← e0] at hpre
    rcases hpre with hpre | hpre
    ·rw [hpre] at hlen; cases hlen
    ·have hhead : (lex_Tokens s).1.getD 0 Token.zero = { (lex_reader_next ⟨L, ((skipB L 0 : Nat) : Int), 0, 0⟩).1 with at_ := ((skipB L 0 : Nat) : Int) } := by
      obtain ⟨q, hq⟩ := hpre
      rw [← hq]
      rfl
     rw [hhead] at hk ht hat
     have hz : skipB L 0 = 0 := by
      have : ((skipB L 0 : Nat) : Int) = 0 := hat
      omega
     rw [hz] at e0 hk ht hb
     have hcl : (runes_Class (L.getD 0 0) == 2) = true := by
      cases hcc : (runes_Class (L.getD 0 0) == 2) with
      | true => rfl
      | false => exact absurd hk (next_kind ⟨L, ((0 : Nat) : Int), 0, 0⟩ hcc)
     rw [next_word L hL 0 0 (by omega) hcl] at e0 ht
     simp only [List.drop_zero, Nat.zero_add] at e0 ht
     have hne : L.length ≠ 0 := by
      intro h0
      rw [h0] at hb
      simp at hb
     obtain ⟨x, r, hxr⟩ : ∃ x r, L = x :: r := by
      cases hcase : L with
      | nil => rw [hcase] at hne; exact absurd rfl hne
      | cons x r => exact ⟨x, r, rfl⟩
     refine ⟨hs, x, r, hxr, ?_, ht, ?_⟩
     ·rw [hxr] at hcl
      rw [class_eq] at hcl
      exact eq_of_beq hcl
     ·have hle : (L.takeWhile wordP).length <= L.length := (List.takeWhile_prefix wordP).length_le
      rw [show 2 * L.length + 1 = 2 * L.length + 1 from rfl, tokens_step L hL (2 * L.length) _ (L.takeWhile wordP).length 0 hle] at e0
      cases hb2 : (((skipB L (L.takeWhile wordP).length : Nat) : Int) == (L.length : Int)) with
      | true =>
       have := eq_of_beq hb2
       omega
      | false =>
       rw [hb2] at e0
       simp only [cond_false] at e0
       have hpre2 : ∀ o c, lex_Tokens s = lex_Tokens_g2 (2 * L.length) o c -> (lex_Tokens s).1 = [] ∨ o <+: (lex_Tokens s).1 := fun o c e => by rw [e]; exact tokens_pre _ _ _
       rcases hpre2 _ _ e0 with h' | h'
       ·rw [h'] at hlen; cases hlen
       ·have := h'.length_le
        rw [hlen] at this
        simp at this
 ·rintro ⟨_, x, r, hxr, hx, ht, hsk⟩
  have hcl : (runes_Class (L.getD 0 0) == 2) = true := by
   rw [hxr, class_eq]
   exact beq_iff_eq.2 hx
  have hz : skipB L 0 = 0 := by
   unfold skipB
   rw [List.drop_zero, hxr, List.takeWhile_cons]
   have : blankP x = false := by unfold blankP; rw [hx]; rfl
   rw [this]
   rfl
  have hb : (((0 : Nat) : Int) == (L.length : Int)) = false := by
   rw [hxr]
   simp
   omega
  rw [hz, hb] at e0
  simp only [cond_false, List.nil_append] at e0
  rw [next_word L hL 0 0 (by omega) hcl] at e0
  simp only [List.drop_zero, Nat.zero_add] at e0
  have hle : (L.takeWhile wordP).length <= L.length := (List.takeWhile_prefix wordP).length_le
  rw [tokens_step L hL (2 * L.length) _ (L.takeWhile wordP).length 0 hle, hsk] at e0
  have hb2 : (((L.length : Nat) : Int) == (L.length : Int)) = true := beq_iff_eq.2 rfl
  rw [hb2, ht] at e0
  rw [e0]
  have : (s == s) = true := (bytes_beq s s).2 rfl
  simp [this]
end Go.Proofs.YtigcpfbpmnppcaaGreatDoor
namespace Go.Proofs.YtigcpfbpmnppcaaGreatDoor
set_option linter.unusedSimpArgs false
set_option linter.unusedVariables false
open Go.Fw
theorem decode_blank (s : ByteArray) (h : (Utf8.decode s 0).1 = 9 ∨ (Utf8.decode s 0).1 = 32) : (s.get! 0).toNat = 9 ∨ (s.get! 0).toNat = 32 := by
 unfold Utf8.decode at h
 simp only [Nat.add_zero, Nat.zero_add, Utf8.runeError] at h
 repeat' split at h
 all_goals first | exact h | (simp only [ge_iff_le, Nat.not_le] at *; omega) | (simp_all; omega)
theorem first_line (s : ByteArray) (x : Int) (r : List Int) (h : lineOf s = x :: r) : x = ((Utf8.decode s 0).1 : Int) ∧ 0 < s.size := by
 unfold lineOf runeList at h
 cases hs : s.size with
 | zero => rw [hs] at h; cases h
 | succ n =>
  rw [hs, strRunes_cons (by rw [hs]; rfl)] at h
  simp only [List.map_cons, List.cons.injEq] at h
  exact ⟨h.1.symm, Nat.succ_pos n⟩
theorem get_first (s : ByteArray) (h : 0 < s.size) : ∃ b q, s.data.toList = b :: q ∧ s.get! 0 = b := by
 obtain ⟨d⟩ := s
 have hd : 0 < d.size := h
 refine ⟨d[0], d.toList.tail, ?_, ?_⟩
 ·cases hl : d.toList with
  | nil => simp at hl; rw [hl] at hd; cases hd
  | cons a t => 
   have : d[0] = a := by rw [← Array.getElem_toList]; simp [hl]
   rw [this]; rfl
 ·show d[0]! = d[0]
  exact getElem!_pos d 0 hd
theorem encode_letter (x : Int) (h : ref04_Class x = 2) : ∃ b q, (Utf8.encode x).data.toList = b :: q ∧ 65 <= b.toNat := by
 have hx : 65 <= x ∧ x <= 1114111 ∧ ¬ (55296 <= x ∧ x <= 57343) := by
  unfold ref04_Class at h
  grind
 have hv : Utf8.valid x = true := by
  unfold Utf8.valid
  simp only [Bool.or_eq_true, Bool.and_eq_true, decide_eq_true_eq]
  omega
 unfold Utf8.encode
 simp only [hv, if_true]
 have hc : ∃ c : Nat, x.toNat = c ∧ 65 <= c ∧ c <= 1114111 := ⟨x.toNat, rfl, by omega, by omega⟩
 obtain ⟨c, hcc, h1, h2⟩ := hc
 rw [hcc]
 repeat' split
 all_goals refine ⟨_, _, rfl, ?_⟩
 all_goals simp only [UInt8.toNat_ofNat']
 all_goals omega
theorem runesBytes_cons (x : Int) (r : List Int) : ∃ q, (runesBytes (x :: r)).data.toList = (Utf8.encode x).data.toList ++ q := by
 unfold runesBytes
 rw [List.foldl_cons]
 have : ∀ (l : List Int) (b : ByteArray), ∃ q, (l.foldl (fun r n => r ++ Utf8.encode n) b).data.toList = b.data.toList ++ q := by
  intro l
  induction l with
  | nil => exact fun b => ⟨[], by simp⟩
  | cons y t ih =>
   intro b
   obtain ⟨q, hq⟩ := ih (b ++ Utf8.encode y)
   exact ⟨(Utf8.encode y).data.toList ++ q, by rw [List.foldl_cons, hq]; simp⟩
 obtain ⟨q, hq⟩ := this r (ByteArray.empty ++ Utf8.encode x)
 exact ⟨q, by rw [hq]; simp⟩
theorem lower_first (x : Int) (r : List Int) (h : ref04_Class x = 2) : ∃ b q, (ref04_Lower (runesBytes (x :: r))).data.toList = b :: q ∧ 65 <= b.toNat := by
 obtain ⟨b, q, hb, h65⟩ := encode_letter x h
 obtain ⟨q', hq⟩ := runesBytes_cons x r
 rw [lower_ref, bytesStr_data]
 unfold bytesOf
 rw [hq, hb]
 refine ⟨UInt8.ofNat (lowB (b.toNat : Int)).toNat, _, rfl, ?_⟩
 have hlt := b.toNat_lt
 rw [UInt8.toNat_ofNat']
 unfold lowB
 split <;> omega
theorem no_blank_word (s : ByteArray) (y : Int) (q : List Int) (hl : lineOf s = y :: q) (hy : blankP y = true) (x : Int) (r : List Int) (hx : ref04_Class x = 2) : ref04_Lower (runesBytes (x :: r)) ≠ s := by
 intro e
 obtain ⟨b, t, hb, h65⟩ := lower_first x r hx
 rw [e] at hb
 obtain ⟨h1, h2⟩ := first_line s y q hl
 obtain ⟨b', t', hb', hg⟩ := get_first s h2
 have hy' : (Utf8.decode s 0).1 = 9 ∨ (Utf8.decode s 0).1 = 32 := by
  unfold blankP ref04_Class at hy
  subst h1
  grind
 have := decode_blank s hy'
 rw [hg] at this
 rw [hb] at hb'
 cases hb'
 omega
theorem end_go (L : List Int) (hL : L.length <= 400) (a : Nat) (ha : ref04_Class (L.getD a 0) = 2) : ∀ (m i : Nat), i <= L.length -> L.length - i < m -> ref05_end_g1 L (a : Int) m (i : Int) = ((i + ((L.drop i).takeWhile wordP).length : Nat) : Int)
 | 0, _, _, h => absurd h (by omega)
 | m + 1, i, hi, hm => by
  rw [ref05_end_g1]
  simp only [Int.toNat_natCast, ha]
  rcases Nat.lt_or_ge i L.length with h | h
  ·have hg : L.getD i 0 = L[i] := by simp [List.getD, List.getElem?_eq_getElem h]
   rw [decide_eq_true (show (i : Int) < (L.length : Int) by omega), hg, List.drop_eq_getElem_cons h, List.takeWhile_cons]
   have e : (((((((2 : Int) == 2) && ((ref04_Class L[i]) != 2)) && ((ref04_Class L[i]) != 3)) && (L[i] != 45)) && (L[i] != 95))) = !(wordP L[i]) := by
    unfold wordP bne
    cases (ref04_Class L[i] == 2) <;> cases (ref04_Class L[i] == 3) <;> cases (L[i] == 45) <;> cases (L[i] == 95) <;> rfl
   rw [e]
   cases hw : wordP L[i] with
   | false => simp
   | true =>
    have hww : w64 ((i : Int) + 1) = ((i + 1 : Nat) : Int) := wr (by omega)
    have e3 : ((2 : Int) == 3) = false := rfl
    simp only [Bool.not_true, cond_false, cond_true, e3, Bool.false_and, if_true]
    rw [hww, end_go L hL a ha m (i + 1) (by omega) (by omega), List.length_cons]
    congr 1
    omega
  ·rw [decide_eq_false (show ¬ (i : Int) < (L.length : Int) by omega), List.drop_eq_nil_of_le h]
   simp
theorem end_eq (L : List Int) (hL : L.length <= 400) (a : Nat) (hlt : a < L.length) (ha : ref04_Class (L.getD a 0) = 2) : ref05_end L (a : Int) = ((a + ((L.drop a).takeWhile wordP).length : Nat) : Int) := by
 unfold ref05_end
 have hw : w64 ((a : Int) + 1) = ((a + 1 : Nat) : Int) := wr (by omega)
 rw [hw, end_go L hL a ha _ (a + 1) (by omega) (by omega), List.drop_eq_getElem_cons hlt, List.takeWhile_cons]
 have hg : L.getD a 0 = L[a] := by simp [List.getD, List.getElem?_eq_getElem hlt]
 have : wordP L[a] = true := by unfold wordP; rw [← hg, ha]; rfl
 rw [this]
 simp only [if_true, List.length_cons]
 congr 1
 omega
theorem text_kind (L : List Int) (a : Int) : ∀ (m : Nat) (i : Int), (ref05_text_g1 L a m i).1.kind ≠ 1
 | 0, i => by simp [ref05_text_g1, Token.zero]
 | m + 1, i => by
  rw [ref05_text_g1]
  simp only [Bool.cond_eq_ite]
  repeat' split
  all_goals first | exact text_kind L a m _ | (simp [Token.zero]; done)
theorem one_kind (L : List Int) (a : Int) (h : (ref04_Class (L.getD (Int.toNat a) 0) == 2) = false) : (ref05_one L a).1.kind ≠ 1 := by
 unfold ref05_one ref05_one_k1
 rw [h]
 simp only [cond_false, Bool.cond_eq_ite]
 repeat' split
 all_goals first | exact text_kind L a _ _ | (simp [Token.zero]; done) | simp_all
theorem one_word (L : List Int) (hL : L.length <= 400) (a : Nat) (hlt : a < L.length) (ha : ref04_Class (L.getD a 0) = 2) :
  ref05_one L (a : Int) = (⟨1, ref04_Lower (runesBytes ((L.drop a).takeWhile wordP)), 0, (a : Int)⟩, ((a + ((L.drop a).takeWhile wordP).length : Nat) : Int), 0, 0) := by
 unfold ref05_one
 simp only [Int.toNat_natCast, ha, end_eq L hL a hlt ha]
 rw [take_run]
 rfl
section
variable (s : ByteArray)
theorem rtokens_pre : ∀ (m : Nat) (out : List Token) (i : Int), (ref05_Tokens_g1 s m out i).1 = [] ∨ out <+: (ref05_Tokens_g1 s m out i).1
 | 0, _, _ => .inl rfl
 | m + 1, out, i => by
  rw [ref05_Tokens_g1]
  cases (decide (i < ((ref05_Runes s).length : Int))) with
  | false => exact .inr (List.prefix_refl _)
  | true =>
   simp only [cond_true]
   cases ((ref04_Class ((ref05_Runes s).getD (Int.toNat i) 0)) == 1) with
   | true => exact rtokens_pre m out _
   | false =>
    simp only [cond_false]
    cases ((ref05_one (ref05_Runes s) i).2.2.2 != 0) with
    | true => exact .inl rfl
    | false =>
     rcases rtokens_pre m (out ++ [(ref05_one (ref05_Runes s) i).1]) ((ref05_one (ref05_Runes s) i).2.1) with h | h
     ·exact .inl h
     ·exact .inr (List.IsPrefix.trans (List.prefix_append _ _) h)
theorem rskip (hL : (lineOf s).length <= 400) : ∀ (k m : Nat) (out : List Token) (i : Nat), i + k <= (lineOf s).length -> (∀ y ∈ ((lineOf s).drop i).take k, blankP y = true) -> ref05_Tokens_g1 s (m + k) out (i : Int) = ref05_Tokens_g1 s m out ((i + k : Nat) : Int)
 | 0, _, _, _, _, _ => rfl
 | k + 1, m, out, i, h, hb => by
  have hi : i < (lineOf s).length := by omega
  rw [show m + (k + 1) = (m + k) + 1 by omega, ref05_Tokens_g1, runes_line, decide_eq_true (show (i : Int) < ((lineOf s).length : Int) by omega), Int.toNat_natCast]
  have hg : (lineOf s).getD i 0 = (lineOf s)[i] := by simp [List.getD, List.getElem?_eq_getElem hi]
  rw [List.drop_eq_getElem_cons hi, List.take_succ_cons] at hb
  have hc : ((ref04_Class (lineOf s)[i]) == 1) = true := hb _ (List.mem_cons_self ..)
  have hw : w64 ((i : Int) + 1) = ((i + 1 : Nat) : Int) := wr (by omega)
  rw [hg, hc, hw]
  simp only [cond_true]
  rw [rskip hL k m out (i + 1) (by omega) (fun y hy => hb y (List.mem_cons_of_mem _ hy))]
  congr 2
  omega
theorem rskipB (hL : (lineOf s).length <= 400) (m : Nat) (out : List Token) (a : Nat) (ha : a <= (lineOf s).length) (hm : (lineOf s).length - a < m) :
  ∃ m', (lineOf s).length - skipB (lineOf s) a < m' ∧ ref05_Tokens_g1 s m out (a : Int) = ref05_Tokens_g1 s m' out ((skipB (lineOf s) a : Nat) : Int) := by
 have hle := skipB_le (lineOf s) a ha
 have hk : skipB (lineOf s) a = a + (((lineOf s).drop a).takeWhile blankP).length := rfl
 refine ⟨m - (((lineOf s).drop a).takeWhile blankP).length, by omega, ?_⟩
 rw [hk, ← rskip s hL _ (m - (((lineOf s).drop a).takeWhile blankP).length) out a (by omega) ?_]
 ·congr 1
  omega
 ·intro y hy
  have : ((lineOf s).drop a).take (((lineOf s).drop a).takeWhile blankP).length = ((lineOf s).drop a).takeWhile blankP := (List.prefix_iff_eq_take.1 (List.takeWhile_prefix blankP)).symm
  rw [this] at hy
  exact List.all_eq_true.1 (List.all_takeWhile ..) y hy
theorem rstep (m : Nat) (out : List Token) (a : Nat) (ha : a < (lineOf s).length) (hb : blankP ((lineOf s).getD a 0) = false) :
  ref05_Tokens_g1 s (m + 1) out (a : Int) = bif ((ref05_one (lineOf s) (a : Int)).2.2.2 != 0) then ([], (ref05_one (lineOf s) (a : Int)).2.2.1, (ref05_one (lineOf s) (a : Int)).2.2.2) else ref05_Tokens_g1 s m (out ++ [(ref05_one (lineOf s) (a : Int)).1]) (ref05_one (lineOf s) (a : Int)).2.1 := by
 rw [ref05_Tokens_g1, runes_line, decide_eq_true (show (a : Int) < ((lineOf s).length : Int) by omega), Int.toNat_natCast]
 have : ((ref04_Class ((lineOf s).getD a 0)) == 1) = false := hb
 rw [this]
 rfl
theorem rend (m : Nat) (out : List Token) : ref05_Tokens_g1 s (m + 1) out ((lineOf s).length : Int) = (out, ((lineOf s).length : Int), 0) := by
 rw [ref05_Tokens_g1, runes_line, decide_eq_false (by omega)]
 rfl
theorem skip_no (L : List Int) (a : Nat) (h : skipB L a < L.length) : blankP (L.getD (skipB L a) 0) = false := by
 unfold skipB at *
 have hd : (L.drop a)[((L.drop a).takeWhile blankP).length]? = some (L.getD (a + ((L.drop a).takeWhile blankP).length) 0) := by
  rw [List.getElem?_drop, List.getD, List.getElem?_eq_getElem h]
  rfl
 have hsp : L.drop a = (L.drop a).takeWhile blankP ++ (L.drop a).dropWhile blankP := (List.takeWhile_append_dropWhile).symm
 generalize hX : (L.drop a).takeWhile blankP = X at *
 generalize hY : (L.drop a).dropWhile blankP = Y at *
 rw [hsp, List.getElem?_append_right (Nat.le_refl _), Nat.sub_self] at hd
 cases hc : Y with
 | nil => rw [hc] at hd; cases hd
 | cons y t =>
  rw [hc] at hd
  simp only [List.getElem?_cons_zero, Option.some.injEq] at hd
  rw [← hd]
  have := List.head_dropWhile_not blankP (l := L.drop a) (by rw [hY, hc]; simp)
  simpa [hY, hc] using this
end
theorem word_ref (s : ByteArray) : ref08_Word s = true ↔ Wd s := by
 rcases Nat.lt_or_ge 400 s.size with hs | hs
 ·constructor
  ·intro h
   unfold ref08_Word ref05_Tokens at h
   rw [decide_eq_true (show (s.size : Int) > 400 by omega)] at h
   cases h
  ·rintro ⟨h, _⟩
   omega
 have hL : (lineOf s).length <= 400 := Nat.le_trans (line_len s) hs
 have e0 : ref05_Tokens s = ref05_Tokens_g1 s ((lineOf s).length + 1) [] ((0 : Nat) : Int) := by
  unfold ref05_Tokens
  rw [decide_eq_false (show ¬ (s.size : Int) > 400 by omega), runes_line]
  rfl
 obtain ⟨m1, hm1, e1⟩ := rskipB s hL ((lineOf s).length + 1) [] 0 (by omega) (by omega)
 rw [e1] at e0
 have hle0 := skipB_le (lineOf s) 0 (by omega)
 obtain ⟨m2, rfl⟩ : ∃ m2, m1 = m2 + 1 := ⟨m1 - 1, by omega⟩
 unfold Wd ref08_Word
 constructor
 ·intro h
  cases h1 : (((ref05_Tokens s).2.2 != 0) || ((((ref05_Tokens s).1).length : Int) != 1)) with
  | true => rw [h1] at h; cases h
  | false =>
   rw [h1] at h
   simp only [cond_false] at h
   have hleni : ((ref05_Tokens s).1.length : Int) = 1 := by simpa using (or_f h1).2
   have hlen : (ref05_Tokens s).1.length = 1 := by omega
   cases h2 : ((((((ref05_Tokens s).1).getD 0 Token.zero).kind != 1) || (!(ByteArray.toList (((ref05_Tokens s).1).getD 0 Token.zero).text == ByteArray.toList s))) || ((((ref05_Tokens s).1).getD 0 Token.zero).num != 0)) with
   | true => rw [h2] at h; cases h
   | false =>
    obtain ⟨h3, _⟩ := or_f h2
    obtain ⟨hk, ht⟩ := or_f h3
    have hk : ((ref05_Tokens s).1.getD 0 Token.zero).kind = 1 := by simpa using hk
    have ht : ((ref05_Tokens s).1.getD 0 Token.zero).text = s := by
     have : (ByteArray.toList (((ref05_Tokens s).1).getD 0 Token.zero).text == ByteArray.toList s) = true := by simpa using ht
     exact (bytes_inj _ _).1 this
    rcases Nat.eq_or_lt_of_le hle0 with hb | hb
    ·rw [hb, rend] at e0
     rw [e0] at hlen
     cases hlen
    ·have hnb := skip_no _ _ hb
     rw [rstep s m2 [] _ hb hnb] at e0
     cases he : ((ref05_one (lineOf s) ((skipB (lineOf s) 0 : Nat) : Int)).2.2.2 != 0) with
     | true =>
      rw [he] at e0
      rw [e0] at hlen
      cases hlen
     | false =>
      rw [he] at e0
      simp only [cond_false, List.nil_append] at e0
      have hp : ∀ o i m, ref05_Tokens s = ref05_Tokens_g1 s m o i -> (ref05_Tokens s).1 = [] ∨ o <+: (ref05_Tokens s).1 := fun o i m e => by rw [e]; exact rtokens_pre s _ _ _
      rcases hp _ _ _ e0 with h' | h'
      ·rw [h'] at hlen; cases hlen
      ·have hhead : (ref05_Tokens s).1.getD 0 Token.zero = (ref05_one (lineOf s) ((skipB (lineOf s) 0 : Nat) : Int)).1 := by
        obtain ⟨q, hq⟩ := h'
        rw [← hq]
        rfl
       rw [hhead] at hk ht
       have hcl : (ref04_Class ((lineOf s).getD (skipB (lineOf s) 0) 0) == 2) = true := by
        cases hcc : (ref04_Class ((lineOf s).getD (skipB (lineOf s) 0) 0) == 2) with
        | true => rfl
        | false => exact absurd hk (one_kind _ _ (by rw [Int.toNat_natCast]; exact hcc))
       have hcl' := eq_of_beq hcl
       rw [one_word _ hL _ hb hcl'] at e0 ht
       simp only at e0 ht
       -- the line begins with the word
       have hfirst : (lineOf s).drop (skipB (lineOf s) 0) = (lineOf s).getD (skipB (lineOf s) 0) 0 :: (lineOf s).drop (skipB (lineOf s) 0 + 1) := by
        rw [List.drop_eq_getElem_cons hb]
        congr 1
        simp [List.getD, List.getElem?_eq_getElem hb]
       have hwp : wordP ((lineOf s).getD (skipB (lineOf s) 0) 0) = true := by unfold wordP; rw [hcl']; rfl
       have hz : skipB (lineOf s) 0 = 0 := by
        rcases Nat.eq_zero_or_pos (skipB (lineOf s) 0) with hz | hz
        ·exact hz
        ·exfalso
         cases hl : lineOf s with
         | nil => rw [hl] at hb; exact absurd hb (by simp)
         | cons y q =>
          have hy : blankP y = true := by
           cases hbl : blankP y with
           | true => rfl
           | false =>
            have : skipB (lineOf s) 0 = 0 := by
             unfold skipB
             rw [List.drop_zero, hl, List.takeWhile_cons, hbl]
             rfl
            omega
          rw [hfirst, List.takeWhile_cons, hwp] at ht
          exact no_blank_word s y q hl hy _ _ hcl' ht
       rw [hz] at e0 ht hcl' hb
       simp only [List.drop_zero, Nat.zero_add] at e0 ht
       cases hl : lineOf s with
       | nil => rw [hl] at hb; exact absurd hb (by simp)
       | cons x r =>
        rw [← hl]
        refine ⟨hs, x, r, hl, by rw [hl] at hcl'; exact hcl', ht, ?_⟩
        have hle : ((lineOf s).takeWhile wordP).length <= (lineOf s).length := (List.takeWhile_prefix wordP).length_le
        have hpos : 0 < ((lineOf s).takeWhile wordP).length := by
         rw [hl, List.takeWhile_cons]
         have hcx : ref04_Class x = 2 := by rw [hl] at hcl'; exact hcl'
         have : wordP x = true := by unfold wordP; rw [hcx]; rfl
         rw [this]
         simp
        obtain ⟨m3, hm3, e3⟩ := rskipB s hL m2 [⟨1, ref04_Lower (runesBytes ((lineOf s).takeWhile wordP)), 0, ((0 : Nat) : Int)⟩] ((lineOf s).takeWhile wordP).length hle (by omega)
        rw [e3] at e0
        have hle2 := skipB_le (lineOf s) _ hle
        rcases Nat.eq_or_lt_of_le hle2 with hq | hq
        ·exact hq
        ·exfalso
         obtain ⟨m4, rfl⟩ : ∃ m4, m3 = m4 + 1 := ⟨m3 - 1, by omega⟩
         rw [rstep s m4 _ _ hq (skip_no _ _ hq)] at e0
         cases he2 : ((ref05_one (lineOf s) ((skipB (lineOf s) ((lineOf s).takeWhile wordP).length : Nat) : Int)).2.2.2 != 0) with
         | true =>
          rw [he2] at e0
          rw [e0] at hlen
          cases hlen
         | false =>
          rw [he2] at e0
          simp only [cond_false] at e0
          rcases hp _ _ _ e0 with h'' | h''
          ·rw [h''] at hlen; cases hlen
          ·have := h''.length_le
           rw [hlen] at this
           simp at this
 ·rintro ⟨_, x, r, hl, hx, ht, hsk⟩
  have hz : skipB (lineOf s) 0 = 0 := by
   unfold skipB
   rw [List.drop_zero, hl, List.takeWhile_cons]
   have : blankP x = false := by unfold blankP; rw [hx]; rfl
   rw [this]
   rfl
  have hb : 0 < (lineOf s).length := by rw [hl]; simp
  have hg : (lineOf s).getD 0 0 = x := by rw [hl]; rfl
  rw [hz] at e0 hm1
  have hnb : blankP ((lineOf s).getD 0 0) = false := by rw [hg]; unfold blankP; rw [hx]; rfl
  rw [rstep s m2 [] 0 hb hnb, one_word _ hL 0 hb (by rw [hg]; exact hx)] at e0
  simp only [List.drop_zero, Nat.zero_add, List.nil_append] at e0
  have e00 : ((0 : Int) != 0) = false := rfl
  rw [e00] at e0
  simp only [cond_false] at e0
  have hle : ((lineOf s).takeWhile wordP).length <= (lineOf s).length := (List.takeWhile_prefix wordP).length_le
  have hpos : 0 < ((lineOf s).takeWhile wordP).length := by
   rw [hl, List.takeWhile_cons]
   have : wordP x = true := by unfold wordP; rw [hx]; rfl
   rw [this]
   simp
  obtain ⟨m3, hm3, e3⟩ := rskipB s hL m2 [⟨1, ref04_Lower (runesBytes ((lineOf s).takeWhile wordP)), 0, ((0 : Nat) : Int)⟩] ((lineOf s).takeWhile wordP).length hle (by omega)
  rw [e3, hsk, ht] at e0
  obtain ⟨m4, rfl⟩ : ∃ m4, m3 = m4 + 1 := ⟨m3 - 1, by omega⟩
  rw [rend] at e0
  rw [e0]
  simp
theorem word_eq (s : ByteArray) : cmd_word s = ref08_Word s := by
 rw [Bool.eq_iff_iff, word_prog, word_ref]
end Go.Proofs.YtigcpfbpmnppcaaGreatDoor
namespace Go.Proofs.YtigcpfbpmnppcaaGreatDoor
set_option linter.unusedSimpArgs false
set_option linter.unusedVariables false
open Go.Fw
theorem alts_le {s : Shape} (h : (shape_Check s == 0) = true) : s.alts.length <= 6 := by
 have h := eq_of_beq h
 unfold shape_Check shape_Check_k1 at h
 by_cases h1 : s.kind = 1
 ·simp only [h1, beq_self_eq_true, cond_true] at h
  grind
 by_cases h2 : s.kind = 2
 ·have : ((2 : Int) == 1) = false := rfl
  simp only [h2, beq_self_eq_true, cond_true, this, cond_false] at h
  grind
 by_cases h3 : s.kind = 3
 ·have e1 : ((3 : Int) == 1) = false := rfl
  have e2 : ((3 : Int) == 2) = false := rfl
  simp only [h3, beq_self_eq_true, cond_true, e1, e2, cond_false] at h
  grind
 have e1 : (s.kind == 1) = false := by simpa using h1
 have e2 : (s.kind == 2) = false := by simpa using h2
 have e3 : (s.kind == 3) = false := by simpa using h3
 rw [e1, e2, e3] at h
 cases h
theorem deps_le {l : List Dep} (h : cmd_deps l = true) : l.length <= 4 := by
 rcases Nat.lt_or_ge 4 l.length with h' | h'
 ·unfold cmd_deps at h
  rw [deps_long l h'] at h
  cases h
 ·exact h'
theorem cmd_self (c : Cmd) : cmd_Same c c = true := by
 unfold cmd_Same
 rw [(shape_same _ _).2 rfl, (equal_Dep _ _).2 rfl]
 simp
theorem submission_eq (n u a : ByteArray) (sh : Shape) (p : Int) (l : List Dep) :
  cmd_Check ⟨1, 0, n, u, a, sh, p, true, 0, false, l, 0, 0, 0⟩ = ref08_Check ⟨1, 0, n, u, a, sh, p, true, 0, false, l, 0, 0, 0⟩ := by
 have hbare : cmd_bare ⟨1, 0, n, u, a, sh, p, true, 0, false, l, 0, 0, 0⟩ = ⟨1, 0, n, u, a, sh, p, true, 0, false, l, 0, 0, 0⟩ := rfl
 have hf : cmd_fits ⟨1, 0, n, u, a, sh, p, true, 0, false, l, 0, 0, 0⟩ = ((ref08_in p 0 100) && (((((((cmd_name n) && (cmd_name u)) && (cmd_name a)) && (cmd_word u)) && (cmd_word a)) && (cmd_deps l)) && ((shape_Check sh) == 0))) := by
  unfold cmd_fits
  show (bif ((((true && (!(ref08_in p 0 100))) || false) || false) || false) then false else _) = _
  cases (ref08_in p 0 100) <;> rfl
 have hr : ref08_Check ⟨1, 0, n, u, a, sh, p, true, 0, false, l, 0, 0, 0⟩ = bif !((((((((ref08_Name n) && (ref08_Name u)) && (ref08_Name a)) && (ref08_Word u)) && (ref08_Word a)) && (ref08_waits l)) && ((ref07_Check sh) == 0)) && (ref08_in p 0 100)) then 80 else 0 := by
  unfold ref08_Check ref08_Check_k1 ref08_Check_k4 ref08_Check_k5 ref08_none
  simp
 rw [hr]
 unfold cmd_Check
 rw [hbare, cmd_self, hf, ← name_eq, ← name_eq, ← name_eq, ← word_eq, ← word_eq, ← deps_eq, ← shape_Check_eq]
 cases hd : cmd_deps l with
 | false => cases (ref08_in p 0 100) <;> simp
 | true =>
  cases hs : (shape_Check sh == 0) with
  | false => cases (ref08_in p 0 100) <;> simp
  | true =>
   have h1 := alts_le hs
   have h2 := deps_le hd
   have e1 : decide ((sh.alts.length : Int) > 6) = false := decide_eq_false (by omega)
   have e2 : decide ((l.length : Int) > 4) = false := decide_eq_false (by omega)
   show (bif (((decide ((sh.alts.length : Int) > 6)) || (decide ((l.length : Int) > 4))) || _) || _ then (80 : Int) else 0) = _
   rw [e1, e2]
   cases (ref08_in p 0 100) <;> cases cmd_name n <;> cases cmd_name u <;> cases cmd_name a <;> cases cmd_word u <;> cases cmd_word a <;> rfl
theorem opt_wall (s : Shape) : ∀ x ∈ ref07_Options s, 1 <= x.wall ∧ x.wall <= 100000 := by
 intro x hx
 cases hc : (ref07_Check s != 0) with
 | true =>
  unfold ref07_Options at hx
  rw [hc] at hx
  cases hx
 | false =>
  have hz : ref07_Check s = 0 := by simpa using hc
  cases hk : (s.kind == 3) with
  | true =>
   have hk3 : s.kind = 3 := by simpa using hk
   have hw : 1 <= s.wall ∧ s.wall <= 100000 := by
    unfold ref07_Check at hz
    simp only [hk3, beq_self_eq_true, cond_true] at hz
    cases hq : (((((decide ((s.alts.length : Int) > 0)) || (!(ref07_size s.min))) || (!(ref07_size s.max))) || (decide (s.max < s.min))) || (!(ref07_wall s.wall))) with
    | true => rw [hq] at hz; cases hz
    | false =>
     have := (or_f hq).2
     unfold ref07_wall at this
     simp at this
     omega
   rw [← options_eq] at hx
   unfold shape_Options at hx
   rw [shape_Check_eq, hc, hk] at hx
   simp only [cond_false, cond_true] at hx
   rcases List.mem_append.1 hx with hx | hx
   ·have h0 : s.alts.length = 0 := by
     unfold ref07_Check at hz
     simp only [hk3, beq_self_eq_true, cond_true] at hz
     cases hq : (((((decide ((s.alts.length : Int) > 0)) || (!(ref07_size s.min))) || (!(ref07_size s.max))) || (decide (s.max < s.min))) || (!(ref07_wall s.wall))) with
     | true => rw [hq] at hz; cases hz
     | false =>
      have := of_decide_eq_false (or_f (or_f (or_f (or_f hq).1).1).1).1
      omega
    rw [List.eq_nil_of_length_eq_zero h0] at hx
    cases hx
   ·unfold shape_sizes at hx
    obtain ⟨i, _, rfl⟩ := List.mem_map.1 hx
    exact hw
  | false =>
   have hk' : (s.kind != 3) = true := by unfold bne; rw [hk]; rfl
   have hx' : x ∈ s.alts := by
    unfold ref07_Options at hx
    rw [hc, hk'] at hx
    exact hx
   have hg : ref07_Check_g2 s s.alts 0 = 0 := by
    unfold ref07_Check ref07_Check_k1 at hz
    rw [hk] at hz
    simp only [cond_false] at hz
    grind
   have := ((g2_eq s s.alts 0 (by simp)).1.1 hg).1 x hx'
   unfold okAlt ref07_wall at this
   simp at this
   omega
theorem option_wall (v : Job) (c : Int) : (job_view_option v c).2 = decide (ref14_wall v.shape c > 0) ∧ ((job_view_option v c).2 = false ↔ ref14_wall v.shape c = 0) ∧ ((job_view_option v c).2 = true -> (job_view_option v c).1.wall = ref14_wall v.shape c ∧ 1 <= ref14_wall v.shape c ∧ ref14_wall v.shape c <= 100000) := by
 unfold job_view_option ref14_wall
 rw [options_eq]
 cases hb : ((decide (c < 0)) || (decide (c >= ((ref07_Options v.shape).length : Int)))) with
 | true => exact ⟨rfl, ⟨fun _ => rfl, fun _ => rfl⟩, fun h => (by cases h)⟩
 | false =>
  obtain ⟨h1, h2⟩ := or_f hb
  have h1 := of_decide_eq_false h1
  have h2 := of_decide_eq_false h2
  simp only [cond_false]
  have hm : (ref07_Options v.shape).getD (Int.toNat c) Alt.zero ∈ ref07_Options v.shape := by
   rw [List.getD, List.getElem?_eq_getElem (show Int.toNat c < (ref07_Options v.shape).length by omega)]
   exact List.getElem_mem _
  have hw := opt_wall v.shape _ hm
  exact ⟨(decide_eq_true (by omega)).symm, ⟨fun h => (by cases h), fun h => by omega⟩, fun _ => ⟨trivial, hw⟩⟩
theorem nodes_few {s : Int} (hs : U64 s) : job_nodes s = ref14_Few s := by
 obtain ⟨au, ab⟩ := nodeset_All_bits (n := 48) (by decide)
 have au : U64 (nodeset_All 48) := au
 have ab : ∀ k, tb (nodeset_All 48) k = decide (k < 48) := ab
 unfold job_nodes ref14_Few
 rw [Bool.eq_iff_iff, eq_zero_iff (wu64_U _), decide_eq_true_eq]
 have ht : ∀ k, tb (wu64 (BitVec.ofInt 64 s &&& ~~~(BitVec.ofInt 64 (nodeset_All 48))).toNat) k = (tb s k && !decide (k < 48)) := fun k => by rw [tb_andnot hs au, ab]
 have p48 : (2 : Nat) ^ 48 = 281474976710656 := by decide
 constructor
 ·intro h
  have : s.toNat < 2 ^ 48 := by
   refine Nat.lt_pow_two_of_testBit _ fun k hk => ?_
   rcases Nat.lt_or_ge k 64 with hk' | hk'
   ·have := h k hk'
    rw [ht, decide_eq_false (show ¬ k < 48 by omega)] at this
    simpa [tb] using this
   ·exact tb_high hs hk'
  rw [p48] at this
  unfold U64 at hs
  omega
 ·intro h k _
  rw [ht]
  rcases Nat.lt_or_ge k 48 with hk | hk
  ·rw [decide_eq_true hk]; simp
  ·have : tb s k = false := by
    unfold tb
    refine Nat.testBit_lt_two_pow (Nat.lt_of_lt_of_le (m := 2 ^ 48) ?_ (Nat.pow_le_pow_right (by decide) hk))
    rw [p48]
    unfold U64 at hs
    omega
   rw [this]
   rfl
theorem queued_eq {v : Job} (h : v.state = 1) : job_view_queued v = ref14_state v := by
 unfold ref14_state
 rw [h]
 simp only [beq_self_eq_true, cond_true]
 unfold job_view_queued
 rw [(option_wall v v.choice).1]
 have et : job_tick = ref14_Tick := rfl
 rw [et]
 cases hp : (v.promise == (-1)) with
 | true =>
  have : v.promise = -1 := by simpa using hp
  have hT : ref14_Tick v.promise = false := by rw [this]; rfl
  rw [hT]
  unfold bne
  cases (v.start == 0) <;> cases (v.limit == 0) <;> cases (v.nodes == 0) <;> simp
 | false =>
  unfold bne
  cases (v.start == 0) <;> cases (v.limit == 0) <;> cases (v.nodes == 0) <;> simp
theorem running_eq {v : Job} (h : v.state = 2) (hn : U64 v.nodes) : job_view_running v = ref14_state v := by
 unfold ref14_state
 rw [h]
 have e1 : ((2 : Int) == 1) = false := rfl
 simp only [beq_self_eq_true, cond_true, e1, cond_false]
 unfold job_view_running
 rw [nodes_few hn, allows_eq, count_list hn]
 have et : job_tick = ref14_Tick := rfl
 rw [et]
 obtain ⟨_, o2, o3⟩ := option_wall v v.choice
 cases ho : (job_view_option v v.choice).2 with
 | false =>
  rw [o2.1 ho]
  rfl
 | true =>
  obtain ⟨w1, w2, w3⟩ := o3 ho
  have hw0 : (ref14_wall v.shape v.choice == 0) = false := by simp; omega
  rw [hw0, w1]
  simp only [Bool.not_true, Bool.false_or]
  cases v.held with
  | true => rfl
  | false =>
   cases hs : ref14_Tick v.start with
   | false => rfl
   | true =>
    cases ref14_Tick v.promise with
    | false => rfl
    | true =>
     have : decide (v.promise < v.start) = decide (v.start > v.promise) := rfl
     rw [this]
     cases decide (v.start > v.promise) with
     | true => rfl
     | false =>
      cases hl : ref14_Tick v.limit with
      | false => rfl
      | true =>
       unfold ref14_Tick at hs hl
       simp only [Bool.and_eq_true, decide_eq_true_eq] at hs hl
       have q1 : w64 (v.limit - v.start) = v.limit - v.start := wr (by omega)
       have q2 : w64 (v.start + ref14_wall v.shape v.choice) = v.start + ref14_wall v.shape v.choice := wr (by omega)
       rw [q1, q2]
       have : (v.limit - v.start != ref14_wall v.shape v.choice) = (v.limit != v.start + ref14_wall v.shape v.choice) := by
        rw [Bool.eq_iff_iff]
        simp only [bne_iff_ne]
        omega
       rw [this]
theorem over_eq {v : Job} (h1 : (v.state == 1) = false) (h2 : (v.state == 2) = false) : (job_ended v.state && job_view_over v) = ref14_state v := by
 unfold ref14_state
 rw [h1, h2]
 have et : job_tick = ref14_Tick := rfl
 have ee : job_ended = ref14_Ended := rfl
 unfold job_view_over
 rw [et, ee]
 simp only [cond_false, Bool.and_assoc]
theorem ref14_go (j : Job) : ∀ (l : List Dep) (i : Nat), ref14_Check_g1 j l i = bif l.any (fun y => decide (y.job >= j.id)) then 140 else (bif !(ref14_state j) then 140 else 0)
 | [], i => rfl
 | x :: r, i => by
  rw [ref14_Check_g1, List.any_cons]
  cases decide (x.job >= j.id) with
  | true => rfl
  | false => simpa using ref14_go j r (i + 1)
theorem job_eq (j : Job) (hn : U64 j.nodes) : job_Check j = ref14_Check j := by
 unfold job_Check ref14_Check
 rw [ref14_go, any_Dep]
 have es : cmd_Check (job_view_submission j) = ref08_Check ⟨1, 0, j.name, j.user, j.account, j.shape, j.prio, true, 0, false, j.after, 0, 0, 0⟩ := submission_eq _ _ _ _ _ _
 rw [es]
 have et : job_tick = ref14_Tick := rfl
 rw [et]
 have eu : (j.used != sat_Usage j.used) = (decide (j.used < 0) || decide (j.used > 1000000000000)) := by
  unfold sat_Usage sat_within_int
  grind
 rw [eu]
 have est : (bif (j.state == 1) then (bif (!(job_view_queued j)) then (140 : Int) else 0) else bif (j.state == 2) then (bif (!(job_view_running j)) then 140 else 0) else bif (!(job_ended j.state)) then 140 else bif (!(job_view_over j)) then 140 else 0) = (bif !(ref14_state j) then 140 else 0) := by
  cases h1 : (j.state == 1) with
  | true =>
   rw [queued_eq (by simpa using h1)]
   rfl
  | false =>
   cases h2 : (j.state == 2) with
   | true =>
    rw [running_eq (by simpa using h2) hn]
    rfl
   | false =>
    rw [← over_eq h1 h2]
    cases job_ended j.state <;> cases job_view_over j <;> rfl
 rw [est]
 generalize (bif !(ref14_state j) then (140 : Int) else 0) = Z
 generalize (List.any j.after fun y => decide (y.job >= j.id)) = A
 generalize ((ref08_Check ⟨1, 0, j.name, j.user, j.account, j.shape, j.prio, true, 0, false, j.after, 0, 0, 0⟩) != 0) = B
 generalize decide (j.id < 1) = C
 generalize decide (j.id > 99999) = D
 generalize ref14_Tick j.born = E
 generalize decide (j.used < 0) = F
 generalize decide (j.used > 1000000000000) = G
 cases A <;> cases B <;> cases C <;> cases D <;> cases E <;> cases F <;> cases G <;> rfl
theorem table_eq (l : List Job) (hl : l.length <= 4294967296) (hn : ∀ x ∈ l, U64 x.nodes) : table_Check l = ref15_Check l := by
 have h := ord_eq Job.zero (·.id) (fun x => job_Check x != 0) 140 40 l hl (table_Check_g1 l) ref15_Check_g1 (fun _ => rfl) (fun _ _ _ _ => rfl) (fun _ _ => rfl) (fun x hx r last i _ => by
   rw [ref15_Check_g1, job_eq x (hn x hx)]
   rfl) (fun x hx => (job_bounds (by simpa using hx)).1) l 0 0 (by simp) (by omega) (by omega) (fun _ => rfl) (fun h => absurd h (by omega))
 unfold table_Check ref15_Check
 rw [← h]
 have e : decide ((l.length : Int) > 40) = decide (l.length > 40) := by rw [Bool.eq_iff_iff]; simp only [decide_eq_true_eq]; omega
 rw [e]
theorem room_eq (s : State) (hs : s.sz) (hn : ∀ x ∈ s.jobs, U64 x.nodes) : room_Check s = ref20_Check s := by
 unfold room_Check ref20_Check
 rw [fleet_Check_eq, table_eq s.jobs hs.2.1 hn, book_Check_eq s.books hs.2.2.2.2.1]
 unfold ref14_Tick
 have : (decide (s.now < 0) || decide (s.now > 1000000)) = !(decide (s.now >= 0) && decide (s.now <= 1000000)) := by
  rw [Bool.eq_iff_iff]
  simp only [Bool.or_eq_true, decide_eq_true_eq, Bool.not_eq_true', Bool.and_eq_false_iff, decide_eq_false_iff_not]
  omega
 rw [this]
theorem plan_eq (s : State) (hs : s.sz) (hn : ∀ x ∈ s.jobs, U64 x.nodes) : plan_Check s = ref21_Check s := by
 unfold plan_Check ref21_Check
 rw [room_eq s hs hn, ledger_Check_eq s.ledger hs.2.2.2.2.2.1]
end Go.Proofs.YtigcpfbpmnppcaaGreatDoor
