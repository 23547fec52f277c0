/-
  The program's checks and the document's are the same, ninth part: sets of nodes as the document makes them; what runs; what is resized. Conditions stand in each lemma.
  The program's checks and the document's are the same, tenth part: one change of size. Conditions stand in each lemma.
  The program's checks and the document's are the same, eleventh part: a change of size may be for the program if it may be for the document. Conditions stand in each lemma.
  The program's checks and the document's are the same, twelfth part: what state may be. Condition: sets of nodes are words; texts and rows are of a size that a machine holds.
  The program's checks and the document's are the same, last part: what state may be; a job's nodes; its resize; a new state. Condition: sets of nodes are words; texts and rows are of a size that a machine holds.
  The same for a row that lists package variables: from a law's contract to the row's statement: the arguments are read, the law is called, they read as they did. Program-independent.
  How arguments are read: structs of the program, with what is known of them. No condition.
  What is read is of a size that a machine holds. No condition.
  What is read has words for sets. No condition.
  What is few is of a size that a machine holds. No condition.
  Nag, first part: what a state that may be shows of its nodes and its changes of size; what is late, stale and over. Conditions stand in each lemma.
  Nag, second part: what is not answered is sent again as the document says; NagTells. Conditions stand in each lemma.
  Nag, third part: the order of the ledger's entries; what a ledger that may be is like; usages added up and halved. Conditions stand in each lemma.
  Nag, fourth part: a user is charged as the document says. Condition: the ledger is of a size that a machine holds.
-/
import Derived.Test.YtigcpfbpmnppcaaGreatDoorG15
import Derived.Test.YtigcpfbpmnppcaaGreatDoorG5
import Derived.LaidMore
import Derived.Stop.Joined
import Derived.JoinedOf
import Derived.Handed
import Derived.OpenShut
import Derived.KernelRfl
import Derived.Test.YtigcpfbpmnppcaaGreatDoorG7
import Derived.Test.YtigcpfbpmnppcaaGreatDoorProg
import Derived.Test.YtigcpfbpmnppcaaGreatDoorG14
namespace Go.Proofs.YtigcpfbpmnppcaaGreatDoor
set_option linter.unusedSimpArgs false
set_option linter.unusedVariables false
open Go.Fw
theorem pow_step (i : Nat) (h : i < 63) : wu64 ((2 : Int) ^ i * 2) = (2 : Int) ^ (i + 1) := by
 rw [← Int.pow_succ]
 exact wu64_id (pow_U (by omega))
theorem bit09_go (n : Nat) (hn : n <= 63) : ∀ (m i : Nat), i <= n -> n - i < m -> (ref09_bit_g1 (n : Int) m ((2 : Int) ^ i) i).1 = (2 : Int) ^ n
 | 0, _, _, h => absurd h (by omega)
 | m + 1, i, hi, hm => by
  rw [ref09_bit_g1]
  rcases Nat.lt_or_ge i n with h | h
  ·rw [decide_eq_true (show (i : Int) < (n : Int) by omega), pow_step i (by omega)]
   exact bit09_go n hn m (i + 1) (by omega) (by omega)
  ·obtain rfl : i = n := by omega
   rw [decide_eq_false (by omega)]
   rfl
theorem bit09 (n : Nat) (hn : n <= 63) : ref09_bit (n : Int) = (2 : Int) ^ n := by
 unfold ref09_bit ref09_bit_k1
 have := bit09_go n hn (Int.toNat ((n : Int) - (0 : Int)) + 1) 0 (by omega) (by omega)
 simpa using this
theorem bit12_go (n : Nat) (hn : n <= 63) : ∀ (m i : Nat), i <= n -> n - i < m -> (ref12_bit_g1 (n : Int) m ((2 : Int) ^ i) i).1 = (2 : Int) ^ n
 | 0, _, _, h => absurd h (by omega)
 | m + 1, i, hi, hm => by
  rw [ref12_bit_g1]
  rcases Nat.lt_or_ge i n with h | h
  ·rw [decide_eq_true (show (i : Int) < (n : Int) by omega), Int.mul_comm, pow_step i (by omega)]
   exact bit12_go n hn m (i + 1) (by omega) (by omega)
  ·obtain rfl : i = n := by omega
   rw [decide_eq_false (by omega)]
   rfl
theorem bit12 (n : Nat) (hn : n <= 63) : ref12_bit (n : Int) = (2 : Int) ^ n := by
 unfold ref12_bit ref12_bit_k1
 have := bit12_go n hn (Int.toNat ((n : Int) - (0 : Int)) + 1) 0 (by omega) (by omega)
 simpa using this
theorem has_eq {s : Int} (hs : U64 s) (n : Nat) : ref09_Has s (n : Int) = nodeset_Has s (n : Int) := by
 rw [nodeset_Has_eq hs]
 unfold ref09_Has
 rcases Nat.lt_or_ge n 64 with h | h
 ·rw [decide_eq_false (show ¬ (n : Int) < 0 by omega), decide_eq_false (show ¬ (n : Int) > 63 by omega), decide_eq_true h, bit09 n (by omega)]
  simp only [Bool.or_false, cond_false, Bool.true_and]
  obtain ⟨q, rfl⟩ : ∃ q : Nat, s = (q : Int) := ⟨s.toNat, by unfold U64 at hs; omega⟩
  obtain ⟨p, e, e'⟩ := two_pow_cast n
  have e1 : Int.tdiv (q : Int) (p : Int) = ((q / p : Nat) : Int) := rfl
  have hq : q / p < 18446744073709551616 := by
   have := Nat.div_le_self q p
   unfold U64 at hs
   omega
  rw [e, e1, tb, Int.toNat_natCast, Nat.testBit_eq_decide_div_mod_eq, e']
  generalize q / p = w at *
  rw [wu64_id ⟨by omega, by omega⟩]
  have e2 : Int.tmod (w : Int) 2 = ((w % 2 : Nat) : Int) := rfl
  rw [e2, Bool.eq_iff_iff]
  simp
  omega
 ·rw [decide_eq_true (show (n : Int) > 63 by omega), decide_eq_false (show ¬ n < 64 by omega)]
  simp
theorem of_go (job st : Int) (l : List Node) (hl : l.length <= 64) : ∀ (r : List Node) (i : Nat), r = l.drop i -> i + r.length = l.length ->
  (ref12_Of_g1 job st r (bitsUpto (fun k => ((l.getD k Node.zero).job == job) && ((l.getD k Node.zero).state == st)) i) i).1 = bitsUpto (fun k => ((l.getD k Node.zero).job == job) && ((l.getD k Node.zero).state == st)) l.length
 | [], i, hr, hlen => by
  have : i = l.length := by simpa using hlen
  subst this
  rfl
 | x :: r, i, hr, hlen => by
  simp only [List.length_cons] at hlen
  have hr' : r = l.drop (i + 1) := by rw [← List.drop_drop, ← hr]; rfl
  have hi : l[i]? = some x := by
   have := congrArg (fun q => q[0]?) hr
   simpa [List.getElem?_drop] using this.symm
  have hg : l.getD i Node.zero = x := by simp [List.getD, hi]
  have ih := of_go job st l hl r (i + 1) hr' (by omega)
  rw [ref12_Of_g1]
  rw [bitsUpto, hg] at ih
  cases hc : ((x.job == job) && (x.state == st)) with
  | true =>
   rw [hc] at ih
   simp only [cond_true] at ih ⊢
   have hlt := bitsUpto_lt (fun k => ((l.getD k Node.zero).job == job) && ((l.getD k Node.zero).state == st)) i
   have hu : U64 (bitsUpto (fun k => ((l.getD k Node.zero).job == job) && ((l.getD k Node.zero).state == st)) i + (2 : Int) ^ i) := by
    have := bitsUpto_U (fun k => ((l.getD k Node.zero).job == job) && ((l.getD k Node.zero).state == st)) (n := i + 1) (by omega)
    rw [bitsUpto] at this
    simp only [hg, hc, cond_true] at this
    exact this
   rw [bit12 i (by omega), wu64_id hu]
   exact ih
  | false =>
   rw [hc] at ih
   exact ih
theorem of_eq (l : List Node) (job st : Int) : fleet_Of l job st = ref12_Of l job st := by
 unfold ref12_Of
 rw [← fleet_Check_eq]
 cases hc : (fleet_Check l != 0) with
 | true =>
  unfold fleet_Of fleet_where
  rw [hc]
  rfl
 | false =>
  have hz : fleet_Check l = 0 := by simpa using hc
  have hl : l.length <= 64 := by
   unfold fleet_Check at hz
   cases h1 : (((decide ((l.length : Int) < 1)) || (decide ((l.length : Int) > 48))) || (slices_ContainsFunc_Node l (fun (y : Node) => (!(fleet_fine y))))) with
   | true => rw [h1] at hz; cases hz
   | false =>
    have := of_decide_eq_false (or_f (or_f h1).1).2
    omega
  obtain ⟨u, b⟩ := fleet_where_bits l (fun (y : Node) => ((y.job == job) && (y.state == st))) hz hl
  have h := of_go job st l hl l 0 (by simp) (by omega)
  simp only [cond_false, ref12_Of_k1]
  rw [bitsUpto] at h
  rw [h]
  refine tb_ext u (bitsUpto_U _ hl) fun k _ => ?_
  rw [tb_upto]
  exact b k
theorem state_where_bits (s : State) (is : Int -> Node -> Bool) (hl : s.nodes.length <= 64) : U64 (state_where s is) ∧ ∀ k, tb (state_where s is) k = (decide (k < s.nodes.length) && is (k : Int) (s.nodes.getD k Node.zero)) := by
 have e : state_where s is = (nodeset_Of (idxL (fun k x => is (k : Int) x) s.nodes 0)).1 := by
  unfold state_where state_where_k1
  rw [idx_loop (fun k x => is (k : Int) x) (state_where_g1 is) (fun _ _ => rfl) (fun _ _ _ _ => rfl), List.nil_append]
 rw [e]
 exact set_where (fun k x => is (k : Int) x) Node.zero s.nodes hl
theorem list_go {s : Int} (hs : U64 s) : ∀ (m : Nat) (out : List Int) (i : Nat), i <= 64 -> 64 - i < m -> nodeset_List_g1 s m out i = out ++ ((List.range' i (64 - i)).filter (tb s)).map fun (k : Nat) => (k : Int)
 | 0, _, _, _, h => absurd h (by omega)
 | m + 1, out, i, hi, hm => by
  rw [nodeset_List_g1]
  rcases Nat.lt_or_ge i 64 with h | h
  ·have e : 64 - i = (64 - (i + 1)) + 1 := by omega
   rw [decide_eq_true (show (i : Int) < 64 by omega), and_one hs h, e, List.range'_succ, List.filter_cons]
   cases tb s i with
   | true =>
    simp only [cond_true, if_true, List.map_cons]
    rw [list_go hs m _ (i + 1) (by omega) (by omega), List.append_assoc]
    rfl
   | false =>
    simp only [cond_true, cond_false]
    rw [list_go hs m _ (i + 1) (by omega) (by omega)]
    rfl
  ·rw [decide_eq_false (show ¬ (i : Int) < 64 by omega), show 64 - i = 0 by omega]
   simp
theorem list_mem {s : Int} (hs : U64 s) (x : Int) : x ∈ nodeset_List s ↔ ∃ k : Nat, k < 64 ∧ tb s k = true ∧ x = (k : Int) := by
 unfold nodeset_List nodeset_List_k1
 rw [list_go hs _ [] 0 (by omega) (by omega)]
 simp only [List.nil_append, List.mem_map, List.mem_filter, List.mem_range']
 constructor
 ·rintro ⟨k, ⟨⟨j, hj, rfl⟩, hb⟩, rfl⟩
  exact ⟨_, by omega, hb, rfl⟩
 ·rintro ⟨k, hk, hb, rfl⟩
  exact ⟨k, ⟨⟨k, by omega, by omega⟩, hb⟩, rfl⟩
theorem quiet_go (l : List Node) : ∀ (r : List Int) (i : Nat), alloc_Quiet_g1 l r i = r.all fun x => (decide (x < (l.length : Int))) && ((l.getD (Int.toNat x) Node.zero).want == 0)
 | [], i => rfl
 | x :: r, i => by
  rw [alloc_Quiet_g1, List.all_cons, quiet_go l r]
  cases ((decide (x < (l.length : Int))) && ((l.getD (Int.toNat x) Node.zero).want == 0)) <;> rfl
theorem quiet_iff {l : List Node} {s : Int} (hs : U64 s) (hc : fleet_Check l = 0) : alloc_Quiet l s = true ↔ ∀ k, k < 64 -> tb s k = true -> k < l.length ∧ (l.getD k Node.zero).want = 0 := by
 unfold alloc_Quiet
 rw [hc, quiet_go]
 show (nodeset_List s).all _ = true ↔ _
 rw [List.all_eq_true]
 constructor
 ·intro h k hk hb
  have := h (k : Int) ((list_mem hs _).2 ⟨k, hk, hb, rfl⟩)
  simp only [Bool.and_eq_true, decide_eq_true_eq, beq_iff_eq, Int.toNat_natCast] at this
  exact ⟨by omega, this.2⟩
 ·intro h x hx
  obtain ⟨k, hk, hb, rfl⟩ := (list_mem hs _).1 hx
  obtain ⟨h1, h2⟩ := h k hk hb
  simp only [Bool.and_eq_true, decide_eq_true_eq, beq_iff_eq, Int.toNat_natCast]
  exact ⟨by omega, h2⟩
theorem getM_set {α β : Type} [BEq α] [LawfulBEq α] (k k' : α) (v : β) : ∀ l : List (α × β), getM k (setM k' v l) = bif k == k' then some v else getM k l
 | [] => rfl
 | p :: r => by
  rw [setM]
  cases hp : k' == p.1 with
  | true =>
   have e := eq_of_beq hp
   simp only [cond_true, getM]
   rw [← e]
   cases k == k' <;> rfl
  | false =>
   simp only [cond_false, getM]
   rw [getM_set k k' v r]
   cases hk : k == k' with
   | true =>
    have e := eq_of_beq hk
    subst e
    rw [hp]
    rfl
   | false => rfl
theorem getM_run_none (id : Int) : ∀ (l : List Job) (i : Nat) (c : List (Int × Job)), (∀ x ∈ l, x.state = 2 -> x.id ≠ id) -> getM id (state_Check_g3 l i c) = getM id c
 | [], i, c, _ => rfl
 | x :: r, i, c, h => by
  rw [state_Check_g3]
  have ih := fun c => getM_run_none id r (i + 1) c fun y hy => h y (List.mem_cons_of_mem _ hy)
  cases hs : (x.state == 2) with
  | false => exact ih c
  | true =>
   have hne := h x (List.mem_cons_self ..) (by simpa using hs)
   show getM id (state_Check_g3 r (i + 1) (setM x.id x c)) = _
   have hb : (id == x.id) = false := by simpa using Ne.symm hne
   rw [ih, getM_set, hb]
   rfl
theorem getM_run_some (x : Job) (hs : x.state = 2) : ∀ (l : List Job) (i : Nat) (c : List (Int × Job)), x ∈ l -> l.Pairwise (fun a b => a.id < b.id) -> getM x.id (state_Check_g3 l i c) = some x
 | [], i, c, h, _ => nomatch h
 | y :: r, i, c, h, hp => by
  obtain ⟨h1, h2⟩ := List.pairwise_cons.1 hp
  rw [state_Check_g3]
  rcases List.mem_cons.1 h with rfl | h
  ·rw [beq_iff_eq.2 hs]
   show getM x.id (state_Check_g3 r (i + 1) (setM x.id x c)) = _
   rw [getM_run_none x.id r (i + 1) _ (fun z hz _ => by have := h1 z hz; omega), getM_set, beq_self_eq_true]
   rfl
  ·cases (y.state == 2) with
   | true => exact getM_run_some x hs r (i + 1) _ h h2
   | false => exact getM_run_some x hs r (i + 1) _ h h2
theorem at_go (id : Int) : ∀ (l : List Job) (i : Nat), (∀ x ∈ l, x.id ≠ id) -> ref15_At_g1 id l i = -1
 | [], i, _ => rfl
 | x :: r, i, h => by
  rw [ref15_At_g1]
  have : (x.id == id) = false := by simpa using h x (List.mem_cons_self ..)
  rw [this]
  exact at_go id r (i + 1) fun y hy => h y (List.mem_cons_of_mem _ hy)
theorem at_some (x : Job) : ∀ (l : List Job) (p i : Nat), l[p]? = some x -> l.Pairwise (fun a b => a.id < b.id) -> ref15_At_g1 x.id l i = ((i + p : Nat) : Int)
 | [], p, i, h, _ => by simp at h
 | y :: r, p, i, h, hp => by
  obtain ⟨h1, h2⟩ := List.pairwise_cons.1 hp
  rw [ref15_At_g1]
  rcases p with _ | p
  ·simp at h
   subst h
   simp
  ·have hx : r[p]? = some x := by simpa using h
   have := h1 x (List.mem_of_getElem? hx)
   have hne : (y.id == x.id) = false := by simp; omega
   rw [hne]
   show ref15_At_g1 x.id r (i + 1) = _
   rw [at_some x r p (i + 1) hx h2]
   congr 1
   omega
theorem run_some {s : State} (hp : s.jobs.Pairwise (fun a b => a.id < b.id)) {x : Job} (hx : x ∈ s.jobs) : ref25_Run s x.id = if x.state = 2 then (x, true) else (Job.zero, false) := by
 obtain ⟨p, hpx⟩ := List.getElem?_of_mem hx
 unfold ref25_Run ref15_At
 rw [at_some x s.jobs p 0 hpx hp, Nat.zero_add]
 have hg : s.jobs.getD p Job.zero = x := by simp [List.getD, hpx]
 rw [Int.toNat_natCast, hg, decide_eq_false (show ¬ (p : Int) < 0 by omega)]
 by_cases h : x.state = 2
 ·simp [h]
 ·have : (x.state != 2) = true := by simpa using h
  rw [this, if_neg h]
  rfl
theorem run_none {s : State} (id : Int) (h : ∀ x ∈ s.jobs, x.id ≠ id) : ref25_Run s id = (Job.zero, false) := by
 unfold ref25_Run ref15_At
 rw [at_go id s.jobs 0 h]
 rfl
theorem run_get {s : State} (hp : s.jobs.Pairwise (fun a b => a.id < b.id)) (id : Int) : (getM id (state_Check_g3 s.jobs 0 [])).isSome = (ref25_Run s id).2 ∧ (getM id (state_Check_g3 s.jobs 0 [])).getD Job.zero = (ref25_Run s id).1 := by
 by_cases h : ∃ x ∈ s.jobs, x.id = id
 ·obtain ⟨x, hx, rfl⟩ := h
  rw [run_some hp hx]
  by_cases hs : x.state = 2
  ·rw [getM_run_some x hs s.jobs 0 [] hx hp, if_pos hs]
   exact ⟨rfl, rfl⟩
  ·rw [getM_run_none x.id s.jobs 0 [], if_neg hs]
   ·exact ⟨rfl, rfl⟩
   ·intro y hy hys e
    obtain ⟨p, hpx⟩ := List.getElem?_of_mem hx
    obtain ⟨q, hqy⟩ := List.getElem?_of_mem hy
    rcases Nat.lt_trichotomy p q with h | h | h
    ·have := pairwise_get hp p q x y h hpx hqy; omega
    ·subst h; rw [hpx] at hqy; cases hqy; exact hs hys
    ·have := pairwise_get hp q p y x h hqy hpx; omega
 ·have h' : ∀ x ∈ s.jobs, x.id ≠ id := fun x hx e => h ⟨x, hx, e⟩
  rw [run_none id h', getM_run_none id s.jobs 0 [] (fun x hx _ => h' x hx)]
  exact ⟨rfl, rfl⟩
end Go.Proofs.YtigcpfbpmnppcaaGreatDoor
namespace Go.Proofs.YtigcpfbpmnppcaaGreatDoor
set_option linter.unusedSimpArgs false
set_option linter.unusedVariables false
open Go.Fw
theorem has_tb {s : Int} (hs : U64 s) {k : Nat} (hk : k < 64) : ref25_Has s (k : Int) = tb s k := by
 unfold ref25_Has
 rw [has_eq hs, nodeset_Has_eq hs, decide_eq_true hk, Bool.true_and]
theorem fine_one (x : Node) (hf : ref12_fine x = true) : (x.want = 2 -> x.state = 2) ∧ (x.want = 4 -> x.state = 1) := by
 obtain ⟨st, jb, ep, dr, wa, si, as_⟩ := x
 unfold ref12_fine at hf
 dsimp only at hf ⊢
 cases h1 : ((((((decide (ep < 0)) || (decide (ep > 999999999))) || (decide (si < 0))) || (decide (si > 1000000))) || (decide (as_ < 0))) || (decide (as_ > 1000000))) with
 | true => rw [h1] at hf; cases hf
 | false =>
  rw [h1] at hf
  simp only [cond_false] at hf
  by_cases h0 : st = 0
  ·subst h0; simp at hf; omega
  by_cases h4 : st = 4
  ·subst h4; simp at hf; omega
  have e : ((st == 0) || (st == 4)) = false := by simp [h0, h4]
  rw [e] at hf
  simp only [cond_false] at hf
  cases h2 : ((decide (jb < 1)) || (decide (jb > 99999))) with
  | true => rw [h2] at hf; cases hf
  | false =>
   rw [h2] at hf
   simp only [cond_false] at hf
   by_cases q1 : st = 1
   ·subst q1; simp at hf; omega
   by_cases q2 : st = 2
   ·subst q2; simp at hf; omega
   by_cases q3 : st = 3
   ·subst q3; simp at hf; omega
   simp [q1, q2, q3] at hf
theorem fine_want {l : List Node} (h : fleet_Check l = 0) : l.length <= 48 ∧ ∀ x ∈ l, (x.want = 2 -> x.state = 2) ∧ (x.want = 4 -> x.state = 1) := by
 unfold fleet_Check at h
 cases h1 : (((decide ((l.length : Int) < 1)) || (decide ((l.length : Int) > 48))) || (slices_ContainsFunc_Node l (fun (y : Node) => (!(fleet_fine y))))) with
 | true => rw [h1] at h; cases h
 | false =>
  obtain ⟨h2, h3⟩ := or_f h1
  have hl := of_decide_eq_false (or_f h2).2
  rw [any_Node] at h3
  refine ⟨by omega, fun x hx => ?_⟩
  have hf : ref12_fine x = true := by
   have := List.any_eq_false.1 h3 x hx
   rw [fine_eq] at this
   simpa using this
  exact fine_one x hf
theorem job_shape {j : Job} (h : job_Check j = 0) : shape_Check j.shape = 0 := by
 unfold job_Check at h
 cases h1 : ((((((decide (j.id < 1)) || (decide (j.id > 99999))) || (!(job_tick j.born))) || (j.used != (sat_Usage j.used))) || ((cmd_Check (job_view_submission j)) != 0)) || (slices_ContainsFunc_Dep j.after (fun (y : Dep) => (decide (y.job >= j.id))))) with
 | true => rw [h1] at h; cases h
 | false =>
  have hc := (or_f (or_f h1).1).2
  have hc : cmd_Check (job_view_submission j) = 0 := by simpa using hc
  unfold cmd_Check at hc
  cases h2 : ((((decide (((job_view_submission j).shape.alts.length : Int) > 6)) || (decide (((job_view_submission j).after.length : Int) > 4))) || (!(cmd_fits (job_view_submission j)))) || (!(cmd_Same (job_view_submission j) (cmd_bare (job_view_submission j))))) with
  | true => rw [h2] at hc; cases hc
  | false =>
   have hf := (or_f (or_f h2).1).2
   have hf : cmd_fits (job_view_submission j) = true := by simpa using hf
   unfold cmd_fits job_view_submission at hf
   simp at hf
   grind
def badB (s : State) (r : Resize) (k : Nat) : Bool := (tb r.said k && !tb r.nodes k) || (tb r.nodes k && (((decide ((k : Int) >= (s.nodes.length : Int))) || ((s.nodes.getD k Node.zero).job != r.job)) || ((s.nodes.getD k Node.zero).state == 3)))
def finB (s : State) (r : Resize) : Bool := (Sum.elim id (fun p1 : Int × Nat => bif r.grow then
    (decide ((w64 (((ref09_List ((ref25_Run s r.job).1.nodes)).length : Int) + ((ref09_List r.nodes).length : Int))) <= (ref25_Run s r.job).1.shape.max))
   else
    ((decide (p1.1 > 0)) && (decide ((w64 (((ref09_List ((ref25_Run s r.job).1.nodes)).length : Int) - ((ref09_List r.nodes).length : Int))) >= (ref25_Run s r.job).1.shape.min))))) (ref25_resize_g2 r s.nodes 0 0)
theorem g1_iff (s : State) (r : Resize) (hn : U64 r.nodes) (hs : U64 r.said) : ∀ (m n : Nat), n <= 64 -> 64 - n < m -> (ref25_resize_g1 s r m n = true ↔ (∀ k, n <= k -> k < 64 -> badB s r k = false) ∧ finB s r = true)
 | 0, _, _, h => absurd h (by omega)
 | m + 1, n, hn64, hm => by
  rw [ref25_resize_g1]
  rcases Nat.lt_or_ge n 64 with h | h
  ·rw [decide_eq_true (show (n : Int) < 64 by omega), has_tb hn h, has_tb hs h]
   have ih := g1_iff s r hn hs m (n + 1) (by omega) (by omega)
   show (bif (badB s r n) then false else ref25_resize_g1 s r m (n + 1)) = true ↔ _
   cases hb : badB s r n with
   | true =>
    refine ⟨fun h => (by cases h), fun h' => ?_⟩
    have := h'.1 n (Nat.le_refl _) h
    rw [hb] at this
    cases this
   | false =>
    simp only [cond_false]
    rw [ih]
    refine ⟨fun h' => ⟨fun k hk hk2 => ?_, h'.2⟩, fun h' => ⟨fun k hk hk2 => h'.1 k (by omega) hk2, h'.2⟩⟩
    rcases Nat.eq_or_lt_of_le hk with h1 | h1
    ·rw [← h1]; exact hb
    ·exact h'.1 k h1 hk2
  ·rw [decide_eq_false (show ¬ (n : Int) < 64 by omega)]
   show finB s r = true ↔ _
   exact ⟨fun h' => ⟨fun k hk hk2 => absurd hk2 (by omega), h'⟩, fun h' => h'.2⟩
theorem g2_spec (r : Resize) (hn : U64 r.nodes) : ∀ (l : List Node) (left : Int) (n : Nat), n + l.length <= 64 -> 0 <= left -> left <= n ->
  (∀ v, ref25_resize_g2 r l left n = Sum.inl v -> v = false) ∧
  ((∃ p, ref25_resize_g2 r l left n = Sum.inr p) ↔ ∀ (k : Nat) (x : Node), l[k]? = some x -> x.job = r.job -> x.state ≠ 3 -> ref25_moved x ((n + k : Nat) : Int) r = true) ∧
  (∀ p, ref25_resize_g2 r l left n = Sum.inr p -> left <= p.1 ∧ (left < p.1 ↔ ∃ (k : Nat) (x : Node), l[k]? = some x ∧ x.job = r.job ∧ x.state = 1 ∧ tb r.nodes (n + k) = false))
 | [], left, n, _, _, _ => by
  rw [ref25_resize_g2]
  refine ⟨fun v h => (by cases h), ⟨fun _ k x h => by simp at h, fun _ => ⟨_, rfl⟩⟩, fun p h => ?_⟩
  cases h
  refine ⟨Int.le_refl _, ⟨fun h => absurd h (Int.lt_irrefl _), fun ⟨k, x, h, _⟩ => by simp at h⟩⟩
 | x :: l, left, n, hlen, h0, hle => by
  simp only [List.length_cons] at hlen
  rw [ref25_resize_g2]
  have sh : ∀ (k : Nat), ((n + (k + 1) : Nat) : Int) = ((n + 1 + k : Nat) : Int) := fun k => by congr 1; omega
  have sh' : ∀ (k : Nat), n + (k + 1) = n + 1 + k := fun k => by omega
  cases hc : ((x.job != r.job) || (x.state == 3)) with
  | true =>
   simp only [cond_true]
   have hskip : ¬ (x.job = r.job ∧ x.state ≠ 3) := by
    rintro ⟨h1, h2⟩
    rw [h1] at hc
    simp at hc
    exact h2 hc
   obtain ⟨a, b, c⟩ := g2_spec r hn l left (n + 1) (by omega) h0 (by omega)
   refine ⟨a, b.trans ⟨fun h k y hk h1 h2 => ?_, fun h k y hk h1 h2 => ?_⟩, fun p hp => ⟨(c p hp).1, (c p hp).2.trans ⟨?_, ?_⟩⟩⟩
   ·rcases k with _ | k
    ·simp at hk; subst hk; exact absurd ⟨h1, h2⟩ hskip
    ·rw [sh]; exact h k y (by simpa using hk) h1 h2
   ·rw [← sh]; exact h (k + 1) y (by simpa using hk) h1 h2
   ·rintro ⟨k, y, hk, h1, h2, h3⟩
    exact ⟨k + 1, y, by simpa using hk, h1, h2, by rw [sh']; exact h3⟩
   ·rintro ⟨k, y, hk, h1, h2, h3⟩
    rcases k with _ | k
    ·simp at hk; subst hk; exact absurd ⟨h1, by omega⟩ hskip
    ·exact ⟨k, y, by simpa using hk, h1, h2, by rw [← sh']; exact h3⟩
  | false =>
   have hj : x.job = r.job ∧ x.state ≠ 3 := by
    obtain ⟨h1, h2⟩ := or_f hc
    exact ⟨by simpa using h1, by simpa using h2⟩
   simp only [cond_false]
   cases hm : ref25_moved x (n : Int) r with
   | false =>
    refine ⟨fun v h => (by cases h; rfl), ⟨fun ⟨p, h⟩ => (by cases h), fun h => ?_⟩, fun p h => (by cases h)⟩
    have := h 0 x rfl hj.1 hj.2
    rw [Nat.add_zero, hm] at this
    cases this
   | true =>
    rw [has_tb hn (show n < 64 by omega)]
    have hw : w64 (left + 1) = left + 1 := wr (by omega)
    simp only [Bool.not_true, cond_false]
    have mv' : (∀ (k : Nat) (y : Node), l[k]? = some y -> y.job = r.job -> y.state ≠ 3 -> ref25_moved y ((n + 1 + k : Nat) : Int) r = true) ↔ ∀ (k : Nat) (y : Node), (x :: l)[k]? = some y -> y.job = r.job -> y.state ≠ 3 -> ref25_moved y ((n + k : Nat) : Int) r = true := by
     constructor
     ·intro h k y hk h1 h2
      rcases k with _ | k
      ·simp at hk; subst hk; rw [Nat.add_zero]; exact hm
      ·rw [sh]; exact h k y (by simpa using hk) h1 h2
     ·intro h k y hk h1 h2
      rw [← sh]; exact h (k + 1) y (by simpa using hk) h1 h2
    cases hl : ((x.state == 1) && (!(tb r.nodes n))) with
    | true =>
     simp only [cond_true]
     rw [hw]
     obtain ⟨a, b, c⟩ := g2_spec r hn l (left + 1) (n + 1) (by omega) (by omega) (by omega)
     refine ⟨a, b.trans mv', fun p hp => ?_⟩
     obtain ⟨c1, _⟩ := c p hp
     refine ⟨by omega, ⟨fun _ => ⟨0, x, rfl, hj.1, ?_, ?_⟩, fun _ => by omega⟩⟩
     ·simp only [Bool.and_eq_true, beq_iff_eq] at hl
      exact hl.1
     ·simp only [Bool.and_eq_true, Bool.not_eq_true'] at hl
      exact hl.2
    | false =>
     simp only [cond_false]
     obtain ⟨a, b, c⟩ := g2_spec r hn l left (n + 1) (by omega) h0 (by omega)
     refine ⟨a, b.trans mv', fun p hp => ⟨(c p hp).1, (c p hp).2.trans ⟨?_, ?_⟩⟩⟩
     ·rintro ⟨k, y, hk, h1, h2, h3⟩
      exact ⟨k + 1, y, by simpa using hk, h1, h2, by rw [sh']; exact h3⟩
     ·rintro ⟨k, y, hk, h1, h2, h3⟩
      rcases k with _ | k
      ·simp at hk
       subst hk
       rw [Nat.add_zero] at h3
       rw [h2, h3] at hl
       cases hl
      ·exact ⟨k, y, by simpa using hk, h1, h2, by rw [← sh']; exact h3⟩
end Go.Proofs.YtigcpfbpmnppcaaGreatDoor
namespace Go.Proofs.YtigcpfbpmnppcaaGreatDoor
set_option linter.unusedSimpArgs false
set_option linter.unusedVariables false
open Go.Fw
section
variable (s : State) (r : Resize) (j : Job)
def AskP (c : Int) : Prop := ∀ k, k < 64 -> ((k < s.nodes.length ∧ (s.nodes.getD k Node.zero).job = r.job ∧ (s.nodes.getD k Node.zero).want = c) ↔ (tb r.nodes k = true ∧ tb r.said k = false))
def QuiP : Prop := ∀ k, k < 64 -> tb r.said k = true -> k < s.nodes.length ∧ (s.nodes.getD k Node.zero).want = 0
def SubP : Prop := ∀ k, k < 64 -> tb r.said k = true -> tb r.nodes k = true
def SameP : Prop := ∀ k, k < 64 -> (tb r.nodes k = true ↔ (k < s.nodes.length ∧ (s.nodes.getD k Node.zero).job = r.job ∧ (s.nodes.getD k Node.zero).state = 2))
def InP : Prop := ∀ k, k < 64 -> tb r.nodes k = true -> tb j.nodes k = true
def BaseP : Prop := j.shape.kind = 3 ∧ r.nodes ≠ 0 ∧ 0 <= r.since ∧ r.since <= 1000000
def GrowP : Prop := w64 ((nodeset_Count j.nodes) + (nodeset_Count r.nodes)) <= j.shape.max
def ShrP : Prop := w64 ((nodeset_Count j.nodes) - (nodeset_Count r.nodes)) >= j.shape.min
theorem andnot_zero {x y : Int} (hx : U64 x) (hy : U64 y) : ((wu64 (BitVec.ofInt 64 x &&& ~~~(BitVec.ofInt 64 y)).toNat) == 0) = true ↔ ∀ k, k < 64 -> tb x k = true -> tb y k = true := by
 rw [eq_zero_iff (wu64_U _)]
 refine ⟨fun h k hk hb => ?_, fun h k hk => ?_⟩
 ·have := h k hk
  rw [tb_andnot hx hy, hb] at this
  simpa using this
 ·rw [tb_andnot hx hy]
  cases hb : tb x k with
  | false => rfl
  | true => rw [h k hk hb]; rfl
theorem ask_iff (hn : U64 r.nodes) (hs : U64 r.said) (hl : s.nodes.length <= 64) (c : Int) :
  (state_where s (fun (y : Int) (y1 : Node) => ((y1.job == r.job) && (y1.want == c))) = wu64 (BitVec.ofInt 64 r.nodes &&& ~~~(BitVec.ofInt 64 r.said)).toNat) ↔ AskP s r c := by
 obtain ⟨u, b⟩ := state_where_bits s (fun (y : Int) (y1 : Node) => ((y1.job == r.job) && (y1.want == c))) hl
 have key : ∀ k, (tb (state_where s (fun (y : Int) (y1 : Node) => ((y1.job == r.job) && (y1.want == c)))) k = tb (wu64 (BitVec.ofInt 64 r.nodes &&& ~~~(BitVec.ofInt 64 r.said)).toNat) k) ↔ ((k < s.nodes.length ∧ (s.nodes.getD k Node.zero).job = r.job ∧ (s.nodes.getD k Node.zero).want = c) ↔ (tb r.nodes k = true ∧ tb r.said k = false)) := by
  intro k
  rw [b, tb_andnot hn hs, Bool.eq_iff_iff]
  simp
 constructor
 ·intro h k hk
  exact (key k).1 (by rw [h])
 ·intro h
  exact tb_ext u (wu64_U _) fun k hk => (key k).2 (h k hk)
theorem same_iff (hn : U64 r.nodes) (hc : fleet_Check s.nodes = 0) (hl : s.nodes.length <= 64) : (r.nodes = fleet_Of s.nodes r.job 2) ↔ SameP s r := by
 obtain ⟨u, b⟩ := fleet_where_bits s.nodes (fun (y : Node) => ((y.job == r.job) && (y.state == 2))) hc hl
 have key : ∀ k, (tb r.nodes k = tb (fleet_Of s.nodes r.job 2) k) ↔ (tb r.nodes k = true ↔ (k < s.nodes.length ∧ (s.nodes.getD k Node.zero).job = r.job ∧ (s.nodes.getD k Node.zero).state = 2)) := by
  intro k
  unfold fleet_Of
  rw [b, Bool.eq_iff_iff]
  simp
 constructor
 ·intro h k hk
  exact (key k).1 (by rw [← h])
 ·intro h
  exact tb_ext hn u fun k hk => (key k).2 (h k hk)
theorem prog_iff (hn : U64 r.nodes) (hs : U64 r.said) (hj : U64 j.nodes) (hc : fleet_Check s.nodes = 0) (hl : s.nodes.length <= 64) :
  state_resize s r j = true ↔ BaseP r j ∧ SubP r ∧ QuiP s r ∧ (if r.grow = true then AskP s r 2 ∧ SameP s r ∧ GrowP r j else AskP s r 4 ∧ InP r j ∧ ShrP r j) := by
 have k1 : ∀ c, state_resize_k1 s r j c = true ↔ AskP s r c ∧ QuiP s r ∧ (if r.grow = true then SameP s r ∧ GrowP r j else InP r j ∧ ShrP r j) := by
  intro c
  unfold state_resize_k1
  cases hcnd : (((state_where s (fun (y : Int) (y1 : Node) => ((y1.job == r.job) && (y1.want == c)))) != (wu64 (BitVec.ofInt 64 r.nodes &&& ~~~(BitVec.ofInt 64 r.said)).toNat)) || (!(alloc_Quiet s.nodes r.said))) with
  | true =>
   refine ⟨fun h => (by cases h), fun ⟨h1, h2, _⟩ => ?_⟩
   have e1 := (ask_iff s r hn hs hl c).2 h1
   have e2 := (quiet_iff hs hc).2 h2
   rw [e1, e2] at hcnd
   simp at hcnd
  | false =>
   obtain ⟨h1, h2⟩ := or_f hcnd
   have e1 : AskP s r c := (ask_iff s r hn hs hl c).1 (by simpa using h1)
   have e2 : QuiP s r := (quiet_iff hs hc).1 (by simpa using h2)
   simp only [cond_false]
   cases hg : r.grow with
   | true =>
    simp only [cond_true, Bool.and_eq_true, beq_iff_eq, decide_eq_true_eq, if_true]
    rw [same_iff s r hn hc hl]
    exact ⟨fun h => ⟨e1, e2, h⟩, fun h => h.2.2⟩
   | false =>
    simp only [cond_false, Bool.and_eq_true, decide_eq_true_eq]
    rw [andnot_zero hn hj]
    exact ⟨fun h => ⟨e1, e2, h⟩, fun h => h.2.2⟩
 unfold state_resize
 cases hcnd : (((((j.shape.kind != 3) || (r.nodes == 0)) || ((wu64 (BitVec.ofInt 64 r.said &&& ~~~(BitVec.ofInt 64 r.nodes)).toNat) != 0)) || (decide (r.since < 0))) || (decide (r.since > 1000000))) with
 | true =>
  refine ⟨fun h => (by cases h), fun ⟨⟨h1, h2, h3, h4⟩, h5, _⟩ => ?_⟩
  have e1 := (andnot_zero hs hn).2 h5
  have e1' : ((wu64 (BitVec.ofInt 64 r.said &&& ~~~(BitVec.ofInt 64 r.nodes)).toNat) != 0) = false := by unfold bne; rw [e1]; rfl
  rw [h1, e1', decide_eq_false (by omega), decide_eq_false (by omega)] at hcnd
  simp at hcnd
  exact absurd hcnd h2
 | false =>
  obtain ⟨h1, h2⟩ := or_f hcnd
  obtain ⟨h3, h4⟩ := or_f h1
  obtain ⟨h5, h6⟩ := or_f h3
  obtain ⟨h7, h8⟩ := or_f h5
  have b : BaseP r j := ⟨by simpa using h7, by simpa using h8, by have := of_decide_eq_false h4; omega, by have := of_decide_eq_false h2; omega⟩
  have sb : SubP r := (andnot_zero hs hn).1 (by unfold bne at h6; simpa using h6)
  simp only [cond_false]
  cases hg : r.grow with
  | true =>
   simp only [cond_true]
   rw [k1, hg]
   simp only [if_true]
   exact ⟨fun ⟨a, q, c⟩ => ⟨b, sb, q, a, c⟩, fun ⟨_, _, q, a, c⟩ => ⟨a, q, c⟩⟩
  | false =>
   simp only [cond_false]
   rw [k1, hg]
   exact ⟨fun ⟨a, q, c⟩ => ⟨b, sb, q, a, c⟩, fun ⟨_, _, q, a, c⟩ => ⟨a, q, c⟩⟩
def OwnP : Prop := ∀ k, k < 64 -> tb r.nodes k = true -> k < s.nodes.length ∧ (s.nodes.getD k Node.zero).job = r.job ∧ (s.nodes.getD k Node.zero).state ≠ 3
def MovP : Prop := ∀ k, k < s.nodes.length -> (s.nodes.getD k Node.zero).job = r.job -> (s.nodes.getD k Node.zero).state ≠ 3 -> ref25_moved (s.nodes.getD k Node.zero) (k : Int) r = true
def LeftP : Prop := ∃ k, k < s.nodes.length ∧ (s.nodes.getD k Node.zero).job = r.job ∧ (s.nodes.getD k Node.zero).state = 1 ∧ tb r.nodes k = false
theorem get_iff {α : Type} (d : α) (l : List α) (p : Nat -> α -> Prop) : (∀ (k : Nat) (x : α), l[k]? = some x -> p k x) ↔ ∀ k, k < l.length -> p k (l.getD k d) := by
 constructor
 ·intro h k hk
  exact h k _ (by simp [List.getD, List.getElem?_eq_getElem hk])
 ·intro h k x hx
  have hk := (List.getElem?_eq_some_iff.1 hx).1
  have := h k hk
  rw [List.getD, hx] at this
  exact this
theorem get_ex {α : Type} (d : α) (l : List α) (p : Nat -> α -> Prop) : (∃ (k : Nat) (x : α), l[k]? = some x ∧ p k x) ↔ ∃ k, k < l.length ∧ p k (l.getD k d) := by
 constructor
 ·rintro ⟨k, x, hx, h⟩
  refine ⟨k, (List.getElem?_eq_some_iff.1 hx).1, ?_⟩
  rw [List.getD, hx]
  exact h
 ·rintro ⟨k, hk, h⟩
  exact ⟨k, _, by simp [List.getD, List.getElem?_eq_getElem hk], h⟩
theorem ref_iff (hn : U64 r.nodes) (hs : U64 r.said) (hj : U64 j.nodes) (hl : s.nodes.length <= 64) (hrun : ref25_Run s r.job = (j, true)) :
  ref25_resize s r = true ↔ BaseP r j ∧ SubP r ∧ OwnP s r ∧ MovP s r ∧ (if r.grow = true then GrowP r j else LeftP s r ∧ ShrP r j) := by
 obtain ⟨g1, g2, g3⟩ := g2_spec r hn s.nodes 0 0 (by omega) (by omega) (by omega)
 have hmov : (∃ p, ref25_resize_g2 r s.nodes 0 0 = Sum.inr p) ↔ MovP s r := by
  rw [g2]
  have := get_iff Node.zero s.nodes (fun k x => x.job = r.job -> x.state ≠ 3 -> ref25_moved x ((0 + k : Nat) : Int) r = true)
  rw [this]
  unfold MovP
  simp only [Nat.zero_add]
 have hleft : ∀ p, ref25_resize_g2 r s.nodes 0 0 = Sum.inr p -> (decide (p.1 > 0) = true ↔ LeftP s r) := by
  intro p hp
  have := (g3 p hp).2
  rw [decide_eq_true_eq, gt_iff_lt, this]
  have := get_ex Node.zero s.nodes (fun k x => x.job = r.job ∧ x.state = 1 ∧ tb r.nodes (0 + k) = false)
  rw [this]
  unfold LeftP
  simp only [Nat.zero_add]
 have hfin : finB s r = true ↔ MovP s r ∧ (if r.grow = true then GrowP r j else LeftP s r ∧ ShrP r j) := by
  unfold finB
  rw [hrun]
  simp only
  rw [← count_list hj, ← count_list hn]
  cases hg : ref25_resize_g2 r s.nodes 0 0 with
  | inl v =>
   have hv := g1 v hg
   subst hv
   refine ⟨fun h => (by cases h), fun h => ?_⟩
   obtain ⟨p, hp⟩ := hmov.2 h.1
   rw [hg] at hp
   cases hp
  | inr p =>
   have hm := hmov.1 ⟨p, hg⟩
   have hlp := hleft p hg
   simp only [Sum.elim_inr]
   cases r.grow with
   | true =>
    simp only [cond_true, decide_eq_true_eq, if_true]
    exact ⟨fun h => ⟨hm, h⟩, fun h => h.2⟩
   | false =>
    simp only [cond_false, Bool.and_eq_true]
    rw [hlp, decide_eq_true_eq]
    exact ⟨fun h => ⟨hm, h⟩, fun h => h.2⟩
 have hbad : (∀ k, 0 <= k -> k < 64 -> badB s r k = false) ↔ SubP r ∧ OwnP s r := by
  constructor
  ·intro h
   refine ⟨fun k hk hb => ?_, fun k hk hb => ?_⟩
   ·have := (or_f (h k (Nat.zero_le _) hk)).1
    rw [hb] at this
    simpa using this
   ·have := (or_f (h k (Nat.zero_le _) hk)).2
    rw [hb] at this
    simp only [Bool.true_and] at this
    obtain ⟨h1, h2⟩ := or_f this
    obtain ⟨h3, h4⟩ := or_f h1
    have h3 := of_decide_eq_false h3
    exact ⟨by omega, by simpa using h4, by simpa using h2⟩
  ·rintro ⟨h1, h2⟩ k _ hk
   unfold badB
   cases hb : tb r.nodes k with
   | true =>
    obtain ⟨q1, q2, q3⟩ := h2 k hk hb
    have q3' : ((s.nodes.getD k Node.zero).state == 3) = false := beq_eq_false_iff_ne.2 q3
    rw [q2, decide_eq_false (by omega), q3']
    simp
   | false =>
    cases ha : tb r.said k with
    | true => rw [h1 k hk ha] at hb; cases hb
    | false => rfl
 have hg1 := g1_iff s r hn hs ((Int.toNat (64 - (0 : Int))) + 1) 0 (by omega) (by omega)
 unfold ref25_resize
 rw [hrun]
 simp only
 cases hcnd : (((((!true) || (j.shape.kind != 3)) || (r.nodes == 0)) || (decide (r.since < 0))) || (decide (r.since > 1000000))) with
 | true =>
  refine ⟨fun h => (by cases h), fun ⟨⟨h1, h2, h3, h4⟩, _⟩ => ?_⟩
  rw [h1, decide_eq_false (by omega), decide_eq_false (by omega)] at hcnd
  simp at hcnd
  exact absurd hcnd h2
 | false =>
  obtain ⟨h1, h2⟩ := or_f hcnd
  obtain ⟨h3, h4⟩ := or_f h1
  obtain ⟨h5, h6⟩ := or_f h3
  have b : BaseP r j := ⟨by simpa using h5, by simpa using h6, by have := of_decide_eq_false h4; omega, by have := of_decide_eq_false h2; omega⟩
  simp only [cond_false]
  rw [hg1, hbad, hfin]
  exact ⟨fun ⟨⟨a, c⟩, d, e⟩ => ⟨b, a, c, d, e⟩, fun ⟨_, a, c, d, e⟩ => ⟨⟨a, c⟩, d, e⟩⟩
theorem moved_grow (hn : U64 r.nodes) (hs : U64 r.said) (hg : r.grow = true) {k : Nat} (hk : k < 64) (x : Node) : ref25_moved x (k : Int) r = true ↔ (tb r.nodes k = true ↔ x.state = 2) ∧ (tb r.nodes k = true -> (tb r.said k = true ∧ x.want = 0) ∨ (tb r.said k = false ∧ x.want = 2)) := by
 unfold ref25_moved
 rw [hg, has_tb hn hk, has_tb hs hk]
 simp only [cond_true]
 cases tb r.nodes k <;> cases tb r.said k <;> by_cases h : x.state = 2 <;> simp [h]
theorem moved_shr (hn : U64 r.nodes) (hs : U64 r.said) (hg : r.grow = false) {k : Nat} (hk : k < 64) (x : Node) : ref25_moved x (k : Int) r = true ↔ (tb r.nodes k = true -> x.state = 1) ∧ (tb r.nodes k = false -> x.want ≠ 4) ∧ (tb r.nodes k = true -> (tb r.said k = true ∧ x.want = 0) ∨ (tb r.said k = false ∧ x.want = 4)) := by
 unfold ref25_moved
 rw [hg, has_tb hn hk, has_tb hs hk]
 simp only [cond_false]
 cases tb r.nodes k <;> cases tb r.said k <;> by_cases h : x.state = 1 <;> by_cases h4 : x.want = 4 <;> simp [h, h4]
theorem resize_eq (hn : U64 r.nodes) (hs : U64 r.said) (hj : U64 j.nodes) (hc : fleet_Check s.nodes = 0) (hrun : ref25_Run s r.job = (j, true)) (hjc : job_Check j = 0)
  (hb : ∀ k, tb j.nodes k = true ↔ (k < s.nodes.length ∧ (s.nodes.getD k Node.zero).job = r.job ∧ (s.nodes.getD k Node.zero).state = 1)) : state_resize s r j = ref25_resize s r := by
 obtain ⟨hl48, hfw⟩ := fine_want hc
 have hl : s.nodes.length <= 64 := by omega
 have hw : ∀ k, k < s.nodes.length -> ((s.nodes.getD k Node.zero).want = 2 -> (s.nodes.getD k Node.zero).state = 2) ∧ ((s.nodes.getD k Node.zero).want = 4 -> (s.nodes.getD k Node.zero).state = 1) := by
  intro k hk
  have hm : s.nodes.getD k Node.zero ∈ s.nodes := by
   rw [List.getD, List.getElem?_eq_getElem hk]
   exact List.getElem_mem _
  exact hfw _ hm
 rw [Bool.eq_iff_iff, prog_iff s r j hn hs hj hc hl, ref_iff s r j hn hs hj hl hrun]
 cases hg : r.grow with
 | true =>
  simp only [if_true]
  constructor
  ·rintro ⟨hB, hS, hQ, hA, hSm, hG⟩
   refine ⟨hB, hS, fun k hk hkn => ?_, fun k hk h1 h2 => ?_, hG⟩
   ·obtain ⟨a, b, c⟩ := (hSm k hk).1 hkn
    exact ⟨a, b, by omega⟩
   ·have hk64 : k < 64 := by omega
    rw [moved_grow r hn hs hg hk64]
    refine ⟨⟨fun h => ((hSm k hk64).1 h).2.2, fun h => (hSm k hk64).2 ⟨hk, h1, h⟩⟩, fun h => ?_⟩
    cases ha : tb r.said k with
    | true => exact .inl ⟨rfl, (hQ k hk64 ha).2⟩
    | false => exact .inr ⟨rfl, ((hA k hk64).2 ⟨h, ha⟩).2.2⟩
  ·rintro ⟨hB, hS, hO, hM, hG⟩
   have mv : ∀ k, k < 64 -> tb r.nodes k = true -> k < s.nodes.length ∧ (s.nodes.getD k Node.zero).job = r.job ∧ (s.nodes.getD k Node.zero).state = 2 ∧ ((tb r.said k = true ∧ (s.nodes.getD k Node.zero).want = 0) ∨ (tb r.said k = false ∧ (s.nodes.getD k Node.zero).want = 2)) := by
    intro k hk h
    obtain ⟨a, b, c⟩ := hO k hk h
    obtain ⟨d, e⟩ := (moved_grow r hn hs hg hk _).1 (hM k a b c)
    exact ⟨a, b, d.1 h, e h⟩
   have back : ∀ k, k < s.nodes.length -> (s.nodes.getD k Node.zero).job = r.job -> (s.nodes.getD k Node.zero).state = 2 -> tb r.nodes k = true := by
    intro k hk h1 h2
    exact ((moved_grow r hn hs hg (by omega) _).1 (hM k hk h1 (by omega))).1.2 h2
   refine ⟨hB, hS, fun k hk ha => ?_, fun k hk => ⟨fun ⟨a, b, c⟩ => ?_, fun ⟨a, b⟩ => ?_⟩, fun k hk => ⟨fun h => ?_, fun ⟨a, b, c⟩ => back k a b c⟩, hG⟩
   ·obtain ⟨a, b, c, d⟩ := mv k hk (hS k hk ha)
    rcases d with d | d
    ·exact ⟨a, d.2⟩
    ·rw [ha] at d; cases d.1
   ·have hin := back k a b ((hw k a).1 c)
    refine ⟨hin, ?_⟩
    obtain ⟨_, _, _, d⟩ := mv k hk hin
    rcases d with d | d
    ·omega
    ·exact d.1
   ·obtain ⟨p, q, _, d⟩ := mv k hk a
    rcases d with d | d
    ·rw [b] at d; cases d.1
    ·exact ⟨p, q, d.2⟩
   ·obtain ⟨a, b, c, _⟩ := mv k hk h
    exact ⟨a, b, c⟩
 | false =>
  have ef : (if false = true then GrowP r j else LeftP s r ∧ ShrP r j) = (LeftP s r ∧ ShrP r j) := by simp
  have ef' : (if false = true then AskP s r 2 ∧ SameP s r ∧ GrowP r j else AskP s r 4 ∧ InP r j ∧ ShrP r j) = (AskP s r 4 ∧ InP r j ∧ ShrP r j) := by simp
  rw [ef, ef']
  constructor
  ·rintro ⟨hB, hS, hQ, hA, hI, hSh⟩
   have inb : ∀ k, k < 64 -> tb r.nodes k = true -> k < s.nodes.length ∧ (s.nodes.getD k Node.zero).job = r.job ∧ (s.nodes.getD k Node.zero).state = 1 := fun k hk h => (hb k).1 (hI k hk h)
   refine ⟨hB, hS, fun k hk hkn => ?_, fun k hk h1 h2 => ?_, ?_, hSh⟩
   ·obtain ⟨a, b, c⟩ := inb k hk hkn
    exact ⟨a, b, by omega⟩
   ·have hk64 : k < 64 := by omega
    rw [moved_shr r hn hs hg hk64]
    refine ⟨fun h => (inb k hk64 h).2.2, fun h h4 => ?_, fun h => ?_⟩
    ·have := ((hA k hk64).1 ⟨hk, h1, h4⟩).1
     rw [h] at this
     cases this
    ·cases ha : tb r.said k with
     | true => exact .inl ⟨rfl, (hQ k hk64 ha).2⟩
     | false => exact .inr ⟨rfl, ((hA k hk64).2 ⟨h, ha⟩).2.2⟩
   ·apply Classical.byContradiction
    intro hno
    have heq : j.nodes = r.nodes := tb_ext hj hn fun k hk => by
     rw [Bool.eq_iff_iff]
     refine ⟨fun h => ?_, fun h => hI k hk h⟩
     obtain ⟨a, b, c⟩ := (hb k).1 h
     cases hx : tb r.nodes k with
     | true => rfl
     | false => exact absurd ⟨k, a, b, c, hx⟩ hno
    unfold ShrP at hSh
    rw [heq, Int.sub_self] at hSh
    have hz : w64 0 = 0 := wr (by omega)
    rw [hz] at hSh
    have hmin := shape_Check_mal (s := j.shape) (by rw [job_shape hjc]; rfl) (by rw [hB.1]; rfl)
    omega
  ·rintro ⟨hB, hS, hO, hM, _, hSh⟩
   have mv : ∀ k, k < 64 -> tb r.nodes k = true -> k < s.nodes.length ∧ (s.nodes.getD k Node.zero).job = r.job ∧ (s.nodes.getD k Node.zero).state = 1 ∧ ((tb r.said k = true ∧ (s.nodes.getD k Node.zero).want = 0) ∨ (tb r.said k = false ∧ (s.nodes.getD k Node.zero).want = 4)) := by
    intro k hk h
    obtain ⟨a, b, c⟩ := hO k hk h
    obtain ⟨d, _, e⟩ := (moved_shr r hn hs hg hk _).1 (hM k a b c)
    exact ⟨a, b, d h, e h⟩
   refine ⟨hB, hS, fun k hk ha => ?_, fun k hk => ⟨fun ⟨a, b, c⟩ => ?_, fun ⟨a, b⟩ => ?_⟩, fun k hk h => ?_, hSh⟩
   ·obtain ⟨a, b, c, d⟩ := mv k hk (hS k hk ha)
    rcases d with d | d
    ·exact ⟨a, d.2⟩
    ·rw [ha] at d; cases d.1
   ·have hst := (hw k a).2 c
    obtain ⟨_, m2, _⟩ := (moved_shr r hn hs hg hk _).1 (hM k a b (by omega))
    have hin : tb r.nodes k = true := by
     cases hx : tb r.nodes k with
     | true => rfl
     | false => exact absurd c (m2 hx)
    refine ⟨hin, ?_⟩
    obtain ⟨_, _, _, d⟩ := mv k hk hin
    rcases d with d | d
    ·omega
    ·exact d.1
   ·obtain ⟨p, q, _, d⟩ := mv k hk a
    rcases d with d | d
    ·rw [b] at d; cases d.1
    ·exact ⟨p, q, d.2⟩
   ·obtain ⟨a, b, c, _⟩ := mv k hk h
    exact (hb k).2 ⟨a, b, c⟩
end
end Go.Proofs.YtigcpfbpmnppcaaGreatDoor
namespace Go.Proofs.YtigcpfbpmnppcaaGreatDoor
set_option linter.unusedSimpArgs false
set_option linter.unusedVariables false
open Go.Fw
theorem okloop (len : Nat) (c : Nat -> Bool) (G : Nat -> Bool -> Nat -> Bool × Nat) (g : ∀ m ok i, G (m + 1) ok i = bif ((decide ((i : Int) < (len : Int))) && ok) then G m (c i) (i + 1) else (ok, i)) :
  ∀ (m : Nat) (ok : Bool) (i : Nat), i <= len -> len - i < m -> ((G m ok i).1 = true ↔ ok = true ∧ ∀ k, i <= k -> k < len -> c k = true)
 | 0, _, _, _, h => absurd h (by omega)
 | m + 1, ok, i, hi, hm => by
  rw [g]
  rcases Nat.lt_or_ge i len with h | h
  ·rw [decide_eq_true (show (i : Int) < (len : Int) by omega)]
   cases ok with
   | false => exact ⟨fun h => (by cases h), fun h => (by cases h.1)⟩
   | true =>
    simp only [Bool.and_true, cond_true, true_and]
    rw [okloop len c G g m (c i) (i + 1) (by omega) (by omega)]
    refine ⟨fun ⟨h1, h2⟩ k hk hk2 => ?_, fun h' => ⟨h' i (Nat.le_refl _) h, fun k hk hk2 => h' k (by omega) hk2⟩⟩
    rcases Nat.eq_or_lt_of_le hk with h3 | h3
    ·rw [← h3]; exact h1
    ·exact h2 k h3 hk2
  ·rw [decide_eq_false (show ¬ (i : Int) < (len : Int) by omega)]
   exact ⟨fun h' => ⟨h', fun k hk hk2 => absurd hk2 (by omega)⟩, fun h' => h'.1⟩
theorem last_job : ∀ (l : List Job) (x : Int) (i : Nat), (ref25_Check_g1 l x i).1 = state_Check_g1 l x i
 | [], _, _ => rfl
 | y :: r, x, i => by rw [ref25_Check_g1, state_Check_g1]; exact last_job r _ _
theorem last_book : ∀ (l : List Book) (x : Int) (i : Nat), (ref25_Check_g2 l x i).1 = state_Check_g2 l x i
 | [], _, _ => rfl
 | y :: r, x, i => by rw [ref25_Check_g2, state_Check_g2]; exact last_book r _ _
theorem next_eq (n l : Int) : state_next n l = ref25_next n l := by
 unfold state_next ref25_next
 rw [Bool.eq_iff_iff]
 simp only [Bool.and_eq_true, decide_eq_true_eq]
 omega
def setAll (c : List (Int × Resize)) (l : List Resize) : List (Int × Resize) := l.foldl (fun c r => setM r.job r c) c
section
variable (s : State)
def rzP (c : List (Int × Job)) (k : Nat) : Bool := !(((!(getM (s.resizes.getD k Resize.zero).job c).isSome) || ((decide ((k : Int) > 0)) && (decide ((s.resizes.getD (Int.toNat (w64 ((k : Int) - 1))) Resize.zero).job >= (s.resizes.getD k Resize.zero).job)))) || (!(state_resize s (s.resizes.getD k Resize.zero) ((getM (s.resizes.getD k Resize.zero).job c).getD Job.zero))))
def heldB (c : List (Int × Job)) : Bool := c.all (fun (en : Int × Job) => (bif ((alloc_Held s.nodes en.1) != en.2.nodes) then false else true))
theorem g4_iff (a b : Int) (c : List (Int × Job)) : ∀ (l : List Resize) (i : Nat) (c2 : List (Int × Resize)), l = s.resizes.drop i -> i + l.length = s.resizes.length ->
  (state_Check_g4 s a b c l i c2 = 0 ↔ (∀ k, i <= k -> k < s.resizes.length -> rzP s c k = true) ∧ state_next s.nextJob a = true ∧ state_next s.nextBook b = true ∧ state_nodes s c (setAll c2 l) = true ∧ heldB s c = true) ∧
  (state_Check_g4 s a b c l i c2 = 0 ∨ state_Check_g4 s a b c l i c2 = 141)
 | [], i, c2, hl, hlen => by
  simp only [List.length_nil, Nat.add_zero] at hlen
  rw [state_Check_g4]
  show ((bif ((((!true) || (!(state_next s.nextJob a))) || (!(state_next s.nextBook b))) || (!(state_nodes s c c2))) then (141 : Int) else bif heldB s c then 0 else 141) = 0 ↔ _) ∧ ((bif ((((!true) || (!(state_next s.nextJob a))) || (!(state_next s.nextBook b))) || (!(state_nodes s c c2))) then (141 : Int) else bif heldB s c then 0 else 141) = 0 ∨ (bif ((((!true) || (!(state_next s.nextJob a))) || (!(state_next s.nextBook b))) || (!(state_nodes s c c2))) then (141 : Int) else bif heldB s c then 0 else 141) = 141)
  have hv : (∀ k, i <= k -> k < s.resizes.length -> rzP s c k = true) := fun k h1 h2 => absurd h2 (by omega)
  show _ ∧ _
  unfold setAll
  simp only [List.foldl_nil]
  cases state_next s.nextJob a <;> cases state_next s.nextBook b <;> cases state_nodes s c c2 <;> cases heldB s c <;> first | (simp; done) | (simp; exact hv)
 | x :: r, i, c2, hl, hlen => by
  simp only [List.length_cons] at hlen
  have hr' : r = s.resizes.drop (i + 1) := by rw [← List.drop_drop, ← hl]; rfl
  have hi : s.resizes[i]? = some x := by
   have := congrArg (fun q => q[0]?) hl
   simpa [List.getElem?_drop] using this.symm
  have hg : s.resizes.getD i Resize.zero = x := by rw [List.getD, hi]; rfl
  rw [state_Check_g4]
  have hz : (((!(getM x.job c).isSome) || ((decide ((i : Int) > 0)) && (decide ((s.resizes.getD (Int.toNat (w64 ((i : Int) - 1))) Resize.zero).job >= x.job)))) || (!(state_resize s x ((getM x.job c).getD Job.zero)))) = !(rzP s c i) := by
   unfold rzP
   rw [hg, Bool.not_not]
  rw [hz]
  obtain ⟨ih1, ih2⟩ := g4_iff a b c r (i + 1) (setM x.job x c2) hr' (by omega)
  cases hq : rzP s c i with
  | false =>
   refine ⟨⟨fun h => (by cases h), fun h => ?_⟩, .inr rfl⟩
   have := h.1 i (Nat.le_refl _) (by omega)
   rw [hq] at this
   cases this
  | true =>
   simp only [Bool.not_true, cond_false]
   refine ⟨ih1.trans ?_, ih2⟩
   show _ ∧ _ ∧ _ ∧ state_nodes s c (setAll c2 (x :: r)) = true ∧ _ ↔ _
   refine and_congr ⟨fun h k hk hk2 => ?_, fun h k hk hk2 => h k (by omega) hk2⟩ Iff.rfl
   rcases Nat.eq_or_lt_of_le hk with h3 | h3
   ·rw [← h3]; exact hq
   ·exact h k h3 hk2
theorem setM_only {α β : Type} [BEq α] (k : α) (v : β) : ∀ (l : List (α × β)) (e : α × β), e ∈ setM k v l -> e = (k, v) ∨ e ∈ l
 | [], e, h => by simp [setM] at h; exact .inl h
 | p :: r, e, h => by
  rw [setM] at h
  cases hk : k == p.1 with
  | true =>
   rw [hk] at h
   rcases List.mem_cons.1 h with h | h
   ·exact .inl h
   ·exact .inr (List.mem_cons_of_mem _ h)
  | false =>
   rw [hk] at h
   rcases List.mem_cons.1 h with h | h
   ·exact .inr (by rw [h]; exact List.mem_cons_self ..)
   ·rcases setM_only k v r e h with h | h
    ·exact .inl h
    ·exact .inr (List.mem_cons_of_mem _ h)
theorem running_only : ∀ (l : List Job) (i : Nat) (c : List (Int × Job)) (e : Int × Job), e ∈ state_Check_g3 l i c -> e ∈ c ∨ ∃ x ∈ l, x.state = 2 ∧ e = (x.id, x)
 | [], _, _, _, h => .inl h
 | x :: r, i, c, e, h => by
  rw [state_Check_g3] at h
  cases hs : (x.state == 2) with
  | true =>
   rw [hs] at h
   rcases running_only r (i + 1) _ e h with h | ⟨y, hy, q⟩
   ·rcases setM_only _ _ _ _ h with h | h
    ·exact .inr ⟨x, List.mem_cons_self .., by simpa using hs, h⟩
    ·exact .inl h
   ·exact .inr ⟨y, List.mem_cons_of_mem _ hy, q⟩
  | false =>
   rw [hs] at h
   rcases running_only r (i + 1) _ e h with h | ⟨y, hy, q⟩
   ·exact .inl h
   ·exact .inr ⟨y, List.mem_cons_of_mem _ hy, q⟩
theorem held_iff (hp : s.jobs.Pairwise (fun a b => a.id < b.id)) (hid : ∀ x ∈ s.jobs, 1 <= x.id) : heldB s (state_Check_g3 s.jobs 0 []) = true ↔ ∀ x ∈ s.jobs, x.state = 2 -> ref12_Of s.nodes x.id 1 = x.nodes := by
 have hh : ∀ x ∈ s.jobs, alloc_Held s.nodes x.id = ref12_Of s.nodes x.id 1 := fun x hx => by
  unfold alloc_Held
  rw [decide_eq_false (by have := hid x hx; omega), ← of_eq]
  rfl
 unfold heldB
 rw [List.all_eq_true]
 constructor
 ·intro h x hx hs
  have := h _ (running_mem x s.jobs 0 [] (.inr ⟨hx, hs, hp⟩))
  simp only [hh x hx] at this
  cases hq : (ref12_Of s.nodes x.id 1 != x.nodes) with
  | false => simpa using hq
  | true => rw [hq] at this; cases this
 ·intro h e he
  rcases running_only s.jobs 0 [] e he with h' | ⟨x, hx, hs, rfl⟩
  ·exact nomatch h'
  ·have := h x hx hs
   simp only [hh x hx, this]
   simp
theorem getM_all_none (id : Int) : ∀ (l : List Resize) (c : List (Int × Resize)), (∀ x ∈ l, x.job ≠ id) -> getM id (setAll c l) = getM id c
 | [], _, _ => rfl
 | x :: r, c, h => by
  show getM id (setAll (setM x.job x c) r) = _
  have hb : (id == x.job) = false := by simpa using Ne.symm (h x (List.mem_cons_self ..))
  rw [getM_all_none id r _ (fun y hy => h y (List.mem_cons_of_mem _ hy)), getM_set, hb]
  rfl
theorem all_of (id : Int) : ∀ (l : List Resize) (c : List (Int × Resize)) (i : Nat), l.Pairwise (fun a b => a.job < b.job) -> getM id c = none -> (getM id (setAll c l)).getD Resize.zero = ref25_of_g1 id l i
 | [], c, i, _, hc => by
  show (getM id c).getD Resize.zero = _
  rw [hc]
  rfl
 | x :: r, c, i, hp, hc => by
  obtain ⟨h1, h2⟩ := List.pairwise_cons.1 hp
  show (getM id (setAll (setM x.job x c) r)).getD Resize.zero = _
  rw [ref25_of_g1]
  cases hx : x.job == id with
  | true =>
   have e := eq_of_beq hx
   rw [getM_all_none id r _ (fun y hy => by have := h1 y hy; omega), getM_set, ← e, beq_self_eq_true]
   rfl
  | false =>
   have hb : (id == x.job) = false := by
    have : x.job ≠ id := by simpa using hx
    simpa using Ne.symm this
   exact all_of id r _ (i + 1) h2 (by rw [getM_set, hb]; exact hc)
theorem nodes_iff (c : List (Int × Job)) (all_ : List (Int × Resize)) (f : Nat -> Bool) : ∀ (l : List Node) (i : Nat), l = s.nodes.drop i -> i + l.length = s.nodes.length ->
  (∀ k, k < s.nodes.length -> f k = !(((((s.nodes.getD k Node.zero).state == 1) && ((!(getM (s.nodes.getD k Node.zero).job c).isSome) || (!(nodeset_Has (((getM (s.nodes.getD k Node.zero).job c).getD Job.zero).nodes) (k : Int))))) || (((s.nodes.getD k Node.zero).state == 2) && (!(getM (s.nodes.getD k Node.zero).job c).isSome))) || ((((s.nodes.getD k Node.zero).state == 2) || ((s.nodes.getD k Node.zero).want == 4)) && (!(nodeset_Has (((getM (s.nodes.getD k Node.zero).job all_).getD Resize.zero).nodes) (k : Int)))) || (((s.nodes.getD k Node.zero).state == 3) && (decide ((s.nodes.getD k Node.zero).job >= s.nextJob))))) ->
  (state_nodes_g1 s c all_ l i = true ↔ ∀ k, i <= k -> k < s.nodes.length -> f k = true)
 | [], i, _, hlen, _ => by
  simp only [List.length_nil, Nat.add_zero] at hlen
  exact ⟨fun _ k h1 h2 => absurd h2 (by omega), fun _ => rfl⟩
 | x :: r, i, hl, hlen, hf => by
  simp only [List.length_cons] at hlen
  have hr' : r = s.nodes.drop (i + 1) := by rw [← List.drop_drop, ← hl]; rfl
  have hi : s.nodes[i]? = some x := by
   have := congrArg (fun q => q[0]?) hl
   simpa [List.getElem?_drop] using this.symm
  have hg : s.nodes.getD i Node.zero = x := by rw [List.getD, hi]; rfl
  have ih := nodes_iff c all_ f r (i + 1) hr' (by omega) hf
  have hfi := hf i (by omega)
  rw [hg] at hfi
  rw [state_nodes_g1]
  have step : ∀ A B C D : Bool, ∀ Z : Bool, (bif A then false else bif B then false else bif C then false else bif D then false else Z) = (!((((A || B) || C) || D)) && Z) := by decide
  rw [step, ← hfi]
  cases hq : f i with
  | false =>
   refine ⟨fun h => (by cases h), fun h => ?_⟩
   have := h i (Nat.le_refl _) (by omega)
   rw [hq] at this
   cases this
  | true =>
   simp only [Bool.true_and]
   rw [ih]
   refine ⟨fun h k hk hk2 => ?_, fun h k hk hk2 => h k (by omega) hk2⟩
   rcases Nat.eq_or_lt_of_le hk with h3 | h3
   ·rw [← h3]; exact hq
   ·exact h k h3 hk2
theorem nodes_eq (hp : s.jobs.Pairwise (fun a b => a.id < b.id)) (hz : s.resizes.Pairwise (fun a b => a.job < b.job)) (hn : ∀ x ∈ s.jobs, U64 x.nodes) (hr : ∀ r ∈ s.resizes, U64 r.nodes) :
  state_nodes s (state_Check_g3 s.jobs 0 []) (setAll [] s.resizes) = true ↔ ∀ k, k < s.nodes.length -> ref25_node s (k : Int) = true := by
 unfold state_nodes
 rw [nodes_iff s _ _ (fun k => ref25_node s (k : Int)) s.nodes 0 (by simp) (by omega) ?_]
 ·exact ⟨fun h k hk => h k (Nat.zero_le _) hk, fun h k _ hk => h k hk⟩
 ·intro k hk
  obtain ⟨q1, q2⟩ := run_get hp (s.nodes.getD k Node.zero).job
  have q3 : (getM (s.nodes.getD k Node.zero).job (setAll [] s.resizes)).getD Resize.zero = ref25_of s (s.nodes.getD k Node.zero).job := all_of _ s.resizes [] 0 hz rfl
  have uj : U64 (ref25_Run s (s.nodes.getD k Node.zero).job).1.nodes := by
   by_cases h : ∃ x ∈ s.jobs, x.id = (s.nodes.getD k Node.zero).job
   ·obtain ⟨x, hx, e⟩ := h
    rw [← e, run_some hp hx]
    split
    ·exact hn x hx
    ·exact .zero
   ·rw [run_none _ (fun x hx e => h ⟨x, hx, e⟩)]
    exact .zero
  have ur : ∀ id, U64 (ref25_of s id).nodes := by
   intro id
   unfold ref25_of
   have : ∀ (l : List Resize) (i : Nat), (∀ r ∈ l, U64 r.nodes) -> U64 (ref25_of_g1 id l i).nodes := by
    intro l
    induction l with
    | nil => exact fun _ _ => .zero
    | cons y t ih =>
     intro i h
     rw [ref25_of_g1]
     cases (y.job == id) with
     | true => exact h y (List.mem_cons_self ..)
     | false => exact ih (i + 1) fun r hr => h r (List.mem_cons_of_mem _ hr)
   exact this _ _ hr
  rw [q1, q2, q3]
  unfold ref25_node ref25_Has
  rw [Int.toNat_natCast, has_eq uj, has_eq (ur _)]
  generalize (s.nodes.getD k Node.zero).state = st
  generalize (ref25_Run s (s.nodes.getD k Node.zero).job).2 = ru
  generalize nodeset_Has (ref25_Run s (s.nodes.getD k Node.zero).job).1.nodes (k : Int) = h1
  generalize nodeset_Has (ref25_of s (s.nodes.getD k Node.zero).job).nodes (k : Int) = h2
  generalize decide ((s.nodes.getD k Node.zero).job >= s.nextJob) = dn
  generalize ((s.nodes.getD k Node.zero).want == 4) = wa
  by_cases e1 : st = 1
  ·subst e1
   revert ru h1 h2 dn wa
   decide
  by_cases e2 : st = 2
  ·subst e2
   revert ru h1 h2 dn wa
   decide
  by_cases e3 : st = 3
  ·subst e3
   revert ru h1 h2 dn wa
   decide
  have b1 : (st == 1) = false := by simpa using e1
  have b2 : (st == 2) = false := by simpa using e2
  have b3 : (st == 3) = false := by simpa using e3
  rw [b1, b2, b3]
  revert ru h1 h2 dn wa
  decide
end
end Go.Proofs.YtigcpfbpmnppcaaGreatDoor
namespace Go.Proofs.YtigcpfbpmnppcaaGreatDoor
set_option linter.unusedSimpArgs false
set_option linter.unusedVariables false
open Go.Fw
structure Words (s : State) : Prop where
 sz : s.sz
 jobs : ∀ x ∈ s.jobs, U64 x.nodes
 nodes : ∀ r ∈ s.resizes, U64 r.nodes
 said : ∀ r ∈ s.resizes, U64 r.said
section
variable {s : State}
def rzR (s : State) (k : Nat) : Bool := (ref25_resize s (s.resizes.getD k Resize.zero)) && (((k : Int) == 0) || (decide ((s.resizes.getD (Int.toNat (w64 ((k : Int) - 1))) Resize.zero).job < (s.resizes.getD k Resize.zero).job)))
def heldR (s : State) (k : Nat) : Bool := ((s.jobs.getD k Job.zero).state != 2) || ((ref12_Of s.nodes ((s.jobs.getD k Job.zero).id) 1) == (s.jobs.getD k Job.zero).nodes)
theorem ref_state_iff (h : ref21_Check s = 0) : (ref25_Check s = 0 ↔ (state_next s.nextJob (state_Check_g1 s.jobs 0 0) = true ∧ state_next s.nextBook (state_Check_g2 s.books 0 0) = true) ∧ (∀ k, k < s.resizes.length -> rzR s k = true) ∧ (∀ k, k < s.nodes.length -> ref25_node s (k : Int) = true) ∧ (∀ k, k < s.jobs.length -> heldR s k = true)) ∧ (ref25_Check s = 0 ∨ ref25_Check s = 141) := by
 unfold ref25_Check
 rw [h]
 show ((bif false then (141 : Int) else ref25_Check_k1 s (ref25_Check_g1 s.jobs 0 0).1 (ref25_Check_g1 s.jobs 0 0).2) = 0 ↔ _) ∧ ((bif false then (141 : Int) else ref25_Check_k1 s (ref25_Check_g1 s.jobs 0 0).1 (ref25_Check_g1 s.jobs 0 0).2) = 0 ∨ (bif false then (141 : Int) else ref25_Check_k1 s (ref25_Check_g1 s.jobs 0 0).1 (ref25_Check_g1 s.jobs 0 0).2) = 141)
 simp only [cond_false]
 unfold ref25_Check_k1 ref25_Check_k2 ref25_Check_k3 ref25_Check_k4 ref25_Check_k5
 rw [last_job, last_book, ← next_eq, ← next_eq]
 generalize hok0 : ((state_next s.nextJob (state_Check_g1 s.jobs 0 0)) && (state_next s.nextBook (state_Check_g2 s.books 0 0))) = ok0
 have e3 := okloop s.resizes.length (rzR s) (ref25_Check_g3 s) (fun _ _ _ => rfl) ((Int.toNat ((s.resizes.length : Int) - (0 : Int))) + 1) ok0 0 (by omega) (by omega)
 generalize (ref25_Check_g3 s ((Int.toNat ((s.resizes.length : Int) - (0 : Int))) + 1) ok0 0).1 = ok1 at *
 have e4 := okloop s.nodes.length (fun k => ref25_node s (k : Int)) (ref25_Check_g4 s) (fun _ _ _ => rfl) ((Int.toNat ((s.nodes.length : Int) - (0 : Int))) + 1) ok1 0 (by omega) (by omega)
 generalize (ref25_Check_g4 s ((Int.toNat ((s.nodes.length : Int) - (0 : Int))) + 1) ok1 0).1 = ok2 at *
 have e5 := okloop s.jobs.length (heldR s) (ref25_Check_g5 s) (fun _ _ _ => rfl) ((Int.toNat ((s.jobs.length : Int) - (0 : Int))) + 1) ok2 0 (by omega) (by omega)
 generalize (ref25_Check_g5 s ((Int.toNat ((s.jobs.length : Int) - (0 : Int))) + 1) ok2 0).1 = ok3 at *
 have hand : (state_next s.nextJob (state_Check_g1 s.jobs 0 0) = true ∧ state_next s.nextBook (state_Check_g2 s.books 0 0) = true) ↔ ok0 = true := by rw [← hok0, Bool.and_eq_true]
 rw [hand]
 have hz : ok3 = true ↔ ok0 = true ∧ (∀ k, k < s.resizes.length -> rzR s k = true) ∧ (∀ k, k < s.nodes.length -> ref25_node s (k : Int) = true) ∧ (∀ k, k < s.jobs.length -> heldR s k = true) := by
  rw [e5, e4, e3]
  simp only [Nat.zero_le, true_implies, and_assoc]
 rw [← hz]
 cases ok3 <;> simp
theorem state_eq (h : Words s) : state_Check s = ref25_Check s := by
 have hpe := plan_eq s h.sz h.jobs
 cases hp : (plan_Check s != 0) with
 | true =>
  have hr : (ref21_Check s != 0) = true := by rw [← hpe]; exact hp
  unfold state_Check ref25_Check
  rw [hp, hr]
  rfl
 | false =>
  have hp0 : plan_Check s = 0 := by simpa using hp
  obtain ⟨r1, r2⟩ := ref_state_iff (s := s) (by rw [← hpe]; exact hp0)
  obtain ⟨hf, ht⟩ := plan_Check_parts hp0
  obtain ⟨_, hjc, hsort⟩ := table_parts ht
  have hl : s.nodes.length <= 64 := by have := (fine_want hf).1; omega
  have hid : ∀ x ∈ s.jobs, 1 <= x.id := fun x hx => (job_bounds (hjc x hx)).1
  have e : state_Check s = state_Check_g4 s (state_Check_g1 s.jobs 0 0) (state_Check_g2 s.books 0 0) (state_Check_g3 s.jobs 0 []) s.resizes 0 [] := by
   unfold state_Check state_Check_k1 state_Check_k2 state_Check_k3
   rw [hp]
   rfl
  obtain ⟨p1, p2⟩ := g4_iff s (state_Check_g1 s.jobs 0 0) (state_Check_g2 s.books 0 0) (state_Check_g3 s.jobs 0 []) s.resizes 0 [] (by simp) (by omega)
  rw [← e] at p1 p2
  have heldE : heldB s (state_Check_g3 s.jobs 0 []) = true ↔ ∀ k, k < s.jobs.length -> heldR s k = true := by
   rw [held_iff s hsort hid]
   unfold heldR
   constructor
   ·intro hh k hk
    have hm : s.jobs.getD k Job.zero ∈ s.jobs := by
     rw [List.getD, List.getElem?_eq_getElem hk]
     exact List.getElem_mem _
    cases hst : ((s.jobs.getD k Job.zero).state != 2) with
    | true => rfl
    | false =>
     have : (s.jobs.getD k Job.zero).state = 2 := by simpa [bne] using hst
     rw [hh _ hm this]
     simp
   ·intro hh x hx hs
    obtain ⟨k, hk⟩ := List.getElem?_of_mem hx
    have hg : s.jobs.getD k Job.zero = x := by rw [List.getD, hk]; rfl
    have := hh k (List.getElem?_eq_some_iff.1 hk).1
    rw [hg, hs] at this
    simpa using this
  have rzE : (∀ k, k < s.jobs.length -> heldR s k = true) -> ∀ k, k < s.resizes.length -> rzP s (state_Check_g3 s.jobs 0 []) k = rzR s k := by
   intro hh k hk
   have hm : s.resizes.getD k Resize.zero ∈ s.resizes := by
    rw [List.getD, List.getElem?_eq_getElem hk]
    exact List.getElem_mem _
   have hheld := (held_iff s hsort hid).1 (heldE.2 hh)
   unfold rzP rzR
   obtain ⟨q1, q2⟩ := run_get hsort (s.resizes.getD k Resize.zero).job
   rw [q1, q2]
   have hord : ((decide ((k : Int) > 0)) && (decide ((s.resizes.getD (Int.toNat (w64 ((k : Int) - 1))) Resize.zero).job >= (s.resizes.getD k Resize.zero).job))) = !(((k : Int) == 0) || (decide ((s.resizes.getD (Int.toNat (w64 ((k : Int) - 1))) Resize.zero).job < (s.resizes.getD k Resize.zero).job))) := by
    rw [Bool.eq_iff_iff]
    simp only [Bool.and_eq_true, decide_eq_true_eq, Bool.not_eq_true', Bool.or_eq_false_iff, decide_eq_false_iff_not, beq_eq_false_iff_ne]
    omega
   rw [hord]
   have hres : ((ref25_Run s (s.resizes.getD k Resize.zero).job).2 = true -> state_resize s (s.resizes.getD k Resize.zero) (ref25_Run s (s.resizes.getD k Resize.zero).job).1 = ref25_resize s (s.resizes.getD k Resize.zero)) ∧ ((ref25_Run s (s.resizes.getD k Resize.zero).job).2 = false -> ref25_resize s (s.resizes.getD k Resize.zero) = false) := by
    constructor
    ·intro hrun
     by_cases hx : ∃ x ∈ s.jobs, x.id = (s.resizes.getD k Resize.zero).job
     ·obtain ⟨x, hx, hxe⟩ := hx
      have hrs := run_some hsort hx
      rw [hxe] at hrs
      by_cases hst : x.state = 2
      ·rw [if_pos hst] at hrs
       rw [hrs]
       refine resize_eq s _ x (h.nodes _ hm) (h.said _ hm) (h.jobs x hx) hf hrs (hjc x hx) fun i => ?_
       have he := hheld x hx hst
       rw [← of_eq] at he
       obtain ⟨_, b⟩ := fleet_where_bits s.nodes (fun (y : Node) => ((y.job == x.id) && (y.state == 1))) hf hl
       rw [← he]
       unfold fleet_Of
       rw [b, hxe]
       simp
      ·rw [if_neg hst] at hrs
       rw [hrs] at hrun
       cases hrun
     ·rw [run_none _ (fun x hx' e => hx ⟨x, hx', e⟩)] at hrun
      cases hrun
    ·intro hrun
     unfold ref25_resize
     rw [hrun]
     rfl
   cases hrun : (ref25_Run s (s.resizes.getD k Resize.zero).job).2 with
   | true =>
    rw [hres.1 hrun]
    generalize (((k : Int) == 0) || (decide ((s.resizes.getD (Int.toNat (w64 ((k : Int) - 1))) Resize.zero).job < (s.resizes.getD k Resize.zero).job))) = A
    generalize ref25_resize s (s.resizes.getD k Resize.zero) = B
    revert A B
    decide
   | false =>
    rw [hres.2 hrun]
    simp
  have rzS : (∀ k, k < s.resizes.length -> rzR s k = true) -> s.resizes.Pairwise (fun a b => a.job < b.job) := by
   intro hh
   have hstep : ∀ k, k + 1 < s.resizes.length -> (s.resizes.getD k Resize.zero).job < (s.resizes.getD (k + 1) Resize.zero).job := by
    intro k hk
    have hk' := hh (k + 1) hk
    have hlen : s.resizes.length <= 4294967296 := h.sz.2.2.2.1
    unfold rzR at hk'
    rw [Bool.and_eq_true] at hk'
    have hw : w64 (((k + 1 : Nat) : Int) - 1) = (k : Int) := by
     have := wr (n := ((k + 1 : Nat) : Int) - 1) (by omega)
     show IntKind.i64.wrap _ = _
     rw [this]
     omega
    rw [hw, Int.toNat_natCast] at hk'
    have hne : (((k + 1 : Nat) : Int) == 0) = false := by simp; omega
    rw [hne, Bool.false_or, decide_eq_true_eq] at hk'
    exact hk'.2
   rw [List.pairwise_iff_getElem]
   have hmono : ∀ (d a : Nat), a + d + 1 < s.resizes.length -> (s.resizes.getD a Resize.zero).job < (s.resizes.getD (a + d + 1) Resize.zero).job := by
    intro d
    induction d with
    | zero => intro a ha; exact hstep a ha
    | succ d ih =>
     intro a ha
     have h1 := ih a (by omega)
     have h2 := hstep (a + d + 1) (by omega)
     have : a + (d + 1) + 1 = a + d + 1 + 1 := by omega
     rw [this]
     omega
   intro a b ha hb hab
   have := hmono (b - a - 1) a (by omega)
   have e2 : a + (b - a - 1) + 1 = b := by omega
   rw [e2] at this
   have g1 : s.resizes.getD a Resize.zero = s.resizes[a] := by rw [List.getD, List.getElem?_eq_getElem ha]; rfl
   have g2 : s.resizes.getD b Resize.zero = s.resizes[b] := by rw [List.getD, List.getElem?_eq_getElem hb]; rfl
   rw [g1, g2] at this
   exact this
  have hiff : state_Check s = 0 ↔ ref25_Check s = 0 := by
   rw [p1, r1, heldE]
   constructor
   ·rintro ⟨a, b, c, d, q⟩
    have hrz : ∀ k, k < s.resizes.length -> rzR s k = true := fun k hk => by rw [← rzE q k hk]; exact a k (Nat.zero_le _) hk
    exact ⟨⟨b, c⟩, hrz, (nodes_eq s hsort (rzS hrz) h.jobs h.nodes).1 d, q⟩
   ·rintro ⟨⟨b, c⟩, a, d, q⟩
    exact ⟨fun k _ hk => by rw [rzE q k hk]; exact a k hk, b, c, (nodes_eq s hsort (rzS a) h.jobs h.nodes).2 d, q⟩
  rcases p2 with a | a <;> rcases r2 with b | b
  ·rw [a, b]
  ·rw [hiff.1 a] at b; cases b
  ·rw [hiff.2 b] at a; cases a
  ·rw [a, b]
end
end Go.Proofs.YtigcpfbpmnppcaaGreatDoor
namespace Go.Fw
set_option linter.unusedSimpArgs false
set_option linter.unusedVariables false
open Go.RowKit Go.ChangeShapes Go.WideShapes Go.Deep
theorem law_lifted_laid {C : Checked} {os : Os} {f : FuncId} {fn : Func} {s : ChangeSpec} {laid0 : List (String × DataW Unit)} {conds : List PathCond} {apart fresh handsOn again : Bool} {H : Type} {enc : TypeId × Value -> H} {Q : List AVal -> Prop} {tb : TypeId}
  (own : ownKnob C.prog.godebug = none) (started : os.Started) (noInit : C.prog.inits.idxOf? f = none) (hfn : C.prog.funcs[f]? = some fn)
  (witness : ∃ (w : World) (tape : Tape) (i : Input), w.os = os ∧ (w.forCall tape i).Shaped C.prog ∧ i.vars = [] ∧ Input.okWide C.prog (w.forCall tape i) .any w.heap.size f i ∧
   ((s.pre enc C.prog fn conds apart (w.forCall tape i).memory i.args ∧ laidMetH C.prog laid0 (w.forCall tape i).memory) ∧ sizedMet enc C.prog fn (OpenSpec.ofChange s) apart (w.forCall tape i).memory i.args) ∧ ({} : Assume).holds C.prog (lone (Frame.enter C.prog f i.args .normal) [] (w.forCall tape i)))
  (hvars : s.vars = []) (hres : fn.resultTypes = #[tb]) (hbool : C.prog.underlying tb = some .bool) (laid : laidOutB C.prog = true)
  (hts : fn.params.toList.all (fun t => C.prog.readableRec t && decide (t < C.prog.types.size)) = true)
  (hspec : ∀ ds : List (DataW H), ds.length = fn.params.size -> s.fn H ds = { results := [.lit (.bool true)], args := ds })
  (hargs : ArgsAs C.prog fn.params.toList Q) (hlaw : ∀ l, Q l -> AGives C.prog f l [] (.lit (.bool true))) :
  ReturnsInHanded {} C os f .any (fun w args => (s.pre enc C.prog fn conds apart w args ∧ laidMetH C.prog laid0 w) ∧ sizedMet enc C.prog fn (OpenSpec.ofChange s) apart w args) (s.post enc C.prog fn apart fresh handsOn again) := by
 refine returnsInHanded_of_change_and (X := fun w _ => laidMetH C.prog laid0 w) (fun _ _ _ hh h => h.of_heap hh) own started noInit hfn witness ?_
 intro W base args ds gs before hval hW hcnd _ _ _
 have hW' := hW
 obtain ⟨p, q, hA, hV, hpq, hfz, hnd⟩ := hW
 rw [hvars] at hV
 obtain ⟨rfl, rfl⟩ := trodVars_none hV
 rw [List.append_nil] at hpq
 subst hpq
 obtain ⟨l, hQ, hreps⟩ := hargs.read (base := base) (vs := args.toList) (fun j t v hj hv => hval j t v (by simpa using hj) (by simpa using hv)) hA
 have hc := law_calls (hlaw l hQ) hreps
 rw [show args.toList.toArray = args by simp] at hc
 refine hc.mono fun e W' ⟨he, hb⟩ => ?_
 subst he
 have hlen : ds.length = fn.params.size := by
  have : ∀ {ts : List TypeId} {vs : List Value} {ds : List (DataW H)} {ps : List MemPlace}, DataW.TrodAll enc C.prog W 0 (fun _ => true) true ts vs ds ps -> ds.length = ts.length := by
   intro ts
   induction ts with
   | nil => intro vs ds ps h; obtain ⟨rfl, rfl, rfl⟩ := trodAll_nil h; rfl
   | cons t ts ih => intro vs ds ps h; obtain ⟨v, vs', d, ds', p, q, rfl, rfl, rfl, hd, hrest⟩ := trodAll_cons h; simp [ih hrest]
  simpa using this hA
 have hfn2 := hspec ds hlen
 have hold : ∀ p ∈ before, p.block < W.heap.size := fun p hp => by simpa using hW'.lt p hp
 have hR : ∀ (b : Nat) (sp : Nat -> Bool) (hd : Bool), DataW.TrodAll enc C.prog W' b sp hd fn.resultTypes.toList ((Value.bool true).resultList fn.resultTypes.size) (s.fn H (ds ++ [])).results [] := by
  intro b sp hd
  rw [List.append_nil, hfn2, hres]
  exact trodAll_cons_mk (shut_bool hbool _) trodAll_mk0
 have hAr : ∀ sp : Nat -> Bool, (∀ p ∈ before, sp p.block = true) -> DataW.TrodAll enc C.prog W' 0 sp true fn.params.toList args.toList (s.fn H (ds ++ [])).args before := by
  intro sp hsp
  rw [List.append_nil, hfn2]
  exact trodAll_below laid hb hts hA hold hsp
 have hVr : ∀ sp : Nat -> Bool, DataW.TrodVars enc C.prog W' sp s.vars (s.fn H (ds ++ [])).vars [] := by
  intro sp
  rw [List.append_nil, hfn2, hvars]
  rfl
 refine ⟨_, rfl, ds, [], before, [], before, [], hW', hR _ _ _, hAr _ (fun p hp => by simpa using hold p hp), hVr _, hb.frame _, fun _ => ⟨ok_one hres rfl (okWide_bool_mk hbool _), _, _, ([] ++ before) ++ [], ⟨[] ++ before, [], trodAll_append (hAr _ (fun _ _ => rfl)) (hR _ _ _), hVr _, rfl, ?_, ?_⟩, ?_⟩⟩
 ·intro b off hp
  have hp : MemPlace.cell b off ∈ before := by simpa using hp
  rw [hb.frozen (p := ⟨b, off, none⟩) (hold _ hp)]
  exact hfz b off (by simpa using hp)
 ·intro ha
  simpa using hnd ha
 ·intro p hp _
  simpa using hp
end Go.Fw
namespace Go.Proofs.YtigcpfbpmnppcaaGreatDoor
set_option linter.unusedSimpArgs false
set_option linter.unusedVariables false
open Go.Fw
set_option maxRecDepth 100000
theorem ty3 : Tryz.prog.underlying 50 = some (.int .u64) := by kernel_rfl
theorem ty2 : Tryz.prog.underlying 9 = some (.string) := by kernel_rfl
theorem ty1 : Tryz.prog.underlying 4 = some (.bool) := by kernel_rfl
theorem ty0 : Tryz.prog.underlying 3 = some (.int .i64) := by kernel_rfl
def Node.wf (x : Node) : Prop := (Lit.int .i64 x.state).wf = true ∧ (Lit.int .i64 x.job).wf = true ∧ (Lit.int .i64 x.epoch).wf = true ∧ True ∧ (Lit.int .i64 x.want).wf = true ∧ (Lit.int .i64 x.since).wf = true ∧ (Lit.int .i64 x.asked).wf = true ∧ True
theorem readNode : ReadAs Tryz.prog 57 Node.cells Node.wf := by
 have h := ReadAs.struct (P := Tryz.prog) (t := 57) rfl (by kernel_rfl) (.cons rfl (ReadAs.int ty0) (.cons rfl (ReadAs.int ty0) (.cons rfl (ReadAs.int ty0) (.cons rfl (ReadAs.bool ty1) (.cons rfl (ReadAs.int ty0) (.cons rfl (ReadAs.int ty0) (.cons rfl (ReadAs.int ty0) .nil)))))))
 exact h.map (fun p => (⟨p.1, p.2.1, p.2.2.1, p.2.2.2.1, p.2.2.2.2.1, p.2.2.2.2.2.1, p.2.2.2.2.2.2.1⟩ : Node)) (fun _ => rfl) (fun _ h => h)
theorem readNodes : ReadAs Tryz.prog 22 (fun l => [nodeL l]) fun l => l.length <= maxLen ∧ ∀ a ∈ l, Node.wf a :=
 ReadAs.slice Node.zero rfl (by kernel_rfl) (by decide) readNode (fun _ => rfl)
def Alt.wf (x : Alt) : Prop := (Lit.int .i64 x.nodes).wf = true ∧ (Lit.int .i64 x.wall).wf = true ∧ True
theorem readAlt : ReadAs Tryz.prog 103 Alt.cells Alt.wf := by
 have h := ReadAs.struct (P := Tryz.prog) (t := 103) rfl (by kernel_rfl) (.cons rfl (ReadAs.int ty0) (.cons rfl (ReadAs.int ty0) .nil))
 exact h.map (fun p => (⟨p.1, p.2.1⟩ : Alt)) (fun _ => rfl) (fun _ h => h)
theorem readAlts : ReadAs Tryz.prog 46 (fun l => [altL l]) fun l => l.length <= maxLen ∧ ∀ a ∈ l, Alt.wf a :=
 ReadAs.slice Alt.zero rfl (by kernel_rfl) (by decide) readAlt (fun _ => rfl)
def Shape.wf (x : Shape) : Prop := (Lit.int .i64 x.kind).wf = true ∧ (x.alts.length <= maxLen ∧ ∀ a ∈ x.alts, Alt.wf a) ∧ (Lit.int .i64 x.min).wf = true ∧ (Lit.int .i64 x.max).wf = true ∧ (Lit.int .i64 x.wall).wf = true ∧ True
theorem readShape : ReadAs Tryz.prog 48 Shape.cells Shape.wf := by
 have h := ReadAs.struct (P := Tryz.prog) (t := 48) rfl (by kernel_rfl) (.cons rfl (ReadAs.int ty0) (.cons rfl (readAlts) (.cons rfl (ReadAs.int ty0) (.cons rfl (ReadAs.int ty0) (.cons rfl (ReadAs.int ty0) .nil)))))
 exact h.map (fun p => (⟨p.1, p.2.1, p.2.2.1, p.2.2.2.1, p.2.2.2.2.1⟩ : Shape)) (fun _ => rfl) (fun _ h => h)
def Dep.wf (x : Dep) : Prop := (Lit.int .i64 x.how).wf = true ∧ (Lit.int .i64 x.job).wf = true ∧ True
theorem readDep : ReadAs Tryz.prog 115 Dep.cells Dep.wf := by
 have h := ReadAs.struct (P := Tryz.prog) (t := 115) rfl (by kernel_rfl) (.cons rfl (ReadAs.int ty0) (.cons rfl (ReadAs.int ty0) .nil))
 exact h.map (fun p => (⟨p.1, p.2.1⟩ : Dep)) (fun _ => rfl) (fun _ h => h)
theorem readDeps : ReadAs Tryz.prog 49 (fun l => [depL l]) fun l => l.length <= maxLen ∧ ∀ a ∈ l, Dep.wf a :=
 ReadAs.slice Dep.zero rfl (by kernel_rfl) (by decide) readDep (fun _ => rfl)
def Job.wf (x : Job) : Prop := (Lit.int .i64 x.id).wf = true ∧ x.name.size <= maxLen ∧ x.user.size <= maxLen ∧ x.account.size <= maxLen ∧ Shape.wf x.shape ∧ (Lit.int .i64 x.prio).wf = true ∧ (x.after.length <= maxLen ∧ ∀ a ∈ x.after, Dep.wf a) ∧ (Lit.int .i64 x.state).wf = true ∧ True ∧ (Lit.int .i64 x.born).wf = true ∧ (Lit.int .i64 x.promise).wf = true ∧ (Lit.int .i64 x.choice).wf = true ∧ (Lit.int .i64 x.start).wf = true ∧ (Lit.int .i64 x.limit).wf = true ∧ (Lit.int .u64 x.nodes).wf = true ∧ (Lit.int .i64 x.used).wf = true ∧ True
theorem readJob : ReadAs Tryz.prog 52 Job.cells Job.wf := by
 have h := ReadAs.struct (P := Tryz.prog) (t := 52) rfl (by kernel_rfl) (.cons rfl (ReadAs.int ty0) (.cons rfl (ReadAs.string ty2) (.cons rfl (ReadAs.string ty2) (.cons rfl (ReadAs.string ty2) (.cons rfl (readShape) (.cons rfl (ReadAs.int ty0) (.cons rfl (readDeps) (.cons rfl (ReadAs.int ty0) (.cons rfl (ReadAs.bool ty1) (.cons rfl (ReadAs.int ty0) (.cons rfl (ReadAs.int ty0) (.cons rfl (ReadAs.int ty0) (.cons rfl (ReadAs.int ty0) (.cons rfl (ReadAs.int ty0) (.cons rfl (ReadAs.int ty3) (.cons rfl (ReadAs.int ty0) .nil))))))))))))))))
 exact h.map (fun p => (⟨p.1, p.2.1, p.2.2.1, p.2.2.2.1, p.2.2.2.2.1, p.2.2.2.2.2.1, p.2.2.2.2.2.2.1, p.2.2.2.2.2.2.2.1, p.2.2.2.2.2.2.2.2.1, p.2.2.2.2.2.2.2.2.2.1, p.2.2.2.2.2.2.2.2.2.2.1, p.2.2.2.2.2.2.2.2.2.2.2.1, p.2.2.2.2.2.2.2.2.2.2.2.2.1, p.2.2.2.2.2.2.2.2.2.2.2.2.2.1, p.2.2.2.2.2.2.2.2.2.2.2.2.2.2.1, p.2.2.2.2.2.2.2.2.2.2.2.2.2.2.2.1⟩ : Job)) (fun _ => rfl) (fun _ h => h)
theorem readJobs : ReadAs Tryz.prog 23 (fun l => [jobL l]) fun l => l.length <= maxLen ∧ ∀ a ∈ l, Job.wf a :=
 ReadAs.slice Job.zero rfl (by kernel_rfl) (by decide) readJob (fun _ => rfl)
def Resize.wf (x : Resize) : Prop := (Lit.int .i64 x.job).wf = true ∧ True ∧ (Lit.int .u64 x.nodes).wf = true ∧ (Lit.int .u64 x.said).wf = true ∧ (Lit.int .i64 x.since).wf = true ∧ True
theorem readResize : ReadAs Tryz.prog 88 Resize.cells Resize.wf := by
 have h := ReadAs.struct (P := Tryz.prog) (t := 88) rfl (by kernel_rfl) (.cons rfl (ReadAs.int ty0) (.cons rfl (ReadAs.bool ty1) (.cons rfl (ReadAs.int ty3) (.cons rfl (ReadAs.int ty3) (.cons rfl (ReadAs.int ty0) .nil)))))
 exact h.map (fun p => (⟨p.1, p.2.1, p.2.2.1, p.2.2.2.1, p.2.2.2.2.1⟩ : Resize)) (fun _ => rfl) (fun _ h => h)
theorem readResizes : ReadAs Tryz.prog 24 (fun l => [resizeL l]) fun l => l.length <= maxLen ∧ ∀ a ∈ l, Resize.wf a :=
 ReadAs.slice Resize.zero rfl (by kernel_rfl) (by decide) readResize (fun _ => rfl)
def Book.wf (x : Book) : Prop := (Lit.int .i64 x.id).wf = true ∧ (Lit.int .i64 x.from_).wf = true ∧ (Lit.int .i64 x.to).wf = true ∧ (Lit.int .i64 x.nodes).wf = true ∧ True
theorem readBook : ReadAs Tryz.prog 90 Book.cells Book.wf := by
 have h := ReadAs.struct (P := Tryz.prog) (t := 90) rfl (by kernel_rfl) (.cons rfl (ReadAs.int ty0) (.cons rfl (ReadAs.int ty0) (.cons rfl (ReadAs.int ty0) (.cons rfl (ReadAs.int ty0) .nil))))
 exact h.map (fun p => (⟨p.1, p.2.1, p.2.2.1, p.2.2.2.1⟩ : Book)) (fun _ => rfl) (fun _ h => h)
theorem readBooks : ReadAs Tryz.prog 25 (fun l => [bookL l]) fun l => l.length <= maxLen ∧ ∀ a ∈ l, Book.wf a :=
 ReadAs.slice Book.zero rfl (by kernel_rfl) (by decide) readBook (fun _ => rfl)
def Usage.wf (x : Usage) : Prop := x.user.size <= maxLen ∧ x.account.size <= maxLen ∧ (Lit.int .i64 x.used).wf = true ∧ (Lit.int .i64 x.share).wf = true ∧ True
theorem readUsage : ReadAs Tryz.prog 67 Usage.cells Usage.wf := by
 have h := ReadAs.struct (P := Tryz.prog) (t := 67) rfl (by kernel_rfl) (.cons rfl (ReadAs.string ty2) (.cons rfl (ReadAs.string ty2) (.cons rfl (ReadAs.int ty0) (.cons rfl (ReadAs.int ty0) .nil))))
 exact h.map (fun p => (⟨p.1, p.2.1, p.2.2.1, p.2.2.2.1⟩ : Usage)) (fun _ => rfl) (fun _ h => h)
theorem readUsages : ReadAs Tryz.prog 26 (fun l => [usageL l]) fun l => l.length <= maxLen ∧ ∀ a ∈ l, Usage.wf a :=
 ReadAs.slice Usage.zero rfl (by kernel_rfl) (by decide) readUsage (fun _ => rfl)
def State.wf (x : State) : Prop := (Lit.int .i64 x.now).wf = true ∧ (x.nodes.length <= maxLen ∧ ∀ a ∈ x.nodes, Node.wf a) ∧ (x.jobs.length <= maxLen ∧ ∀ a ∈ x.jobs, Job.wf a) ∧ (x.resizes.length <= maxLen ∧ ∀ a ∈ x.resizes, Resize.wf a) ∧ (x.books.length <= maxLen ∧ ∀ a ∈ x.books, Book.wf a) ∧ (x.ledger.length <= maxLen ∧ ∀ a ∈ x.ledger, Usage.wf a) ∧ (Lit.int .i64 x.nextJob).wf = true ∧ (Lit.int .i64 x.nextBook).wf = true ∧ True
theorem readState : ReadAs Tryz.prog 28 State.cells State.wf := by
 have h := ReadAs.struct (P := Tryz.prog) (t := 28) rfl (by kernel_rfl) (.cons rfl (ReadAs.int ty0) (.cons rfl (readNodes) (.cons rfl (readJobs) (.cons rfl (readResizes) (.cons rfl (readBooks) (.cons rfl (readUsages) (.cons rfl (ReadAs.int ty0) (.cons rfl (ReadAs.int ty0) .nil))))))))
 exact h.map (fun p => (⟨p.1, p.2.1, p.2.2.1, p.2.2.2.1, p.2.2.2.2.1, p.2.2.2.2.2.1, p.2.2.2.2.2.2.1, p.2.2.2.2.2.2.2.1⟩ : State)) (fun _ => rfl) (fun _ h => h)
end Go.Proofs.YtigcpfbpmnppcaaGreatDoor
namespace Go.Proofs.YtigcpfbpmnppcaaGreatDoor
set_option linter.unusedSimpArgs false
set_option linter.unusedVariables false
open Go.Fw
theorem Shape.wf_szM {x : Shape} (h : x.wf) : x.szM := h.2.1.1
theorem Job.wf_szM {x : Job} (h : x.wf) : x.szM := ⟨h.2.1, h.2.2.1, h.2.2.2.1, Shape.wf_szM h.2.2.2.2.1, h.2.2.2.2.2.2.1.1⟩
theorem Usage.wf_szM {x : Usage} (h : x.wf) : x.szM := ⟨h.1, h.2.1⟩
theorem State.wf_szM {x : State} (h : x.wf) : x.szM :=
 ⟨h.2.1.1, h.2.2.1.1, fun y hy => Job.wf_szM (h.2.2.1.2 y hy), h.2.2.2.1.1, h.2.2.2.2.1.1, h.2.2.2.2.2.1.1, fun y hy => Usage.wf_szM (h.2.2.2.2.2.1.2 y hy)⟩
end Go.Proofs.YtigcpfbpmnppcaaGreatDoor
namespace Go.Proofs.YtigcpfbpmnppcaaGreatDoor
set_option linter.unusedSimpArgs false
set_option linter.unusedVariables false
open Go.Fw
theorem wf_u64 {n : Int} (h : (Lit.int .u64 n).wf = true) : U64 n := by
 unfold Lit.wf at h
 simp only [Bool.and_eq_true, decide_eq_true_eq] at h
 have e1 : IntKind.u64.min = 0 := by decide
 have e2 : IntKind.u64.max = 18446744073709551615 := by decide
 rw [e1, e2] at h
 unfold U64
 omega
theorem State.wf_words {s : State} (h : s.wf) (hs : s.sz) : Words s := by
 refine ⟨hs, fun x hx => ?_, fun r hr => ?_, fun r hr => ?_⟩
 ·have := h.2.2.1.2 x hx
  unfold Job.wf at this
  exact wf_u64 this.2.2.2.2.2.2.2.2.2.2.2.2.2.2.1
 ·have := h.2.2.2.1.2 r hr
  unfold Resize.wf at this
  exact wf_u64 this.2.2.1
 ·have := h.2.2.2.1.2 r hr
  unfold Resize.wf at this
  exact wf_u64 this.2.2.2.1
end Go.Proofs.YtigcpfbpmnppcaaGreatDoor
namespace Go.Proofs.YtigcpfbpmnppcaaGreatDoor
set_option linter.unusedSimpArgs false
set_option linter.unusedVariables false
open Go.Fw
theorem law17_Few_ok : ∀ (l : List Usage) (i : Nat), law17_Few_g1 l i = true -> ∀ y ∈ l, y.sz
 | [], _, _, y, hy => nomatch hy
 | x :: r, i, h, y, hy => by
  rw [law17_Few_g1] at h
  cases hc : ((decide ((ByteArray.size x.user : Int) > 1000)) || (decide ((ByteArray.size x.account : Int) > 1000))) with
  | true => rw [hc] at h; cases h
  | false =>
   rw [hc] at h
   rcases List.mem_cons.1 hy with rfl | hy
   ·simp only [Bool.or_eq_false_iff, decide_eq_false_iff_not] at hc
    exact ⟨by omega, by omega⟩
   ·exact law17_Few_ok r (i + 1) h y hy
theorem law14_Few_sz {j : Job} (h : law14_Few j = true) : j.sz := by
 simp only [law14_Few, law07_Few, Bool.and_eq_true, decide_eq_true_eq] at h
 exact ⟨by omega, by omega, by omega, by show j.shape.alts.length <= _; omega, by omega⟩
theorem law15_Few_ok : ∀ (l : List Job) (i : Nat), law15_Few_g1 l i = true -> ∀ y ∈ l, y.sz
 | [], _, _, y, hy => nomatch hy
 | x :: r, i, h, y, hy => by
  rw [law15_Few_g1] at h
  cases hc : law14_Few x with
  | false => rw [hc] at h; cases h
  | true =>
   rw [hc] at h
   rcases List.mem_cons.1 hy with rfl | hy
   ·exact law14_Few_sz hc
   ·exact law15_Few_ok r (i + 1) h y hy
theorem law20_Few_sz {s : State} (h : law20_Few s = true) : s.sz := by
 simp only [law20_Few, law12_Few, law15_Few, law19_Few, law17_Few, Bool.and_eq_true, decide_eq_true_eq] at h
 obtain ⟨⟨⟨⟨h1, h2⟩, h3⟩, h4⟩, h5⟩ := h
 cases hj : decide ((s.jobs.length : Int) > 60) with
 | true => rw [hj] at h2; cases h2
 | false =>
  cases hl : decide ((s.ledger.length : Int) > 300) with
  | true => rw [hl] at h4; cases h4
  | false =>
   rw [hj] at h2
   rw [hl] at h4
   have qj := of_decide_eq_false hj
   have ql := of_decide_eq_false hl
   exact ⟨by omega, by omega, law15_Few_ok _ _ h2, by omega, by omega, by omega, law17_Few_ok _ _ h4⟩
end Go.Proofs.YtigcpfbpmnppcaaGreatDoor
namespace Go.Proofs.YtigcpfbpmnppcaaGreatDoor
set_option linter.unusedSimpArgs false
set_option linter.unusedVariables false
open Go.Fw
theorem plan_now {s : State} (h : plan_Check s = 0) : 0 <= s.now ∧ s.now <= 1000000 := by
 unfold plan_Check at h
 cases h1 : (room_Check s != 0) with
 | true => rw [h1] at h; cases h
 | false =>
  have hr : room_Check s = 0 := by simpa using h1
  unfold room_Check at hr
  cases h2 : (((((decide (s.now < 0)) || (decide (s.now > 1000000))) || ((fleet_Check s.nodes) != 0)) || ((table_Check s.jobs) != 0)) || ((book_Check s.books) != 0)) with
  | true => rw [h2] at hr; cases hr
  | false =>
   have h3 := (or_f (or_f (or_f h2).1).1).1
   simp only [Bool.or_eq_false_iff, decide_eq_false_iff_not] at h3
   omega
section
variable {s : State}
end
end Go.Proofs.YtigcpfbpmnppcaaGreatDoor
namespace Go.Proofs.YtigcpfbpmnppcaaGreatDoor
set_option linter.unusedSimpArgs false
set_option linter.unusedVariables false
open Go.Fw
theorem set_mid {α : Type} (p : List α) (x y : α) (r : List α) : (p ++ x :: r).set p.length y = p ++ y :: r := by
 induction p with
 | nil => rfl
 | cons a p ih => simp [ih]
theorem getD_mid {α : Type} (d : α) (p : List α) (x : α) (r : List α) : (p ++ x :: r).getD p.length d = x := by simp [List.getD]
end Go.Proofs.YtigcpfbpmnppcaaGreatDoor
namespace Go.Proofs.YtigcpfbpmnppcaaGreatDoor
set_option linter.unusedSimpArgs false
set_option linter.unusedVariables false
open Go.Fw
theorem bl_irr : ∀ x : List UInt8, Op.bytesLess x x = false
 | [] => rfl
 | a :: x => by
  rw [Op.bytesLess, bl_irr x]
  simp
theorem bl_trans : ∀ x y z : List UInt8, Op.bytesLess x y = true -> Op.bytesLess y z = true -> Op.bytesLess x z = true
 | _, [], _, h, _ => by simp [Op.bytesLess] at h
 | _, _ :: _, [], _, h => by simp [Op.bytesLess] at h
 | [], _ :: _, _ :: _, _, _ => rfl
 | a :: x, b :: y, c :: z, h, g => by
  simp only [Op.bytesLess, Bool.or_eq_true, Bool.and_eq_true, decide_eq_true_eq, beq_iff_eq] at h g ⊢
  rcases h with h | ⟨rfl, h⟩ <;> rcases g with g | ⟨rfl, g⟩
  ·exact .inl (UInt8.lt_trans h g)
  ·exact .inl h
  ·exact .inl g
  ·exact .inr ⟨rfl, bl_trans x y z h g⟩
theorem ahead_trans {a b c : Usage} (h : ref17_ahead a b = true) (g : ref17_ahead b c = true) : ref17_ahead a c = true := by
 unfold ref17_ahead at *
 simp only [Bool.or_eq_true, Bool.and_eq_true, beq_iff_eq] at *
 rcases h with h | ⟨h1, h2⟩ <;> rcases g with g | ⟨g1, g2⟩
 ·exact .inl (bl_trans _ _ _ h g)
 ·exact .inl (by rw [← g1]; exact h)
 ·exact .inl (by rw [h1]; exact g)
 ·exact .inr ⟨h1.trans g1, bl_trans _ _ _ h2 g2⟩
theorem order_lt (a b : Usage) : decide (ledger_order a b < 0) = ref17_ahead a b := by
 have h := order_eq a b
 rw [← Bool.not_inj_iff, ← h, ← decide_not]
 exact decide_eq_decide.2 (by omega)
theorem order_zero (a b : Usage) : (ledger_order a b == 0) = ((ByteArray.toList a.user == ByteArray.toList b.user) && (ByteArray.toList a.account == ByteArray.toList b.account)) := by
 have i1 : (ByteArray.toList a.user == ByteArray.toList b.user) = true -> Op.bytesLess (ByteArray.toList a.user) (ByteArray.toList b.user) = false := fun h => by rw [beq_iff_eq] at h; rw [h]; exact bl_irr _
 have i2 : (ByteArray.toList a.account == ByteArray.toList b.account) = true -> Op.bytesLess (ByteArray.toList a.account) (ByteArray.toList b.account) = false := fun h => by rw [beq_iff_eq] at h; rw [h]; exact bl_irr _
 unfold ledger_order cmp_Or_int cmp_Compare_string cmp_isNaN_string
 simp only [beq_self_eq_true, Bool.not_true, cond_false]
 revert i1 i2
 generalize Op.bytesLess (ByteArray.toList a.user) (ByteArray.toList b.user) = lu
 generalize (ByteArray.toList a.user == ByteArray.toList b.user) = eu
 generalize Op.bytesLess (ByteArray.toList a.account) (ByteArray.toList b.account) = la
 generalize (ByteArray.toList a.account == ByteArray.toList b.account) = ea
 revert lu eu la ea
 decide
def okU (x : Usage) : Bool := !(((((!(ledger_name x.user)) || (!(ledger_name x.account))) || (x.used != (sat_Usage x.used))) || (decide (x.share < 0))) || (decide (x.share > x.used)))
def aheadP (a b : Usage) : Prop := ref17_ahead a b = true
theorem ledger_rows (l : List Usage) (hn : l.length <= 200) : ∀ (r : List Usage) (i : Nat), r = l.drop i -> i + r.length = l.length ->
  (ledger_Check_g1 l r i = 0 ↔ (∀ x ∈ r, okU x = true) ∧ r.Pairwise aheadP ∧ (∀ y, 0 < i -> l[i - 1]? = some y -> ∀ x ∈ r, aheadP y x)) ∧ (ledger_Check_g1 l r i = 0 ∨ ledger_Check_g1 l r i = 2)
 | [], i, _, _ => ⟨⟨fun _ => ⟨fun x hx => (nomatch hx), .nil, fun _ _ _ x hx => (nomatch hx)⟩, fun _ => rfl⟩, .inl rfl⟩
 | x :: r, i, hr, hlen => by
  simp only [List.length_cons] at hlen
  have hi : l[i]? = some x := by
   have := congrArg (fun q => q[0]?) hr
   simpa [List.getElem?_drop] using this.symm
  have hr' : r = l.drop (i + 1) := by rw [← List.drop_drop, ← hr]; rfl
  obtain ⟨ih, ihv⟩ := ledger_rows l hn r (i + 1) hr' (by omega)
  rw [ledger_Check_g1, order_eq]
  have hsplit : ((((((!(ledger_name x.user)) || (!(ledger_name x.account))) || (x.used != (sat_Usage x.used))) || (decide (x.share < 0))) || (decide (x.share > x.used))) || ((decide ((i : Int) > 0)) && (!(ref17_ahead (l.getD (Int.toNat (w64 ((i : Int) - 1))) Usage.zero) x)))) = ((!(okU x)) || ((decide ((i : Int) > 0)) && (!(ref17_ahead (l.getD (i - 1) Usage.zero) x)))) := by
   unfold okU
   rw [Bool.not_not, w6 (n := (i : Int) - 1) (by omega), show Int.toNat ((i : Int) - 1) = i - 1 by omega]
  rw [hsplit]
  cases hok : okU x with
  | false =>
   refine ⟨⟨fun h => (nomatch h), fun h => ?_⟩, .inr rfl⟩
   have := h.1 x (List.mem_cons_self ..)
   rw [hok] at this
   cases this
  | true =>
   have tail : (ledger_Check_g1 l r (i + 1) = 0 ↔ (∀ z ∈ r, okU z = true) ∧ r.Pairwise aheadP ∧ ∀ z ∈ r, aheadP x z) := by
    rw [ih]
    exact ⟨fun h => ⟨h.1, h.2.1, h.2.2 x (by omega) hi⟩, fun h => ⟨h.1, h.2.1, fun y _ hy => by rw [show i + 1 - 1 = i by omega, hi] at hy; cases hy; exact h.2.2⟩⟩
   rcases Nat.eq_zero_or_pos i with h0 | h0
   ·subst h0
    have e : ((!true) || ((decide (((0 : Nat) : Int) > 0)) && (!(ref17_ahead (l.getD (0 - 1) Usage.zero) x)))) = false := rfl
    rw [e]
    refine ⟨?_, ihv⟩
    show ledger_Check_g1 l r 1 = 0 ↔ _
    rw [tail]
    constructor
    ·rintro ⟨h1, h2, h3⟩
     refine ⟨fun z hz => ?_, List.pairwise_cons.2 ⟨h3, h2⟩, fun y hy => absurd hy (by omega)⟩
     rcases List.mem_cons.1 hz with rfl | hz
     ·exact hok
     ·exact h1 z hz
    ·rintro ⟨h1, h2, _⟩
     exact ⟨fun z hz => h1 z (List.mem_cons_of_mem _ hz), (List.pairwise_cons.1 h2).2, (List.pairwise_cons.1 h2).1⟩
   ·obtain ⟨y, hy⟩ : ∃ y, l[i - 1]? = some y := ⟨_, List.getElem?_eq_getElem (by omega)⟩
    have hg : l.getD (i - 1) Usage.zero = y := by simp [List.getD, hy]
    rw [hg, decide_eq_true (show (i : Int) > 0 by omega)]
    cases ha : ref17_ahead y x with
    | false =>
     refine ⟨⟨fun h => (nomatch h), fun h => ?_⟩, .inr rfl⟩
     have := h.2.2 y h0 hy x (List.mem_cons_self ..)
     unfold aheadP at this
     rw [ha] at this
     cases this
    | true =>
     refine ⟨?_, ihv⟩
     show ledger_Check_g1 l r (i + 1) = 0 ↔ _
     rw [tail]
     constructor
     ·rintro ⟨h1, h2, h3⟩
      refine ⟨fun z hz => ?_, List.pairwise_cons.2 ⟨h3, h2⟩, fun w hw0 hw z hz => ?_⟩
      ·rcases List.mem_cons.1 hz with rfl | hz
       ·exact hok
       ·exact h1 z hz
      ·rw [hy] at hw
       cases hw
       rcases List.mem_cons.1 hz with rfl | hz
       ·exact ha
       ·exact ahead_trans ha (h3 z hz)
     ·rintro ⟨h1, h2, _⟩
      exact ⟨fun z hz => h1 z (List.mem_cons_of_mem _ hz), (List.pairwise_cons.1 h2).2, (List.pairwise_cons.1 h2).1⟩
theorem ledger_iff (l : List Usage) : (ledger_Check l = 0 ↔ l.length <= 200 ∧ (∀ x ∈ l, okU x = true) ∧ l.Pairwise aheadP) ∧ (ledger_Check l = 0 ∨ ledger_Check l = 2) := by
 unfold ledger_Check
 cases h : decide ((l.length : Int) > 200) with
 | true =>
  have h' := of_decide_eq_true h
  exact ⟨⟨fun q => (nomatch q), fun q => absurd q.1 (by omega)⟩, .inr rfl⟩
 | false =>
  have h' := of_decide_eq_false h
  obtain ⟨a, b⟩ := ledger_rows l (by omega) l 0 rfl (by omega)
  refine ⟨?_, b⟩
  show ledger_Check_g1 l l 0 = 0 ↔ _
  rw [a]
  exact ⟨fun q => ⟨by omega, q.1, q.2.1⟩, fun q => ⟨q.2.1, q.2.2, fun y hy => absurd hy (by omega)⟩⟩
theorem use_in (n : Int) : 0 <= ref01_Usage n ∧ ref01_Usage n <= 1000000000000 := by
 unfold ref01_Usage ref01_held
 cases h1 : decide (n < 0) with
 | true => simp
 | false =>
  cases h2 : decide (n > 1000000000000) with
  | true => simp
  | false => simp at h1 h2 ⊢; omega
theorem use_id {n : Int} (h : 0 <= n ∧ n <= 1000000000000) : ref01_Usage n = n := by
 unfold ref01_Usage ref01_held
 rw [decide_eq_false (by omega), decide_eq_false (by omega)]
 rfl
theorem use_min {n : Int} (h : 0 <= n) : ref01_Usage n = min n 1000000000000 := by
 unfold ref01_Usage ref01_held
 rw [decide_eq_false (show ¬ n < 0 by omega)]
 cases h2 : decide (n > 1000000000000) with
 | true => have := of_decide_eq_true h2; show (1000000000000 : Int) = _; omega
 | false => have := of_decide_eq_false h2; show n = _; omega
theorem plus_sat (a n : Int) : sat_Plus ([a, n] : List Int) = min (ref01_Usage a + ref01_Usage n) 1000000000000 := by
 have ha := use_in a
 have hn := use_in n
 show (bif decide (ref01_Usage a > 1000000000000) then ((1000000000000 : Int), false) else bif decide (ref01_Usage n > w64 (1000000000000 - ref01_Usage a)) then ((1000000000000 : Int), false) else (w64 (1000000000000 - w64 (w64 (1000000000000 - ref01_Usage a) - ref01_Usage n)), true)).1 = _
 have h1 : decide (ref01_Usage a > 1000000000000) = false := decide_eq_false (by omega)
 rw [h1]
 simp only [cond_false]
 rw [w6 (n := 1000000000000 - ref01_Usage a) (by omega)]
 cases h : decide (ref01_Usage n > 1000000000000 - ref01_Usage a) with
 | true =>
  have := of_decide_eq_true h
  show (1000000000000 : Int) = _
  omega
 | false =>
  have := of_decide_eq_false h
  show w64 (1000000000000 - w64 (1000000000000 - ref01_Usage a - ref01_Usage n)) = _
  rw [w6 (n := 1000000000000 - ref01_Usage a - ref01_Usage n) (by omega), w6 (by omega)]
  omega
theorem plus_ref (a n : Int) : ref01_Plus ([a, n] : List Int) = min (ref01_Usage a + ref01_Usage n) 1000000000000 := by
 have ha := use_in a
 have hn := use_in n
 simp only [ref01_Plus, ref01_Plus_k1, ref01_Plus_g1]
 have e1 : ref01_held (w64 (0 + ref01_Usage a)) 1000000000000 = ref01_Usage a := by
  rw [w6 (by omega), Int.zero_add]
  exact use_id ha
 rw [e1, w6 (n := ref01_Usage a + ref01_Usage n) (by omega)]
 exact use_min (by omega)
theorem plus_eq (a n : Int) : sat_Plus ([a, n] : List Int) = ref01_Plus ([a, n] : List Int) := by rw [plus_sat, plus_ref]
theorem half_eq (n : Int) : sat_Half n = ref01_Half n := by
 have h := use_in n
 unfold sat_Half ref01_Half
 show w64 (Int.tdiv (ref01_Usage n) 2) = _
 rw [Int.tmod_eq_emod_of_nonneg h.1, w6 (n := ref01_Usage n - ref01_Usage n % 2) (by omega), Int.tdiv_eq_ediv_of_nonneg h.1, Int.tdiv_eq_ediv_of_nonneg (by omega)]
 congr 1
 omega
end Go.Proofs.YtigcpfbpmnppcaaGreatDoor
namespace Go.Proofs.YtigcpfbpmnppcaaGreatDoor
set_option linter.unusedSimpArgs false
set_option linter.unusedVariables false
open Go.Fw
def placeU (l : List Usage) (t : Usage) : Nat := (l.takeWhile (fun x => ref17_ahead x t)).length
theorem place_le (l : List Usage) (t : Usage) : placeU l t <= l.length := by
 unfold placeU
 exact (List.takeWhile_prefix _).length_le
theorem place_mono (t : Usage) : ∀ (l : List Usage), l.Pairwise aheadP -> ∀ (k : Nat) (x : Usage), l[k]? = some x -> ref17_ahead x t = decide (k < placeU l t)
 | [], _, k, x, h => by simp at h
 | y :: l, hp, k, x, h => by
  obtain ⟨h1, h2⟩ := List.pairwise_cons.1 hp
  have ih := place_mono t l h2
  unfold placeU at ih ⊢
  rw [List.takeWhile_cons]
  cases hy : ref17_ahead y t with
  | true =>
   simp only [if_true, List.length_cons]
   cases k with
   | zero =>
    simp only [List.getElem?_cons_zero, Option.some.injEq] at h
    subst h
    rw [hy]
    simp
   | succ k =>
    simp only [List.getElem?_cons_succ] at h
    rw [ih k x h]
    exact decide_eq_decide.2 (by omega)
  | false =>
   simp only [Bool.false_eq_true, if_false, List.length_nil, Nat.not_lt_zero, decide_false]
   cases k with
   | zero =>
    simp only [List.getElem?_cons_zero, Option.some.injEq] at h
    subst h
    exact hy
   | succ k =>
    simp only [List.getElem?_cons_succ] at h
    cases hx : ref17_ahead x t with
    | false => rfl
    | true => exact absurd (ahead_trans (h1 x (List.mem_of_getElem? h)) hx) (by rw [hy]; simp)
theorem getD_some {α : Type} (d : α) {l : List α} {k : Nat} (h : k < l.length) : l[k]? = some (l.getD k d) := by simp [List.getD, List.getElem?_eq_getElem h]
section
variable {l : List Usage} {t : Usage}
theorem search_use (hn : l.length <= 200) (hp : l.Pairwise aheadP) : ∀ (m : Nat) (i j : Int), Int.toNat (j - i) < m -> 0 <= i -> i <= (placeU l t : Int) -> (placeU l t : Int) <= j -> j <= (l.length : Int) ->
   (slices_BinarySearchFunc_Usage_g1 l t ledger_Charge_t3 m i j).1 = (placeU l t : Int)
 | 0, i, j, hm, _, _, _, _ => absurd hm (by omega)
 | m + 1, i, j, hm, h0, h1, h2, h3 => by
  rw [slices_BinarySearchFunc_Usage_g1]
  cases hd : decide (i < j) with
  | false =>
   have := of_decide_eq_false hd
   show i = _
   omega
  | true =>
   have hlt := of_decide_eq_true hd
   rw [half_ok h0 hlt h3 (by omega)]
   simp only [cond_true]
   obtain ⟨q, hq⟩ : ∃ q : Nat, (i + j) / 2 = (q : Int) := ⟨((i + j) / 2).toNat, by omega⟩
   rw [hq]
   have hql : q < l.length := by omega
   have hcmp : decide (ledger_Charge_t3 (l.getD (Int.toNat (q : Int)) Usage.zero) t < 0) = decide (q < placeU l t) := by
    rw [← place_mono t l hp q _ (getD_some Usage.zero hql), Int.toNat_natCast]
    exact order_lt _ _
   rw [hcmp]
   cases hc : decide (q < placeU l t) with
   | true =>
    have hc' := of_decide_eq_true hc
    simp only [cond_true]
    rw [w6 (n := (q : Int) + 1) (by omega)]
    exact search_use hn hp m _ _ (by omega) (by omega) (by omega) h2 h3
   | false =>
    have hc' := of_decide_eq_false hc
    simp only [cond_false]
    exact search_use hn hp m _ _ (by omega) h0 h1 (by omega) (by omega)
theorem search_val (hn : l.length <= 200) (hp : l.Pairwise aheadP) : slices_BinarySearchFunc_Usage l t ledger_Charge_t3 = ((placeU l t : Int), (decide (placeU l t < l.length)) && ((ByteArray.toList (l.getD (placeU l t) Usage.zero).user == ByteArray.toList t.user) && (ByteArray.toList (l.getD (placeU l t) Usage.zero).account == ByteArray.toList t.account))) := by
 have hl := place_le l t
 have e := search_use (t := t) hn hp ((Int.toNat ((l.length : Int) - 0)) + 1) 0 (l.length : Int) (by omega) (by omega) (by omega) (by omega) (by omega)
 unfold slices_BinarySearchFunc_Usage slices_BinarySearchFunc_Usage_k1
 rw [e, Int.toNat_natCast]
 have e2 : (ledger_Charge_t3 (l.getD (placeU l t) Usage.zero) t == 0) = _ := order_zero _ _
 rw [e2]
 congr 2
 exact decide_eq_decide.2 (by omega)
theorem ref_place (user account : ByteArray) (hp : l.Pairwise aheadP) : ∀ (m i : Nat), i <= placeU l ⟨user, account, 0, 0⟩ -> placeU l ⟨user, account, 0, 0⟩ - i < m -> ref17_Charge_g1 l user account m i = placeU l ⟨user, account, 0, 0⟩
 | 0, i, _, h => absurd h (by omega)
 | m + 1, i, hi, hm => by
  have hl := place_le l ⟨user, account, 0, 0⟩
  rw [ref17_Charge_g1]
  rcases Nat.lt_or_ge i l.length with h | h
  ·rw [decide_eq_true (show (i : Int) < (l.length : Int) by omega), Bool.true_and, place_mono ⟨user, account, 0, 0⟩ l hp i _ (getD_some Usage.zero h)]
   cases hc : decide (i < placeU l ⟨user, account, 0, 0⟩) with
   | true =>
    have := of_decide_eq_true hc
    exact ref_place user account hp m (i + 1) (by omega) (by omega)
   | false =>
    have := of_decide_eq_false hc
    show i = _
    omega
  ·rw [decide_eq_false (show ¬ (i : Int) < (l.length : Int) by omega)]
   show i = _
   omega
end
def chargeL (l : List Usage) (user account : ByteArray) (n : Int) : List Usage × Int :=
 let p := placeU l ⟨user, account, 0, 0⟩
 bif (decide (p < l.length)) && ((ByteArray.toList (l.getD p Usage.zero).user == ByteArray.toList user) && (ByteArray.toList (l.getD p Usage.zero).account == ByteArray.toList account)) then
  (l.take p ++ ⟨(l.getD p Usage.zero).user, (l.getD p Usage.zero).account, sat_Plus [(l.getD p Usage.zero).used, n], sat_Plus [(l.getD p Usage.zero).share, n]⟩ :: l.drop (p + 1), 0)
 else bif ((l.length : Int) == 200) then ([], 3)
 else (l.take p ++ ⟨user, account, sat_Plus [0, n], sat_Plus [0, n]⟩ :: l.drop p, 0)
theorem set_at {α : Type} (l : List α) (p : Nat) (h : p < l.length) (a : α) : l.set p a = l.take p ++ a :: l.drop (p + 1) := by
 rw [List.set_eq_take_append_cons_drop, if_pos h]
theorem charge_val {l : List Usage} {user account : ByteArray} {n : Int} (hc : ledger_Check l = 0) (hu : ledger_name user = true) (ha : ledger_name account = true) (hn : 0 <= n) : ledger_Charge l user account n = chargeL l user account n := by
 obtain ⟨h1, _, h3⟩ := (ledger_iff l).1.1 hc
 have hl := place_le l ⟨user, account, 0, 0⟩
 have hs := search_val (t := ⟨user, account, 0, 0⟩) h1 h3
 unfold ledger_Charge chargeL
 rw [hc, hu, ha, decide_eq_false (show ¬ n < 0 by omega)]
 simp only [ledger_Charge_t1, ledger_Charge_t2, ledger_Charge_t4, ledger_Charge_t5]
 rw [hs]
 dsimp only
 rw [Int.toNat_natCast]
 generalize hp : placeU l ⟨user, account, 0, 0⟩ = p at *
 cases hf : ((decide (p < l.length)) && ((ByteArray.toList (l.getD p Usage.zero).user == ByteArray.toList user) && (ByteArray.toList (l.getD p Usage.zero).account == ByteArray.toList account))) with
 | true =>
  have hpl : p < l.length := by
   rw [Bool.and_eq_true] at hf
   exact of_decide_eq_true hf.1
  show ((l.set p _).set p _, (0 : Int)) = (_, 0)
  rw [List.set_set, set_at l p hpl]
  congr 3
  have e : ∀ y : Usage, (l.set p y).getD p Usage.zero = y := fun y => by simp [List.getD, hpl]
  rw [e]
 | false =>
  cases hb : ((l.length : Int) == 200) with
  | true => rfl
  | false =>
   have hi : ledger_insert_Usage l (p : Int) ⟨user, account, 0, 0⟩ = l.take p ++ (⟨user, account, 0, 0⟩ : Usage) :: l.drop p := by
    unfold ledger_insert_Usage
    simp
   have hlen : (l.take p).length = p := by simp; omega
   have e : ∀ y : Usage, (l.take p ++ y :: l.drop p).getD p Usage.zero = y := fun y => by
    simp [List.getD, List.getElem?_append_right, hlen]
   have e2 : ∀ y z : Usage, (l.take p ++ y :: l.drop p).set p z = l.take p ++ z :: l.drop p := fun y z => by
    rw [List.set_append_right _ _ (by omega), hlen, Nat.sub_self]
    rfl
   show (((ledger_insert_Usage l (p : Int) ⟨user, account, 0, 0⟩).set p _).set p _, (0 : Int)) = (_, 0)
   rw [List.set_set]
   simp only [hi]
   rw [e2]
   simp only [e, e2]
theorem name17_eq (s : ByteArray) : ref17_name s = ledger_name s := by
 unfold ref17_name ledger_name
 congr 1 <;> exact decide_eq_decide.2 (by omega)
theorem charge_eq (l : List Usage) (user account : ByteArray) (n : Int) (hl : l.length <= 4294967296) : ledger_Charge l user account n = ref17_Charge l user account n := by
 have hce := ledger_Check_eq l hl
 rcases (ledger_iff l).2 with hc | hc
 ·unfold ref17_Charge
  rw [← hce, hc, name17_eq, name17_eq]
  cases hu : ledger_name user with
  | false => unfold ledger_Charge; rw [hc, hu]; rfl
  | true =>
   cases ha : ledger_name account with
   | false => unfold ledger_Charge; rw [hc, hu, ha]; rfl
   | true =>
    cases hn : decide (n < 0) with
    | true => unfold ledger_Charge; rw [hc, hu, ha, hn]; rfl
    | false =>
     have hn' := of_decide_eq_false hn
     rw [charge_val hc hu ha (by omega)]
     obtain ⟨h1, _, h3⟩ := (ledger_iff l).1.1 hc
     have hpl := place_le l ⟨user, account, 0, 0⟩
     show _ = ref17_Charge_k1 l user account n (ref17_Charge_g1 l user account ((Int.toNat ((l.length : Int) - (0 : Int))) + 1) 0)
     rw [ref_place user account h3 _ 0 (by omega) (by omega)]
     unfold ref17_Charge_k1 chargeL
     simp only
     generalize placeU l ⟨user, account, 0, 0⟩ = p at *
     have e1 : decide ((p : Int) < (l.length : Int)) = decide (p < l.length) := decide_eq_decide.2 (by omega)
     rw [e1, Bool.and_assoc, w6 (n := (p : Int) + 1) (by omega), show Int.toNat ((p : Int) + 1) = p + 1 by omega, ← plus_eq, ← plus_eq, ← plus_eq]
     simp only [List.append_assoc, List.singleton_append]
 ·unfold ledger_Charge ref17_Charge
  rw [← hce, hc]
  rfl
theorem decay_go (l : List Usage) : ∀ (r p : List Usage) (m : Nat), (p ++ r).length = l.length -> r.length < m -> ledger_Decay_g1 l m p.length (p ++ r) = p ++ r.map fun x => { x with share := sat_Half x.share }
 | [], p, 0, _, h => absurd h (by simp)
 | [], p, m + 1, hl, _ => by
  rw [ledger_Decay_g1, decide_eq_false (by simp at hl; omega)]
  simp
 | x :: r, p, 0, _, h => absurd h (by simp)
 | x :: r, p, m + 1, hl, hm => by
  have hm' : r.length < m := by simp at hm; omega
  have ih := decay_go l r (p ++ [{ x with share := sat_Half x.share }]) m (by simp at hl ⊢; omega) hm'
  simp only [List.append_assoc, List.singleton_append, List.length_append, List.length_cons, List.length_nil, Nat.zero_add] at ih
  have hg : (p ++ x :: r).getD p.length Usage.zero = x := by simp [List.getD]
  have hs : ∀ y, (p ++ x :: r).set p.length y = p ++ y :: r := fun y => by rw [List.set_append_right _ _ (Nat.le_refl _), Nat.sub_self]; rfl
  rw [ledger_Decay_g1, decide_eq_true (by simp at hl; omega), hg, hs]
  exact ih
theorem decay_ref : ∀ (l out : List Usage) (i : Nat), (ref17_Decay_g1 l out i).1 = out ++ l.map fun x => { x with share := ref01_Half x.share }
 | [], out, i => by simp [ref17_Decay_g1]
 | x :: r, out, i => by
  rw [ref17_Decay_g1, decay_ref r]
  simp
theorem decay_val {l : List Usage} (h : ledger_Check l = 0) : ledger_Decay l = l.map fun x => { x with share := sat_Half x.share } := by
 unfold ledger_Decay
 rw [h]
 have := decay_go l l [] ((Int.toNat ((l.length : Int) - (0 : Int))) + 1) rfl (by omega)
 exact this
theorem decay_eq (l : List Usage) (hl : l.length <= 4294967296) : ledger_Decay l = ref17_Decay l := by
 rcases (ledger_iff l).2 with hc | hc
 ·rw [decay_val hc]
  unfold ref17_Decay
  rw [← ledger_Check_eq l hl, hc]
  show _ = (ref17_Decay_g1 l [] 0).1
  rw [decay_ref]
  simp only [half_eq, List.nil_append]
 ·unfold ledger_Decay ref17_Decay
  rw [← ledger_Check_eq l hl, hc]
  rfl
end Go.Proofs.YtigcpfbpmnppcaaGreatDoor
