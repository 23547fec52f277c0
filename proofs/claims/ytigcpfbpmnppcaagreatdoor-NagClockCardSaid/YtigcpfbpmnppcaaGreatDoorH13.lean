/-
  Nag, fourth part: a user is charged as the document says. Condition: the ledger is of a size that a machine holds.
  Nag, fifth part: what is past is dropped; a tick passes as the document says. Condition: sets of nodes are words; texts and rows are of a size that a machine holds.
  Nag: the sizes of what is sent again, late, stale and over. Condition: the state is read, and few.
  Nag: the sizes of a state behind a tick. Condition: the state is of a size that a machine holds.
  What leaves a state one that may be: a change of what its check does not look at. Conditions stand in each lemma.
  Nag without the document: a ledger that is charged is a ledger; a state behind a tick, and one of which notes were sent again, may be. Conditions stand in each lemma.
  Nag without the document: what the ledger has behind a tick. Condition: sets of nodes are words.
  Contracts of functions, printed by a program of this repo (wip/dec). No condition beyond those that stand in each.
  The answers that the document fixes for layer 27. No condition.
  NagClock's plain law: behind a tick the state may be; the ledger has as much more as jobs that run have nodes, if all have an entry, and it is not at its end; nothing else is changed but jobs' use, and what is past. Condition: the state is read.
  Behind a tick the state may be; the ledger has as much more as jobs that run have nodes, if all have an entry, and it is not at its end; nothing else is changed but jobs use, and what is past. No condition.
  NagClock holds for every input: behind a tick the state may be; the ledger has as much more as jobs that run have nodes, if all have an entry, and it is not at its end; nothing else is changed but jobs' use, and what is past. No condition.
-/
import Derived.Test.YtigcpfbpmnppcaaGreatDoorH12
import Derived.Test.YtigcpfbpmnppcaaGreatDoorH5
import Derived.Test.YtigcpfbpmnppcaaGreatDoorProg
import Derived.Test.YtigcpfbpmnppcaaGreatDoorTie
import Derived.Test.YtigcpfbpmnppcaaGreatDoorCards
import Derived.Test.YtigcpfbpmnppcaaGreatDoorRows
import Derived.ProofKit
import Derived.LaidMore
import Derived.OpenShut
import Derived.SevenTiedAt
namespace Go.Proofs.YtigcpfbpmnppcaaGreatDoor
set_option linter.unusedSimpArgs false
set_option linter.unusedVariables false
open Go.Fw
def placeU (l : List Usage) (t : Usage) : Nat := (l.takeWhile (fun x => ref17_ahead x t)).length
theorem place_le (l : List Usage) (t : Usage) : placeU l t <= l.length := by
 unfold placeU
 exact (List.takeWhile_prefix _).length_le
theorem place_mono (t : Usage) : ∀ (l : List Usage), l.Pairwise aheadP -> ∀ (k : Nat) (x : Usage), l[k]? = some x -> ref17_ahead x t = decide (k < placeU l t)
 | [], _, k, x, h => by simp at h
 | y :: l, hp, k, x, h => by
  obtain ⟨h1, h2⟩ := List.pairwise_cons.1 hp
  have ih := place_mono t l h2
  unfold placeU at ih ⊢
  rw [List.takeWhile_cons]
  cases hy : ref17_ahead y t with
  | true =>
   simp only [if_true, List.length_cons]
   cases k with
   | zero =>
    simp only [List.getElem?_cons_zero, Option.some.injEq] at h
    subst h
    rw [hy]
    simp
   | succ k =>
    simp only [List.getElem?_cons_succ] at h
    rw [ih k x h]
    exact decide_eq_decide.2 (by omega)
  | false =>
   simp only [Bool.false_eq_true, if_false, List.length_nil, Nat.not_lt_zero, decide_false]
   cases k with
   | zero =>
    simp only [List.getElem?_cons_zero, Option.some.injEq] at h
    subst h
    exact hy
   | succ k =>
    simp only [List.getElem?_cons_succ] at h
    cases hx : ref17_ahead x t with
    | false => rfl
    | true => exact absurd (ahead_trans (h1 x (List.mem_of_getElem? h)) hx) (by rw [hy]; simp)
theorem getD_some {α : Type} (d : α) {l : List α} {k : Nat} (h : k < l.length) : l[k]? = some (l.getD k d) := by simp [List.getD, List.getElem?_eq_getElem h]
section
variable {l : List Usage} {t : Usage}
theorem search_use (hn : l.length <= 200) (hp : l.Pairwise aheadP) : ∀ (m : Nat) (i j : Int), Int.toNat (j - i) < m -> 0 <= i -> i <= (placeU l t : Int) -> (placeU l t : Int) <= j -> j <= (l.length : Int) ->
   (slices_BinarySearchFunc_Usage_g1 l t ledger_Charge_t3 m i j).1 = (placeU l t : Int)
 | 0, i, j, hm, _, _, _, _ => absurd hm (by omega)
 | m + 1, i, j, hm, h0, h1, h2, h3 => by
  rw [slices_BinarySearchFunc_Usage_g1]
  cases hd : decide (i < j) with
  | false =>
   have := of_decide_eq_false hd
   show i = _
   omega
  | true =>
   have hlt := of_decide_eq_true hd
   rw [half_ok h0 hlt h3 (by omega)]
   simp only [cond_true]
   obtain ⟨q, hq⟩ : ∃ q : Nat, (i + j) / 2 = (q : Int) := ⟨((i + j) / 2).toNat, by omega⟩
   rw [hq]
   have hql : q < l.length := by omega
   have hcmp : decide (ledger_Charge_t3 (l.getD (Int.toNat (q : Int)) Usage.zero) t < 0) = decide (q < placeU l t) := by
    rw [← place_mono t l hp q _ (getD_some Usage.zero hql), Int.toNat_natCast]
    exact order_lt _ _
   rw [hcmp]
   cases hc : decide (q < placeU l t) with
   | true =>
    have hc' := of_decide_eq_true hc
    simp only [cond_true]
    rw [w6 (n := (q : Int) + 1) (by omega)]
    exact search_use hn hp m _ _ (by omega) (by omega) (by omega) h2 h3
   | false =>
    have hc' := of_decide_eq_false hc
    simp only [cond_false]
    exact search_use hn hp m _ _ (by omega) h0 h1 (by omega) (by omega)
theorem search_val (hn : l.length <= 200) (hp : l.Pairwise aheadP) : slices_BinarySearchFunc_Usage l t ledger_Charge_t3 = ((placeU l t : Int), (decide (placeU l t < l.length)) && ((ByteArray.toList (l.getD (placeU l t) Usage.zero).user == ByteArray.toList t.user) && (ByteArray.toList (l.getD (placeU l t) Usage.zero).account == ByteArray.toList t.account))) := by
 have hl := place_le l t
 have e := search_use (t := t) hn hp ((Int.toNat ((l.length : Int) - 0)) + 1) 0 (l.length : Int) (by omega) (by omega) (by omega) (by omega) (by omega)
 unfold slices_BinarySearchFunc_Usage slices_BinarySearchFunc_Usage_k1
 rw [e, Int.toNat_natCast]
 have e2 : (ledger_Charge_t3 (l.getD (placeU l t) Usage.zero) t == 0) = _ := order_zero _ _
 rw [e2]
 congr 2
 exact decide_eq_decide.2 (by omega)
end
def chargeL (l : List Usage) (user account : ByteArray) (n : Int) : List Usage × Int :=
 let p := placeU l ⟨user, account, 0, 0⟩
 bif (decide (p < l.length)) && ((ByteArray.toList (l.getD p Usage.zero).user == ByteArray.toList user) && (ByteArray.toList (l.getD p Usage.zero).account == ByteArray.toList account)) then
  (l.take p ++ ⟨(l.getD p Usage.zero).user, (l.getD p Usage.zero).account, sat_Plus [(l.getD p Usage.zero).used, n], sat_Plus [(l.getD p Usage.zero).share, n]⟩ :: l.drop (p + 1), 0)
 else bif ((l.length : Int) == 200) then ([], 3)
 else (l.take p ++ ⟨user, account, sat_Plus [0, n], sat_Plus [0, n]⟩ :: l.drop p, 0)
theorem set_at {α : Type} (l : List α) (p : Nat) (h : p < l.length) (a : α) : l.set p a = l.take p ++ a :: l.drop (p + 1) := by
 rw [List.set_eq_take_append_cons_drop, if_pos h]
theorem charge_val {l : List Usage} {user account : ByteArray} {n : Int} (hc : ledger_Check l = 0) (hu : ledger_name user = true) (ha : ledger_name account = true) (hn : 0 <= n) : ledger_Charge l user account n = chargeL l user account n := by
 obtain ⟨h1, _, h3⟩ := (ledger_iff l).1.1 hc
 have hl := place_le l ⟨user, account, 0, 0⟩
 have hs := search_val (t := ⟨user, account, 0, 0⟩) h1 h3
 unfold ledger_Charge chargeL
 rw [hc, hu, ha, decide_eq_false (show ¬ n < 0 by omega)]
 simp only [ledger_Charge_t1, ledger_Charge_t2, ledger_Charge_t4, ledger_Charge_t5]
 rw [hs]
 dsimp only
 rw [Int.toNat_natCast]
 generalize hp : placeU l ⟨user, account, 0, 0⟩ = p at *
 cases hf : ((decide (p < l.length)) && ((ByteArray.toList (l.getD p Usage.zero).user == ByteArray.toList user) && (ByteArray.toList (l.getD p Usage.zero).account == ByteArray.toList account))) with
 | true =>
  have hpl : p < l.length := by
   rw [Bool.and_eq_true] at hf
   exact of_decide_eq_true hf.1
  show ((l.set p _).set p _, (0 : Int)) = (_, 0)
  rw [List.set_set, set_at l p hpl]
  congr 3
  have e : ∀ y : Usage, (l.set p y).getD p Usage.zero = y := fun y => by simp [List.getD, hpl]
  rw [e]
 | false =>
  cases hb : ((l.length : Int) == 200) with
  | true => rfl
  | false =>
   have hi : ledger_insert_Usage l (p : Int) ⟨user, account, 0, 0⟩ = l.take p ++ (⟨user, account, 0, 0⟩ : Usage) :: l.drop p := by
    unfold ledger_insert_Usage
    simp
   have hlen : (l.take p).length = p := by simp; omega
   have e : ∀ y : Usage, (l.take p ++ y :: l.drop p).getD p Usage.zero = y := fun y => by
    simp [List.getD, List.getElem?_append_right, hlen]
   have e2 : ∀ y z : Usage, (l.take p ++ y :: l.drop p).set p z = l.take p ++ z :: l.drop p := fun y z => by
    rw [List.set_append_right _ _ (by omega), hlen, Nat.sub_self]
    rfl
   show (((ledger_insert_Usage l (p : Int) ⟨user, account, 0, 0⟩).set p _).set p _, (0 : Int)) = (_, 0)
   rw [List.set_set]
   simp only [hi]
   rw [e2]
   simp only [e, e2]
theorem decay_go (l : List Usage) : ∀ (r p : List Usage) (m : Nat), (p ++ r).length = l.length -> r.length < m -> ledger_Decay_g1 l m p.length (p ++ r) = p ++ r.map fun x => { x with share := sat_Half x.share }
 | [], p, 0, _, h => absurd h (by simp)
 | [], p, m + 1, hl, _ => by
  rw [ledger_Decay_g1, decide_eq_false (by simp at hl; omega)]
  simp
 | x :: r, p, 0, _, h => absurd h (by simp)
 | x :: r, p, m + 1, hl, hm => by
  have hm' : r.length < m := by simp at hm; omega
  have ih := decay_go l r (p ++ [{ x with share := sat_Half x.share }]) m (by simp at hl ⊢; omega) hm'
  simp only [List.append_assoc, List.singleton_append, List.length_append, List.length_cons, List.length_nil, Nat.zero_add] at ih
  have hg : (p ++ x :: r).getD p.length Usage.zero = x := by simp [List.getD]
  have hs : ∀ y, (p ++ x :: r).set p.length y = p ++ y :: r := fun y => by rw [List.set_append_right _ _ (Nat.le_refl _), Nat.sub_self]; rfl
  rw [ledger_Decay_g1, decide_eq_true (by simp at hl; omega), hg, hs]
  exact ih
theorem decay_val {l : List Usage} (h : ledger_Check l = 0) : ledger_Decay l = l.map fun x => { x with share := sat_Half x.share } := by
 unfold ledger_Decay
 rw [h]
 have := decay_go l l [] ((Int.toNat ((l.length : Int) - (0 : Int))) + 1) rfl (by omega)
 exact this
end Go.Proofs.YtigcpfbpmnppcaaGreatDoor
namespace Go.Proofs.YtigcpfbpmnppcaaGreatDoor
set_option linter.unusedSimpArgs false
set_option linter.unusedVariables false
open Go.Fw
def keepB (now : Int) (b : Book) : Bool := !(decide (b.to <= now))
theorem past_go2 (now : Int) : ∀ (m i j : Nat) (c : List Book), i <= j -> j <= c.length -> c.length <= 4294967296 -> c.length - j < m ->
  (fun p1 : Int × Nat × (List Book) => (List.take (Int.toNat p1.1) p1.2.2)) (book_Past_g2 now m (i : Int) j c) = c.take i ++ (c.drop j).filter (keepB now)
 | 0, i, j, c, _, _, _, h => absurd h (by omega)
 | m + 1, i, j, c, hij, hj, hc, hm => by
  rw [book_Past_g2]
  rcases Nat.lt_or_ge j c.length with h | h
  ·rw [decide_eq_true (show (j : Int) < (c.length : Int) by omega)]
   simp only [cond_true]
   have hd : c.drop j = c.getD j Book.zero :: c.drop (j + 1) := by
    rw [List.drop_eq_getElem_cons h]
    simp [List.getD, h]
   rw [hd, List.filter_cons]
   unfold keepB
   cases hk : !(decide ((c.getD j Book.zero).to <= now)) with
   | true =>
    simp only [cond_true, if_true]
    rw [w6 (n := (i : Int) + 1) (by omega), Int.toNat_natCast]
    have ih := past_go2 now m (i + 1) (j + 1) (c.set i (c.getD j Book.zero)) (by omega) (by rw [List.length_set]; omega) (by rw [List.length_set]; exact hc) (by rw [List.length_set]; omega)
    rw [List.drop_set_of_lt (by omega)] at ih
    refine ih.trans ?_
    rw [List.take_add_one, List.take_set_of_le (Nat.le_refl i), List.getElem?_set_self (by omega)]
    simp
    rfl
   | false =>
    simp only [cond_false, Bool.false_eq_true, if_false]
    exact past_go2 now m i (j + 1) c (by omega) (by omega) hc (by omega)
  ·rw [decide_eq_false (show ¬ (j : Int) < (c.length : Int) by omega), List.drop_of_length_le (by omega)]
   simp
theorem past_go1 (l : List Book) (now : Int) (hl : l.length <= 4294967296) : ∀ (r p : List Book), l = p ++ r -> (∀ x ∈ p, keepB now x = true) -> book_Past_g1 l now r p.length = l.filter (keepB now)
 | [], p, h, hp => by
  rw [book_Past_g1]
  have e : l = p := by rw [h, List.append_nil]
  subst e
  exact (List.filter_eq_self.2 hp).symm
 | x :: r, p, h, hp => by
  have hg : l.getD p.length Book.zero = x := by rw [h]; simp [List.getD]
  have hlen : p.length + 1 + r.length = l.length := by rw [h]; simp; omega
  rw [book_Past_g1, hg]
  cases hk : decide (x.to <= now) with
  | true =>
   have hn : ((p.length : Int) == (-1)) = false := by rw [beq_eq_false_iff_ne]; omega
   rw [hn]
   simp only [cond_true, cond_false]
   have e := past_go2 now ((Int.toNat ((l.length : Int) - ((p.length + 1) : Int))) + 1) p.length (p.length + 1) l (by omega) (by omega) hl (by omega)
   refine e.trans ?_
   have e1 : l.take p.length = p := by rw [h]; simp
   have e2 : l.drop (p.length + 1) = r := by rw [h, ← List.drop_drop]; simp
   rw [e1, e2, h, List.filter_append, List.filter_eq_self.2 hp, List.filter_cons]
   have : keepB now x = false := by unfold keepB; rw [hk]; rfl
   rw [this]
   simp
  | false =>
   simp only [cond_false]
   have ih := past_go1 l now hl r (p ++ [x]) (by rw [h]; simp) (fun y hy => by
    rcases List.mem_append.1 hy with hy | hy
    ·exact hp y hy
    ·rw [List.mem_singleton.1 hy]; unfold keepB; rw [hk]; rfl)
   simpa using ih
theorem past_val {l : List Book} (now : Int) (hl : l.length <= 4294967296) (h : book_Check l = 0) : book_Past l now = l.filter (keepB now) := by
 unfold book_Past
 rw [h]
 exact past_go1 l now hl l [] rfl (fun x hx => (nomatch hx))
def chgJ (x : Job) : Job := bif x.state != 2 then x else (job_Charge x (nodeset_Count x.nodes)).1
def chgL (d : List Usage) (x : Job) : List Usage := bif x.state != 2 then d else bif ((ledger_Charge d x.user x.account (nodeset_Count x.nodes)).2 == 0) then (ledger_Charge d x.user x.account (nodeset_Count x.nodes)).1 else d
theorem jcharge_ok {x : Job} (h : job_Check x = 0) (hs : x.state = 2) (n : Int) : job_Charge x n = ({ x with used := sat_Plus [x.used, n] }, 0) := by
 unfold job_Charge
 rw [h, hs]
 rfl
theorem clock_prog : ∀ (r p : List Job) (js : List Job) (c : State), (∀ x ∈ r, job_Check x = 0) -> c.jobs = p ++ r ->
  nag_Clock_g1 r p.length js c = (p ++ r.map chgJ, { c with jobs := p ++ r.map chgJ, ledger := r.foldl chgL c.ledger })
 | [], p, js, c, _, h => by
  rw [nag_Clock_g1, h]
  cases c
  simp only [List.map_nil, List.append_nil, List.foldl_nil] at h ⊢
  rw [← h]
 | x :: r, p, js, c, hx, h => by
  have hr : ∀ y ∈ r, job_Check y = 0 := fun y hy => hx y (List.mem_cons_of_mem _ hy)
  have hg : c.jobs.getD p.length Job.zero = x := by rw [h]; exact getD_mid _ _ _ _
  have ih := fun (y : Job) js c h => clock_prog r (p ++ [y]) js c hr h
  simp only [List.length_append, List.length_cons, List.length_nil, Nat.zero_add, List.append_assoc, List.singleton_append] at ih
  rw [nag_Clock_g1, hg, List.map_cons, List.foldl_cons]
  cases hs : x.state != 2 with
  | true =>
   have e1 : chgJ x = x := by unfold chgJ; rw [hs]; rfl
   have e2 : chgL c.ledger x = c.ledger := by unfold chgL; rw [hs]; rfl
   simp only [cond_true]
   rw [ih x c.jobs c h, e1, e2]
  | false =>
   have hs2 : x.state = 2 := by simpa using hs
   have hj := jcharge_ok (hx x (List.mem_cons_self ..)) hs2 (nodeset_Count x.nodes)
   have e1 : chgJ x = { x with used := sat_Plus [x.used, nodeset_Count x.nodes] } := by unfold chgJ; rw [hs, hj]; rfl
   have hset : ∀ y, c.jobs.set p.length y = p ++ y :: r := fun y => by rw [h]; exact set_mid _ _ _ _
   have h0 : ((0 : Int) == 0) = true := rfl
   rw [hj, hset, e1]
   simp only [cond_false, h0, cond_true]
   cases hl : ((ledger_Charge c.ledger x.user x.account (nodeset_Count x.nodes)).2 == 0) with
   | true =>
    have e2 : chgL c.ledger x = (ledger_Charge c.ledger x.user x.account (nodeset_Count x.nodes)).1 := by unfold chgL; rw [hs, hl]; rfl
    simp only [cond_true]
    rw [ih _ _ _ rfl, e2]
   | false =>
    have e2 : chgL c.ledger x = c.ledger := by unfold chgL; rw [hs, hl]; rfl
    simp only [cond_false]
    rw [ih _ _ _ rfl, e2]
theorem charge_len {l : List Usage} {user account : ByteArray} {n : Int} (h : ((ledger_Charge l user account n).2 == 0) = true) : (ledger_Charge l user account n).1.length <= 201 := by
 have h' : (ledger_Charge l user account n).2 = 0 := by simpa using h
 rcases (ledger_iff l).2 with hc | hc
 ·have hlen := ((ledger_iff l).1.1 hc).1
  unfold ledger_Charge at h' ⊢
  rw [hc] at h' ⊢
  simp only [bne_self_eq_false, cond_false] at h' ⊢
  cases hq : (((!(ledger_name user)) || (!(ledger_name account))) || (decide (n < 0))) with
  | true => rw [hq] at h'; cases h'
  | false =>
   rw [hq] at h'
   simp only [cond_false] at h' ⊢
   cases hb : (!(ledger_Charge_t1 l user account).2) with
   | true =>
    rw [hb] at h'
    simp only [cond_true] at h' ⊢
    cases hz : ((l.length : Int) == 200) with
    | true => rw [hz] at h'; cases h'
    | false =>
     have := bsu_le l (⟨user, account, 0, 0⟩ : Usage) ledger_Charge_t3 (by omega)
     simp only [cond_false, List.length_set]
     show (ledger_insert_Usage l _ _).length <= 201
     rw [ledger_insert_len _ _ _ this.1 this.2]
     omega
   | false =>
    simp only [cond_false, List.length_set]
    omega
 ·unfold ledger_Charge at h'
  rw [hc] at h'
  cases h'
def ticked (s : State) : State :=
 { s with now := s.now + 1, jobs := s.jobs.map chgJ, books := book_Past s.books (s.now + 1), ledger := bif ((Int.tmod (s.now + 1) 50) == 0) then ledger_Decay (s.jobs.foldl chgL s.ledger) else s.jobs.foldl chgL s.ledger }
section
variable {s : State}
theorem clock_val (h0 : state_Check s = 0) (ht : (s.now == 1000000) = false) : nag_Clock s = (ticked s, 0) := by
 obtain ⟨hp, _⟩ := check_parts h0
 obtain ⟨_, hjc, _⟩ := table_parts (plan_Check_parts hp).2
 have hn := plan_now hp
 have e := clock_prog s.jobs [] s.jobs s hjc rfl
 simp only [List.length_nil, List.nil_append] at e
 unfold nag_Clock
 rw [h0, ht]
 simp only [bne_self_eq_false, cond_false]
 rw [e]
 unfold nag_Clock_k1 ticked
 dsimp only
 rw [w6 (n := s.now + 1) (by omega)]
 cases ((Int.tmod (s.now + 1) 50) == 0) <;> rfl
end
end Go.Proofs.YtigcpfbpmnppcaaGreatDoor
namespace Go.Proofs.YtigcpfbpmnppcaaGreatDoor
set_option linter.unusedSimpArgs false
set_option linter.unusedVariables false
open Go.Fw
end Go.Proofs.YtigcpfbpmnppcaaGreatDoor
namespace Go.Proofs.YtigcpfbpmnppcaaGreatDoor
set_option linter.unusedSimpArgs false
set_option linter.unusedVariables false
open Go.Fw
theorem chgJ_sz {x : Job} (h : x.sz) : (chgJ x).sz := by
 unfold chgJ
 cases x.state != 2 with
 | true => exact h
 | false =>
  simp only [cond_false]
  unfold job_Charge
  cases (job_Check x != 0) with
  | true => exact Job.szz _
  | false =>
   cases (job_when (x.state == 2) != 0) with
   | true => exact Job.szz _
   | false => exact h
theorem mem_at {α : Type} {a b y : α} {p q : List α} (h : y ∈ p ++ a :: q) : y ∈ p ∨ y = a ∨ y ∈ q := by
 rcases List.mem_append.1 h with h | h
 ·exact .inl h
 ·rcases List.mem_cons.1 h with h | h
  ·exact .inr (.inl h)
  ·exact .inr (.inr h)
def LedSz (d : List Usage) : Prop := d.length <= 4294967296 ∧ ∀ y ∈ d, y.sz
theorem charge_sz {d : List Usage} {user account : ByteArray} {n : Int} (h : LedSz d) (hu : user.size <= 4294967296) (ha : account.size <= 4294967296) (hc : ((ledger_Charge d user account n).2 == 0) = true) : LedSz (ledger_Charge d user account n).1 := by
 refine ⟨by have := charge_len hc; omega, ?_⟩
 rcases (ledger_iff d).2 with h0 | h2
 ·unfold ledger_Charge at hc ⊢
  rw [h0] at hc ⊢
  simp only [bne_self_eq_false, cond_false] at hc ⊢
  cases hq : (((!(ledger_name user)) || (!(ledger_name account))) || (decide (n < 0))) with
  | true => rw [hq] at hc; cases hc
  | false =>
   rw [hq] at hc
   simp only [Bool.or_eq_false_iff, Bool.not_eq_false', decide_eq_false_iff_not] at hq
   have e := charge_val h0 hq.1.1 hq.1.2 (n := n) (by omega)
   unfold ledger_Charge at e
   rw [h0, hq.1.1, hq.1.2, decide_eq_false hq.2] at e
   simp only [bne_self_eq_false, cond_false, Bool.not_true, Bool.or_false] at hc ⊢ e
   rw [e] at hc ⊢
   unfold chargeL at hc ⊢
   simp only at hc ⊢
   generalize placeU d ⟨user, account, 0, 0⟩ = p at *
   cases hf : ((decide (p < d.length)) && ((ByteArray.toList (d.getD p Usage.zero).user == ByteArray.toList user) && (ByteArray.toList (d.getD p Usage.zero).account == ByteArray.toList account))) with
   | true =>
    have hpl : p < d.length := by
     rw [Bool.and_eq_true] at hf
     exact of_decide_eq_true hf.1
    have hg : (d.getD p Usage.zero).sz := getD_sz h.2 (Usage.szz _)
    intro y hy
    simp only [cond_true] at hy
    rcases mem_at (b := y) hy with hy | rfl | hy
    ·exact h.2 y (List.mem_of_mem_take hy)
    ·exact ⟨hg.1, hg.2⟩
    ·exact h.2 y (List.mem_of_mem_drop hy)
   | false =>
    rw [hf] at hc
    cases hb : ((d.length : Int) == 200) with
    | true => rw [hb] at hc; cases hc
    | false =>
     intro y hy
     simp only [cond_false] at hy
     rcases mem_at (b := y) hy with hy | rfl | hy
     ·exact h.2 y (List.mem_of_mem_take hy)
     ·exact ⟨hu, ha⟩
     ·exact h.2 y (List.mem_of_mem_drop hy)
 ·unfold ledger_Charge at hc
  rw [h2] at hc
  cases hc
theorem fold_sz : ∀ (r : List Job) (d : List Usage), (∀ x ∈ r, x.sz) -> LedSz d -> LedSz (r.foldl chgL d)
 | [], _, _, h => h
 | x :: r, d, hr, h => by
  refine fold_sz r (chgL d x) (fun y hy => hr y (List.mem_cons_of_mem _ hy)) ?_
  have hx := hr x (List.mem_cons_self ..)
  unfold chgL
  cases x.state != 2 with
  | true => exact h
  | false =>
   cases hl : ((ledger_Charge d x.user x.account (nodeset_Count x.nodes)).2 == 0) with
   | true => exact charge_sz h hx.2.1 hx.2.2.1 hl
   | false => exact h
theorem decay_sz {d : List Usage} (h : LedSz d) : LedSz (ledger_Decay d) := by
 rcases (ledger_iff d).2 with hc | hc
 ·rw [decay_val hc]
  refine ⟨by rw [List.length_map]; exact h.1, fun y hy => ?_⟩
  obtain ⟨z, hz, rfl⟩ := List.mem_map.1 hy
  have := h.2 z hz
  exact ⟨this.1, this.2⟩
 ·unfold ledger_Decay
  rw [hc]
  exact ⟨Nat.zero_le _, fun y hy => (nomatch hy)⟩
theorem ticked_sz {s : State} (h : s.sz) : (ticked s).sz := by
 obtain ⟨h1, h2, h3, h4, h5, h6, h7⟩ := h
 have hl := fold_sz s.jobs s.ledger h3 ⟨h6, h7⟩
 refine ⟨h1, by show (s.jobs.map chgJ).length <= _; rw [List.length_map]; exact h2, fun y hy => ?_, h4, ?_, ?_⟩
 ·obtain ⟨z, hz, rfl⟩ := List.mem_map.1 hy
  exact chgJ_sz (h3 z hz)
 ·show (book_Past s.books (s.now + 1)).length <= _
  cases hb : (book_Check s.books != 0) with
  | true => unfold book_Past; rw [hb]; exact Nat.zero_le _
  | false => rw [past_val _ h5 (by simpa using hb)]; exact Nat.le_trans (List.length_filter_le _ _) h5
 ·show LedSz (bif ((Int.tmod (s.now + 1) 50) == 0) then ledger_Decay (s.jobs.foldl chgL s.ledger) else s.jobs.foldl chgL s.ledger)
  cases ((Int.tmod (s.now + 1) 50) == 0) with
  | true => exact decay_sz hl
  | false => exact hl
theorem clock_sz {s : State} (h : s.sz) : (nag_Clock s).1.sz := by
 cases hc : ((state_Check s) != 0) with
 | true => unfold nag_Clock; rw [hc]; exact State.szz _
 | false =>
  cases ht : (s.now == 1000000) with
  | true => unfold nag_Clock; rw [hc, ht]; exact State.szz _
  | false => rw [clock_val (by simpa using hc) ht]; exact ticked_sz h
end Go.Proofs.YtigcpfbpmnppcaaGreatDoor
namespace Go.Proofs.YtigcpfbpmnppcaaGreatDoor
set_option linter.unusedSimpArgs false
set_option linter.unusedVariables false
open Go.Fw
section
variable {α β γ : Type} [BEq α]
def mapV (g : β -> γ) (c : List (α × β)) : List (α × γ) := c.map fun p => (p.1, g p.2)
theorem setM_map (g : β -> γ) (k : α) (v : β) : ∀ c : List (α × β), setM k (g v) (mapV g c) = mapV g (setM k v c)
 | [] => rfl
 | p :: r => by
  have ih := setM_map g k v r
  unfold mapV at ih ⊢
  rw [List.map_cons, setM, setM]
  cases k == p.1 with
  | true => rfl
  | false => simp only [cond_false]; rw [ih]; rfl
theorem getM_map (g : β -> γ) (k : α) : ∀ c : List (α × β), getM k (mapV g c) = (getM k c).map g
 | [] => rfl
 | p :: r => by
  have ih := getM_map g k r
  unfold mapV at ih ⊢
  rw [List.map_cons, getM, getM]
  cases k == p.1 with
  | true => rfl
  | false => simp only [cond_false]; exact ih
end
structure SameN (f : Node -> Node) : Prop where
 state : ∀ x, (f x).state = x.state
 job : ∀ x, (f x).job = x.job
 want : ∀ x, (f x).want = x.want
structure SameJ (g : Job -> Job) : Prop where
 id : ∀ x, (g x).id = x.id
 state : ∀ x, (g x).state = x.state
 nodes : ∀ x, (g x).nodes = x.nodes
 shape : ∀ x, (g x).shape = x.shape
section
variable {f : Node -> Node} {g : Job -> Job}
theorem where_map (is : Node -> Bool) (his : ∀ x, is (f x) = is x) : ∀ (l : List Node) (out : List Int) (i : Nat), fleet_where_g1 is (l.map f) out i = fleet_where_g1 is l out i
 | [], _, _ => rfl
 | x :: r, out, i => by rw [List.map_cons, fleet_where_g1, fleet_where_g1, his, where_map is his r, where_map is his r]
theorem of_map (hf : SameN f) {l : List Node} (h : fleet_Check l = 0) (h' : fleet_Check (l.map f) = 0) (job st : Int) : fleet_Of (l.map f) job st = fleet_Of l job st := by
 unfold fleet_Of fleet_where
 rw [h, h']
 show fleet_where_k1 _ = fleet_where_k1 _
 rw [where_map _ (fun x => by rw [hf.state, hf.job])]
theorem held_map (hf : SameN f) {l : List Node} (h : fleet_Check l = 0) (h' : fleet_Check (l.map f) = 0) (job : Int) : alloc_Held (l.map f) job = alloc_Held l job := by
 unfold alloc_Held
 rw [of_map hf h h']
theorem swhere_map (is : Int -> Node -> Bool) (his : ∀ n x, is n (f x) = is n x) : ∀ (l : List Node) (out : List Int) (i : Nat), state_where_g1 is (l.map f) out i = state_where_g1 is l out i
 | [], _, _ => rfl
 | x :: r, out, i => by rw [List.map_cons, state_where_g1, state_where_g1, his, swhere_map is his r, swhere_map is his r]
theorem quiet_map (hf : SameN f) (l : List Node) : ∀ (r : List Int) (i : Nat), alloc_Quiet_g1 (l.map f) r i = alloc_Quiet_g1 l r i
 | [], _ => rfl
 | x :: r, i => by
  have e : ((decide (x < ((l.map f).length : Int))) && (((l.map f).getD (Int.toNat x) Node.zero).want == 0)) = ((decide (x < (l.length : Int))) && ((l.getD (Int.toNat x) Node.zero).want == 0)) := by
   rw [List.length_map]
   congr 1
   cases h : l[Int.toNat x]? with
   | none => simp [List.getD, h]
   | some y => simp [List.getD, h, hf.want]
  rw [alloc_Quiet_g1, alloc_Quiet_g1, e, quiet_map hf l r]
variable {s t : State}
theorem resize_map (hf : SameN f) (hg : SameJ g) (hn : t.nodes = s.nodes.map f) (h : fleet_Check s.nodes = 0) (h' : fleet_Check t.nodes = 0) (r : Resize) (j : Job) : state_resize t r (g j) = state_resize s r j := by
 rw [hn] at h'
 have k : ∀ c, state_resize_k1 t r (g j) c = state_resize_k1 s r j c := by
  intro c
  unfold state_resize_k1 state_where alloc_Quiet
  rw [hn, swhere_map _ (fun n x => by rw [hf.job, hf.want]), h, h', quiet_map hf, of_map hf h h', hg.nodes, hg.shape]
 unfold state_resize
 rw [k, k, hg.shape]
theorem nodes_map (hf : SameN f) (hg : SameJ g) (hnj : t.nextJob = s.nextJob) (c : List (Int × Job)) (all : List (Int × Resize)) : ∀ (l : List Node) (i : Nat), state_nodes_g1 t (mapV g c) all (l.map f) i = state_nodes_g1 s c all l i
 | [], _ => rfl
 | x :: r, i => by
  have e1 : (getM x.job (mapV g c)).isSome = (getM x.job c).isSome := by rw [getM_map]; cases getM x.job c <;> rfl
  have e2 : ((getM x.job (mapV g c)).getD Job.zero).nodes = ((getM x.job c).getD Job.zero).nodes := by
   rw [getM_map]
   cases getM x.job c with
   | none => rfl
   | some y => exact hg.nodes y
  rw [List.map_cons, state_nodes_g1, state_nodes_g1, hf.state, hf.job, hf.want, e1, e2, hnj, nodes_map hf hg hnj c all r]
theorem run_map (hg : SameJ g) : ∀ (l : List Job) (i : Nat) (c : List (Int × Job)), state_Check_g3 (l.map g) i (mapV g c) = mapV g (state_Check_g3 l i c)
 | [], _, _ => rfl
 | x :: r, i, c => by
  rw [List.map_cons, state_Check_g3, state_Check_g3, hg.state, hg.id, setM_map, run_map hg r, run_map hg r]
  cases (x.state == 2) <;> rfl
theorem last_map (hg : SameJ g) : ∀ (l : List Job) (d : Int) (i : Nat), state_Check_g1 (l.map g) d i = state_Check_g1 l d i
 | [], _, _ => rfl
 | x :: r, d, i => by rw [List.map_cons, state_Check_g1, state_Check_g1, hg.id, last_map hg r]
theorem next_le {n a b : Int} (h : b <= a) (hn : state_next n a = true) : state_next n b = true := by
 unfold state_next at *
 simp only [Bool.and_eq_true, decide_eq_true_eq] at *
 omega
theorem keep_go (hf : SameN f) (hg : SameJ g) (hn : t.nodes = s.nodes.map f) (hr : t.resizes = s.resizes) (hnj : t.nextJob = s.nextJob) (hnb : t.nextBook = s.nextBook)
  (h : fleet_Check s.nodes = 0) (h' : fleet_Check t.nodes = 0) (a b b' : Int) (hb : b' <= b) (c : List (Int × Job)) : ∀ (l : List Resize) (i : Nat) (c2 : List (Int × Resize)), state_Check_g4 s a b c l i c2 = 0 -> state_Check_g4 t a b' (mapV g c) l i c2 = 0
 | [], i, c2, h0 => by
  rw [state_Check_g4] at h0 ⊢
  have e1 : state_nodes t (mapV g c) c2 = state_nodes s c c2 := by
   unfold state_nodes
   rw [hn]
   exact nodes_map hf hg hnj c c2 s.nodes 0
  have e2 : (mapV g c).all (fun (en : Int × Job) => (bif ((alloc_Held t.nodes en.1) != en.2.nodes) then false else true)) = c.all (fun (en : Int × Job) => (bif ((alloc_Held s.nodes en.1) != en.2.nodes) then false else true)) := by
   unfold mapV
   rw [List.all_map]
   congr 1
   funext p
   show (bif ((alloc_Held t.nodes p.1) != (g p.2).nodes) then false else true) = _
   rw [hg.nodes, hn, held_map hf h (by rw [← hn]; exact h')]
  rw [hnj, hnb, e1, e2]
  cases h1 : state_next s.nextBook b with
  | false => rw [h1] at h0; simp at h0
  | true =>
   rw [h1] at h0
   rw [next_le hb h1]
   exact h0
 | x :: r, i, c2, h0 => by
  rw [state_Check_g4] at h0 ⊢
  have e1 : (getM x.job (mapV g c)).isSome = (getM x.job c).isSome := by rw [getM_map]; cases getM x.job c <;> rfl
  rw [hr, e1]
  cases hx : getM x.job c with
  | none => rw [hx] at h0; cases h0
  | some j =>
   have e2 : (getM x.job (mapV g c)).getD Job.zero = g j := by rw [getM_map, hx]; rfl
   rw [hx] at h0
   rw [e2, resize_map hf hg hn h h']
   simp only [Option.getD_some] at h0
   cases hc : (((!(some j).isSome) || ((decide ((i : Int) > 0)) && (decide ((s.resizes.getD (Int.toNat (w64 ((i : Int) - 1))) Resize.zero).job >= x.job)))) || (!(state_resize s x j))) with
   | true => rw [hc] at h0; cases h0
   | false =>
    rw [hc] at h0
    exact keep_go hf hg hn hr hnj hnb h h' a b b' hb c r (i + 1) _ h0
theorem keep_check (hf : SameN f) (hg : SameJ g) (hn : t.nodes = s.nodes.map f) (hj : t.jobs = s.jobs.map g) (hr : t.resizes = s.resizes) (hnj : t.nextJob = s.nextJob) (hnb : t.nextBook = s.nextBook)
  (hb : state_Check_g2 t.books 0 0 <= state_Check_g2 s.books 0 0) (hs : fleet_Check s.nodes = 0) (ht : fleet_Check t.nodes = 0) (hp : plan_Check t = 0) (h : state_Check s = 0) : state_Check t = 0 := by
 unfold state_Check at h ⊢
 rw [hp]
 cases hps : (plan_Check s != 0) with
 | true => rw [hps] at h; cases h
 | false =>
  rw [hps] at h
  have h : state_Check_g4 s (state_Check_g1 s.jobs 0 0) (state_Check_g2 s.books 0 0) (state_Check_g3 s.jobs 0 []) s.resizes 0 [] = 0 := h
  have e3 := run_map hg s.jobs 0 []
  show state_Check_g4 t (state_Check_g1 t.jobs 0 0) (state_Check_g2 t.books 0 0) (state_Check_g3 t.jobs 0 []) t.resizes 0 [] = 0
  rw [hj, last_map hg, show state_Check_g3 (s.jobs.map g) 0 [] = mapV g (state_Check_g3 s.jobs 0 []) from e3, hr]
  exact keep_go hf hg hn hr hnj hnb hs ht _ _ _ hb _ _ _ _ h
theorem table_map_go (hg : SameJ g) (L : List Job) (hc : ∀ x, job_Check x = 0 -> job_Check (g x) = 0) : ∀ (r : List Job) (i : Nat), table_Check_g1 L r i = 0 -> table_Check_g1 (L.map g) (r.map g) i = 0
 | [], _, _ => rfl
 | x :: r, i, h => by
  rw [table_Check_g1] at h
  rw [List.map_cons, table_Check_g1]
  have e : ∀ k, ((L.map g).getD k Job.zero).id = (L.getD k Job.zero).id := fun k => by
   cases hk : L[k]? with
   | none => simp [List.getD, hk]
   | some y => simp [List.getD, hk, hg.id]
  rw [e, hg.id]
  cases h1 : (job_Check x != 0) with
  | true => rw [h1] at h; cases h
  | false =>
   rw [h1] at h
   rw [hc x (by simpa using h1)]
   show (bif ((decide ((i : Int) > 0)) && (decide ((L.getD (Int.toNat (w64 ((i : Int) - 1))) Job.zero).id >= x.id))) then (140 : Int) else table_Check_g1 (L.map g) (r.map g) (i + 1)) = 0
   rw [Bool.false_or] at h
   cases h2 : ((decide ((i : Int) > 0)) && (decide ((L.getD (Int.toNat (w64 ((i : Int) - 1))) Job.zero).id >= x.id))) with
   | true => rw [h2] at h; cases h
   | false => rw [h2] at h; exact table_map_go hg L hc r (i + 1) h
theorem table_map (hg : SameJ g) {l : List Job} (hc : ∀ x, job_Check x = 0 -> job_Check (g x) = 0) (h : table_Check l = 0) : table_Check (l.map g) = 0 := by
 unfold table_Check at h ⊢
 rw [List.length_map]
 cases h1 : (decide ((l.length : Int) > 40)) with
 | true => rw [h1] at h; cases h
 | false => rw [h1] at h; exact table_map_go hg l hc l 0 h
end
theorem book_rows (l : List Book) (hn : l.length <= 8) : ∀ (r : List Book) (i : Nat), r = l.drop i -> i + r.length = l.length ->
  (book_Check_g1 l r i = 0 ↔ (∀ x ∈ r, book_fine x = true) ∧ r.Pairwise (fun a b => a.id < b.id) ∧ (∀ y, 0 < i -> l[i - 1]? = some y -> ∀ x ∈ r, y.id < x.id))
 | [], i, _, _ => ⟨fun _ => ⟨fun x hx => (nomatch hx), .nil, fun _ _ _ x hx => (nomatch hx)⟩, fun _ => rfl⟩
 | x :: r, i, hr, hlen => by
  simp only [List.length_cons] at hlen
  have hi : l[i]? = some x := by
   have := congrArg (fun q => q[0]?) hr
   simpa [List.getElem?_drop] using this.symm
  have hr' : r = l.drop (i + 1) := by rw [← List.drop_drop, ← hr]; rfl
  have ih := book_rows l hn r (i + 1) hr' (by omega)
  have tail : (book_Check_g1 l r (i + 1) = 0 ↔ (∀ z ∈ r, book_fine z = true) ∧ r.Pairwise (fun a b => a.id < b.id) ∧ ∀ z ∈ r, x.id < z.id) := by
   rw [ih]
   exact ⟨fun h => ⟨h.1, h.2.1, h.2.2 x (by omega) hi⟩, fun h => ⟨h.1, h.2.1, fun y _ hy => by rw [show i + 1 - 1 = i by omega, hi] at hy; cases hy; exact h.2.2⟩⟩
  rw [book_Check_g1, w6 (n := (i : Int) - 1) (by omega), show Int.toNat ((i : Int) - 1) = i - 1 by omega]
  cases hok : book_fine x with
  | false =>
   refine ⟨fun h => (nomatch h), fun h => ?_⟩
   have := h.1 x (List.mem_cons_self ..)
   rw [hok] at this
   cases this
  | true =>
   have iff1 : ((∀ z ∈ x :: r, book_fine z = true) ∧ (x :: r).Pairwise (fun a b => a.id < b.id) ∧ (∀ y, 0 < i -> l[i - 1]? = some y -> ∀ z ∈ x :: r, y.id < z.id)) ↔ ((∀ y, 0 < i -> l[i - 1]? = some y -> y.id < x.id) ∧ book_Check_g1 l r (i + 1) = 0) := by
    rw [tail]
    constructor
    ·rintro ⟨h1, h2, h3⟩
     exact ⟨fun y h0 hy => h3 y h0 hy x (List.mem_cons_self ..), fun z hz => h1 z (List.mem_cons_of_mem _ hz), (List.pairwise_cons.1 h2).2, (List.pairwise_cons.1 h2).1⟩
    ·rintro ⟨h0, h1, h2, h3⟩
     refine ⟨fun z hz => ?_, List.pairwise_cons.2 ⟨h3, h2⟩, fun y hy0 hy z hz => ?_⟩
     ·rcases List.mem_cons.1 hz with rfl | hz
      ·exact hok
      ·exact h1 z hz
     ·have := h0 y hy0 hy
      rcases List.mem_cons.1 hz with rfl | hz
      ·exact this
      ·exact Int.lt_trans this (h3 z hz)
   rw [iff1]
   rcases Nat.eq_zero_or_pos i with h0 | h0
   ·subst h0
    exact ⟨fun h => ⟨fun y hy => absurd hy (by omega), h⟩, fun h => h.2⟩
   ·obtain ⟨y, hy⟩ : ∃ y, l[i - 1]? = some y := ⟨_, List.getElem?_eq_getElem (by omega)⟩
    have hg : l.getD (i - 1) Book.zero = y := by simp [List.getD, hy]
    rw [hg, decide_eq_true (show (i : Int) > 0 by omega)]
    cases ha : decide (y.id >= x.id) with
    | true =>
     have := of_decide_eq_true ha
     exact ⟨fun h => (nomatch h), fun h => absurd (h.1 y h0 hy) (by omega)⟩
    | false =>
     have := of_decide_eq_false ha
     exact ⟨fun h => ⟨fun z _ hz => by rw [hy] at hz; cases hz; omega, h⟩, fun h => h.2⟩
theorem book_iff (l : List Book) : book_Check l = 0 ↔ l.length <= 8 ∧ (∀ x ∈ l, book_fine x = true) ∧ l.Pairwise (fun a b => a.id < b.id) := by
 unfold book_Check
 cases h : decide ((l.length : Int) > 8) with
 | true =>
  have h' := of_decide_eq_true h
  exact ⟨fun q => (nomatch q), fun q => absurd q.1 (by omega)⟩
 | false =>
  have h' := of_decide_eq_false h
  have a := book_rows l (by omega) l 0 rfl (by omega)
  show book_Check_g1 l l 0 = 0 ↔ _
  rw [a]
  exact ⟨fun q => ⟨by omega, q.1, q.2.1⟩, fun q => ⟨q.2.1, q.2.2, fun y hy => absurd hy (by omega)⟩⟩
theorem book_filter {l : List Book} (p : Book -> Bool) (h : book_Check l = 0) : book_Check (l.filter p) = 0 := by
 obtain ⟨h1, h2, h3⟩ := (book_iff l).1 h
 exact (book_iff _).2 ⟨Nat.le_trans (List.length_filter_le _ _) h1, fun x hx => h2 x (List.mem_filter.1 hx).1, h3.filter _⟩
theorem last_ge : ∀ (l : List Book) (d : Int) (i : Nat), l.Pairwise (fun a b => a.id < b.id) -> (∀ x ∈ l, d <= x.id) -> d <= state_Check_g2 l d i ∧ ∀ x ∈ l, x.id <= state_Check_g2 l d i
 | [], d, _, _, _ => ⟨Int.le_refl _, fun x hx => (nomatch hx)⟩
 | x :: r, d, i, hp, hd => by
  obtain ⟨p1, p2⟩ := List.pairwise_cons.1 hp
  obtain ⟨a, b⟩ := last_ge r x.id (i + 1) p2 fun y hy => Int.le_of_lt (p1 y hy)
  have hx := hd x (List.mem_cons_self ..)
  rw [state_Check_g2]
  refine ⟨Int.le_trans hx a, fun y hy => ?_⟩
  rcases List.mem_cons.1 hy with rfl | hy
  ·exact a
  ·exact b y hy
theorem last_in : ∀ (l : List Book) (d : Int) (i : Nat), state_Check_g2 l d i = d ∨ ∃ x ∈ l, state_Check_g2 l d i = x.id
 | [], _, _ => .inl rfl
 | x :: r, d, i => by
  rw [state_Check_g2]
  rcases last_in r x.id (i + 1) with h | ⟨y, hy, h⟩
  ·exact .inr ⟨x, List.mem_cons_self .., h⟩
  ·exact .inr ⟨y, List.mem_cons_of_mem _ hy, h⟩
theorem last_filter {l : List Book} (p : Book -> Bool) (h : book_Check l = 0) : state_Check_g2 (l.filter p) 0 0 <= state_Check_g2 l 0 0 := by
 obtain ⟨_, h2, h3⟩ := (book_iff l).1 h
 have hpos : ∀ x ∈ l, 0 <= x.id := fun x hx => by
  have := h2 x hx
  unfold book_fine at this
  simp only [Bool.and_eq_true, decide_eq_true_eq] at this
  omega
 obtain ⟨a, b⟩ := last_ge l 0 0 h3 hpos
 rcases last_in (l.filter p) 0 0 with e | ⟨x, hx, e⟩
 ·rw [e]; exact a
 ·rw [e]; exact b x (List.mem_filter.1 hx).1
theorem plan_iff (s : State) : plan_Check s = 0 ↔ (0 <= s.now ∧ s.now <= 1000000) ∧ fleet_Check s.nodes = 0 ∧ table_Check s.jobs = 0 ∧ book_Check s.books = 0 ∧ ledger_Check s.ledger = 0 := by
 have e : ∀ x : Int, x = 0 ↔ (x != 0) = false := fun x => by simp
 have key : ∀ (p q : Bool) (a b c d : Int), ((bif (((bif (((((p) || (q)) || (a != 0)) || (b != 0)) || (c != 0)) then (141 : Int) else 0) != 0) || (d != 0)) then (141 : Int) else 0) = 0) ↔ (p = false ∧ q = false) ∧ a = 0 ∧ b = 0 ∧ c = 0 ∧ d = 0 := by
  intro p q a b c d
  rw [e a, e b, e c, e d]
  generalize (a != 0) = a'; generalize (b != 0) = b'; generalize (c != 0) = c'; generalize (d != 0) = d'
  revert p q a' b' c' d'
  decide
 unfold plan_Check room_Check
 rw [key]
 simp only [decide_eq_false_iff_not]
 exact ⟨fun h => ⟨by omega, h.2⟩, fun h => ⟨by omega, h.2⟩⟩
end Go.Proofs.YtigcpfbpmnppcaaGreatDoor
namespace Go.Proofs.YtigcpfbpmnppcaaGreatDoor
set_option linter.unusedSimpArgs false
set_option linter.unusedVariables false
open Go.Fw
theorem charge_ok {d : List Usage} {user account : ByteArray} {n : Int} (h0 : ledger_Check d = 0) (hc : ((ledger_Charge d user account n).2 == 0) = true) :
  ledger_name user = true ∧ ledger_name account = true ∧ 0 <= n ∧ ledger_Charge d user account n = chargeL d user account n := by
 have key : (((!(ledger_name user)) || (!(ledger_name account))) || (decide (n < 0))) = false := by
  cases hq : (((!(ledger_name user)) || (!(ledger_name account))) || (decide (n < 0))) with
  | false => rfl
  | true =>
   unfold ledger_Charge at hc
   rw [h0, hq] at hc
   cases hc
 simp only [Bool.or_eq_false_iff, Bool.not_eq_false', decide_eq_false_iff_not] at key
 exact ⟨key.1.1, key.1.2, by omega, charge_val h0 key.1.1 key.1.2 (by omega)⟩
theorem getD_mem {α : Type} (d : α) {l : List α} {k : Nat} (h : k < l.length) : l.getD k d ∈ l := by
 rw [List.getD_eq_getElem?_getD, List.getElem?_eq_getElem h]
 exact List.getElem_mem h
theorem ok_parts {x : Usage} (h : okU x = true) : ledger_name x.user = true ∧ ledger_name x.account = true ∧ (0 <= x.used ∧ x.used <= 1000000000000) ∧ 0 <= x.share ∧ x.share <= x.used := by
 unfold okU at h
 simp only [Bool.not_eq_true', Bool.or_eq_false_iff, Bool.not_eq_false', bne_eq_false_iff_eq, decide_eq_false_iff_not] at h
 have hu : x.used = ref01_Usage x.used := h.1.1.2
 have := use_in x.used
 exact ⟨h.1.1.1.1, h.1.1.1.2, by omega, by omega, by omega⟩
theorem ok_whole {x : Usage} (h1 : ledger_name x.user = true) (h2 : ledger_name x.account = true) (h3 : 0 <= x.used ∧ x.used <= 1000000000000) (h4 : 0 <= x.share) (h5 : x.share <= x.used) : okU x = true := by
 unfold okU
 have e : (x.used != (sat_Usage x.used)) = false := by
  rw [bne_eq_false_iff_eq]
  exact (use_id h3).symm
 rw [h1, h2, e, decide_eq_false (by omega), decide_eq_false (by omega)]
 rfl
theorem okU_charged {u a : ByteArray} {p q n : Int} (h1 : ledger_name u = true) (h2 : ledger_name a = true) (hp : 0 <= p ∧ p <= 1000000000000) (hq : 0 <= q ∧ q <= p) : okU ⟨u, a, sat_Plus [p, n], sat_Plus [q, n]⟩ = true := by
 have hn := use_in n
 have e1 := plus_sat p n
 have e2 := plus_sat q n
 rw [use_id hp] at e1
 rw [use_id (n := q) (by omega)] at e2
 refine ok_whole h1 h2 ?_ ?_ ?_
 ·show 0 <= sat_Plus [p, n] ∧ sat_Plus [p, n] <= 1000000000000
  omega
 ·show 0 <= sat_Plus [q, n]
  omega
 ·show sat_Plus [q, n] <= sat_Plus [p, n]
  omega
theorem ahead_keys {a a' b b' : Usage} (h1 : a.user = a'.user) (h2 : a.account = a'.account) (h3 : b.user = b'.user) (h4 : b.account = b'.account) : ref17_ahead a b = ref17_ahead a' b' := by
 unfold ref17_ahead
 rw [h1, h2, h3, h4]
theorem split_at (l : List Usage) (p : Nat) (h : p < l.length) : l = l.take p ++ l.getD p Usage.zero :: l.drop (p + 1) := by
 have : l.drop p = l.getD p Usage.zero :: l.drop (p + 1) := by
  rw [List.drop_eq_getElem_cons h]
  simp [List.getD, h]
 rw [← this, List.take_append_drop]
theorem pair_keys {p q : List Usage} {x y : Usage} (hu : x.user = y.user) (ha : x.account = y.account) (h : (p ++ x :: q).Pairwise aheadP) : (p ++ y :: q).Pairwise aheadP := by
 rw [List.pairwise_append, List.pairwise_cons] at h ⊢
 obtain ⟨h1, ⟨h2, h3⟩, h4⟩ := h
 refine ⟨h1, ⟨fun z hz => ?_, h3⟩, fun z hz w hw => ?_⟩
 ·have := h2 z hz
  unfold aheadP at this ⊢
  rw [← ahead_keys hu ha rfl rfl]
  exact this
 ·rcases List.mem_cons.1 hw with rfl | hw
  ·have := h4 z hz x (List.mem_cons_self ..)
   unfold aheadP at this ⊢
   rw [← ahead_keys rfl rfl hu ha]
   exact this
  ·exact h4 z hz w (List.mem_cons_of_mem _ hw)
theorem pair_put {l : List Usage} {t : Usage} (h : l.Pairwise aheadP) (hne : placeU l t < l.length -> ¬ ((l.getD (placeU l t) Usage.zero).user = t.user ∧ (l.getD (placeU l t) Usage.zero).account = t.account)) : (l.take (placeU l t) ++ t :: l.drop (placeU l t)).Pairwise aheadP := by
 have hm := place_mono t l h
 generalize placeU l t = p at *
 have hlt : ∀ z ∈ l.take p, aheadP z t := fun z hz => by
  obtain ⟨k, hk, rfl⟩ := List.getElem_of_mem hz
  have hk' : k < p ∧ k < l.length := by simp at hk; omega
  have := hm k l[k] (List.getElem?_eq_getElem hk'.2)
  rw [decide_eq_true hk'.1] at this
  rw [List.getElem_take]
  exact this
 have hgt : ∀ w ∈ l.drop p, aheadP t w := fun w hw => by
  obtain ⟨k, hk, rfl⟩ := List.getElem_of_mem hw
  have hk' : p + k < l.length := by simp at hk; omega
  have hp : p < l.length := by omega
  have first : aheadP t (l.getD p Usage.zero) := by
   have hx := hm p _ (getD_some Usage.zero hp)
   rw [decide_eq_false (Nat.lt_irrefl p)] at hx
   unfold aheadP
   cases ha : ref17_ahead t (l.getD p Usage.zero) with
   | true => rfl
   | false => exact absurd (ahead_tri hx ha) (hne hp)
  rw [List.getElem_drop]
  rcases Nat.eq_zero_or_pos k with h0 | h0
  ·subst h0
   have e : l[p + 0] = l.getD p Usage.zero := by simp [List.getD, hp]
   rw [e]
   exact first
  ·have hs := List.pairwise_iff_getElem.1 h p (p + k) hp hk' (by omega)
   have e : l[p] = l.getD p Usage.zero := by simp [List.getD, hp]
   rw [e] at hs
   exact ahead_trans first hs
 have hs := h
 rw [← List.take_append_drop p l, List.pairwise_append] at hs
 rw [List.pairwise_append, List.pairwise_cons]
 refine ⟨hs.1, ⟨hgt, hs.2.1⟩, fun z hz w hw => ?_⟩
 rcases List.mem_cons.1 hw with rfl | hw
 ·exact hlt z hz
 ·exact hs.2.2 z hz w hw
theorem keys_iff (x : Usage) (user account : ByteArray) : ((ByteArray.toList x.user == ByteArray.toList user) && (ByteArray.toList x.account == ByteArray.toList account)) = true ↔ x.user = user ∧ x.account = account := by
 rw [Bool.and_eq_true, bytes_inj, bytes_inj]
theorem chargeL_keeps {d : List Usage} {user account : ByteArray} {n : Int} (h0 : ledger_Check d = 0) (hu : ledger_name user = true) (ha : ledger_name account = true) (hc : (chargeL d user account n).2 = 0) : ledger_Check (chargeL d user account n).1 = 0 := by
 obtain ⟨h1, h2, h3⟩ := (ledger_iff d).1.1 h0
 refine (ledger_iff _).1.2 ?_
 have hpl := place_le d ⟨user, account, 0, 0⟩
 have hput := pair_put (t := ⟨user, account, 0, 0⟩) h3
 unfold chargeL at hc ⊢
 simp only at hc ⊢
 generalize placeU d ⟨user, account, 0, 0⟩ = p at *
 cases hf : ((decide (p < d.length)) && ((ByteArray.toList (d.getD p Usage.zero).user == ByteArray.toList user) && (ByteArray.toList (d.getD p Usage.zero).account == ByteArray.toList account))) with
 | true =>
  rw [Bool.and_eq_true] at hf
  have hp := of_decide_eq_true hf.1
  have hs := split_at d p hp
  have hx : okU (d.getD p Usage.zero) = true := h2 _ (getD_mem Usage.zero hp)
  obtain ⟨q1, q2, q3, q4, q5⟩ := ok_parts hx
  simp only [cond_true]
  refine ⟨by simp; omega, fun y hy => ?_, pair_keys (x := d.getD p Usage.zero) rfl rfl (by rw [← hs]; exact h3)⟩
  rcases List.mem_append.1 hy with hy | hy
  ·exact h2 y (List.mem_of_mem_take hy)
  ·rcases List.mem_cons.1 hy with rfl | hy
   ·exact okU_charged q1 q2 q3 ⟨q4, q5⟩
   ·exact h2 y (List.mem_of_mem_drop hy)
 | false =>
  rw [hf] at hc
  cases hb : ((d.length : Int) == 200) with
  | true => rw [hb] at hc; cases hc
  | false =>
   have hb' : ¬ (d.length : Int) = 200 := by simpa using hb
   simp only [cond_false]
   refine ⟨by simp; omega, fun y hy => ?_, pair_keys (x := ⟨user, account, 0, 0⟩) rfl rfl (hput fun hp => ?_)⟩
   ·rcases List.mem_append.1 hy with hy | hy
    ·exact h2 y (List.mem_of_mem_take hy)
    ·rcases List.mem_cons.1 hy with rfl | hy
     ·exact okU_charged hu ha (by omega) (by omega)
     ·exact h2 y (List.mem_of_mem_drop hy)
   ·rw [decide_eq_true hp, Bool.true_and] at hf
    intro hk
    rw [(keys_iff _ _ _).2 hk] at hf
    cases hf
theorem chgL_keeps {d : List Usage} (x : Job) (h : ledger_Check d = 0) : ledger_Check (chgL d x) = 0 := by
 unfold chgL
 cases x.state != 2 with
 | true => exact h
 | false =>
  cases hl : ((ledger_Charge d x.user x.account (nodeset_Count x.nodes)).2 == 0) with
  | true =>
   obtain ⟨q1, q2, _, q4⟩ := charge_ok h hl
   rw [q4] at hl
   simp only [cond_false, cond_true]
   rw [q4]
   exact chargeL_keeps h q1 q2 (by simpa using hl)
  | false => exact h
theorem fold_keeps : ∀ (r : List Job) (d : List Usage), ledger_Check d = 0 -> ledger_Check (r.foldl chgL d) = 0
 | [], _, h => h
 | x :: r, d, h => fold_keeps r (chgL d x) (chgL_keeps x h)
theorem decay_keeps {d : List Usage} (h : ledger_Check d = 0) : ledger_Check (ledger_Decay d) = 0 := by
 rw [decay_val h]
 obtain ⟨h1, h2, h3⟩ := (ledger_iff d).1.1 h
 refine (ledger_iff _).1.2 ⟨by rw [List.length_map]; exact h1, fun y hy => ?_, ?_⟩
 ·obtain ⟨z, hz, rfl⟩ := List.mem_map.1 hy
  obtain ⟨q1, q2, q3, q4, q5⟩ := ok_parts (h2 z hz)
  have := half_le (n := z.share) (by omega)
  exact ok_whole q1 q2 q3 this.1 (by show sat_Half z.share <= z.used; omega)
 ·rw [List.pairwise_map]
  exact h3
theorem used_check {x : Job} {u : Int} (h : job_Check x = 0) (hu : 0 <= u ∧ u <= 1000000000000) : job_Check { x with used := u } = 0 := by
 unfold job_Check at h ⊢
 have e : (({ x with used := u } : Job).used != (sat_Usage ({ x with used := u } : Job).used)) = false := by
  rw [bne_eq_false_iff_eq]
  exact (use_id hu).symm
 rw [e]
 cases hq : (x.used != (sat_Usage x.used)) with
 | true => rw [hq] at h; simp at h
 | false => rw [hq] at h; exact h
def gJ (x : Job) : Job := { x with used := bif x.state != 2 then x.used else sat_Plus [x.used, nodeset_Count x.nodes] }
theorem gJ_same : SameJ gJ := ⟨fun _ => rfl, fun _ => rfl, fun _ => rfl, fun _ => rfl⟩
theorem chgJ_gJ {x : Job} (h : job_Check x = 0) : chgJ x = gJ x := by
 unfold chgJ gJ
 cases hs : x.state != 2 with
 | true => cases x; rfl
 | false => simp only [cond_false]; rw [jcharge_ok h (by simpa using hs)]
theorem used_in {x : Job} (h : job_Check x = 0) : 0 <= x.used ∧ x.used <= 1000000000000 := by
 unfold job_Check at h
 cases hq : (x.used != (sat_Usage x.used)) with
 | true => rw [hq] at h; simp at h
 | false =>
  have e : x.used = sat_Usage x.used := by simpa using hq
  rw [e]
  exact use_in _
theorem plus_in (a n : Int) : 0 <= sat_Plus [a, n] ∧ sat_Plus [a, n] <= 1000000000000 := by
 have := use_in a
 have := use_in n
 rw [plus_sat]
 omega
theorem gJ_check (x : Job) (h : job_Check x = 0) : job_Check (gJ x) = 0 := by
 refine used_check h ?_
 cases x.state != 2 with
 | true => exact used_in h
 | false => exact plus_in _ _
section
variable {s : State}
theorem ticked_jobs (h0 : state_Check s = 0) : (ticked s).jobs = s.jobs.map gJ := by
 obtain ⟨hp, _⟩ := check_parts h0
 obtain ⟨_, hjc, _⟩ := table_parts (plan_Check_parts hp).2
 exact List.map_congr_left fun x hx => chgJ_gJ (hjc x hx)
theorem clock_keeps (h0 : state_Check s = 0) (ht : (s.now == 1000000) = false) : state_Check (ticked s) = 0 := by
 obtain ⟨hp, _⟩ := check_parts h0
 obtain ⟨p1, p2, p3, p4, p5⟩ := (plan_iff s).1 hp
 have hb := (book_iff s.books).1 p4
 have hbk : (ticked s).books = s.books.filter (keepB (s.now + 1)) := past_val _ (by omega) p4
 have hnow : ¬ s.now = 1000000 := by simpa using ht
 have hl := fold_keeps s.jobs s.ledger p5
 have hpt : plan_Check (ticked s) = 0 := (plan_iff _).2 ⟨by show 0 <= s.now + 1 ∧ s.now + 1 <= 1000000; omega, p2, by rw [ticked_jobs h0]; exact table_map gJ_same gJ_check p3, by rw [hbk]; exact book_filter _ p4, by
  show ledger_Check (bif ((Int.tmod (s.now + 1) 50) == 0) then ledger_Decay (s.jobs.foldl chgL s.ledger) else s.jobs.foldl chgL s.ledger) = 0
  cases ((Int.tmod (s.now + 1) 50) == 0) with
  | true => exact decay_keeps hl
  | false => exact hl⟩
 exact keep_check (f := id) (g := gJ) ⟨fun _ => rfl, fun _ => rfl, fun _ => rfl⟩ gJ_same (by rw [List.map_id]; rfl) (ticked_jobs h0) rfl rfl rfl (by rw [hbk]; exact last_filter _ p4) p2 p2 hpt h0
end
end Go.Proofs.YtigcpfbpmnppcaaGreatDoor
namespace Go.Proofs.YtigcpfbpmnppcaaGreatDoor
set_option linter.unusedSimpArgs false
set_option linter.unusedVariables false
open Go.Fw
def sumU : List Usage -> Int
 | [] => 0
 | x :: r => x.used + sumU r
theorem sumU_append : ∀ p q : List Usage, sumU (p ++ q) = sumU p + sumU q
 | [], q => by simp [sumU]
 | x :: p, q => by rw [List.cons_append, sumU, sumU, sumU_append p q, Int.add_assoc]
theorem sumU_nonneg : ∀ l : List Usage, (∀ x ∈ l, 0 <= x.used) -> 0 <= sumU l
 | [], _ => Int.le_refl _
 | x :: r, h => by
  have := sumU_nonneg r fun y hy => h y (List.mem_cons_of_mem _ hy)
  have := h x (List.mem_cons_self ..)
  rw [sumU]
  omega
theorem total_go : ∀ (l : List Usage) (n : Int) (i : Nat), (∀ x ∈ l, 0 <= x.used ∧ x.used <= 1000000000000) -> 0 <= n -> n <= 1000000000000 -> ledger_together_g1 (fun (y : Usage) => y.used) l n i = min (n + sumU l) 1000000000000
 | [], n, i, _, h0, h1 => by rw [ledger_together_g1, sumU]; omega
 | x :: r, n, i, h, h0, h1 => by
  have hr : ∀ y ∈ r, 0 <= y.used ∧ y.used <= 1000000000000 := fun y hy => h y (List.mem_cons_of_mem _ hy)
  have hx := h x (List.mem_cons_self ..)
  have hs := sumU_nonneg r fun y hy => (hr y hy).1
  have e := plus_sat n x.used
  rw [use_id ⟨h0, h1⟩, use_id hx] at e
  rw [ledger_together_g1, sumU]
  show ledger_together_g1 (fun (y : Usage) => y.used) r (sat_Plus [n, x.used]) (i + 1) = _
  rw [total_go r _ _ hr (by omega) (by omega), e]
  omega
theorem total_val {d : List Usage} (h : ledger_Check d = 0) : ledger_Total d = min (sumU d) 1000000000000 := by
 obtain ⟨_, h2, _⟩ := (ledger_iff d).1.1 h
 unfold ledger_Total ledger_together
 rw [h]
 show ledger_together_g1 _ d 0 0 = _
 rw [total_go d 0 0 (fun x hx => (ok_parts (h2 x hx)).2.2.1) (Int.le_refl _) (by omega), Int.zero_add]
def HasE (d : List Usage) (user account : ByteArray) : Prop := ∃ x ∈ d, x.user = user ∧ x.account = account
theorem has_go (user account : ByteArray) : ∀ (l : List Usage) (i : Nat), law27_has_g1 user account l i = true -> HasE l user account
 | [], _, h => (nomatch h)
 | x :: r, i, h => by
  rw [law27_has_g1] at h
  cases hk : ((ByteArray.toList x.user == ByteArray.toList user) && (ByteArray.toList x.account == ByteArray.toList account)) with
  | true => exact ⟨x, List.mem_cons_self .., (keys_iff _ _ _).1 hk⟩
  | false =>
   rw [hk] at h
   obtain ⟨y, hy, e⟩ := has_go user account r (i + 1) h
   exact ⟨y, List.mem_cons_of_mem _ hy, e⟩
theorem place_has {d : List Usage} {user account : ByteArray} (h : ledger_Check d = 0) (he : HasE d user account) :
  placeU d ⟨user, account, 0, 0⟩ < d.length ∧ (d.getD (placeU d ⟨user, account, 0, 0⟩) Usage.zero).user = user ∧ (d.getD (placeU d ⟨user, account, 0, 0⟩) Usage.zero).account = account := by
 obtain ⟨_, _, h3⟩ := (ledger_iff d).1.1 h
 have hm := place_mono ⟨user, account, 0, 0⟩ d h3
 obtain ⟨x, hx, hu, ha⟩ := he
 obtain ⟨k, hk, rfl⟩ := List.getElem_of_mem hx
 have h1 := hm k _ (List.getElem?_eq_getElem hk)
 have h2 : ref17_ahead d[k] ⟨user, account, 0, 0⟩ = false := by
  rw [ahead_keys (b' := d[k]) rfl rfl hu.symm ha.symm]
  exact ahead_irr _
 rw [h2] at h1
 have h1' := of_decide_eq_false h1.symm
 generalize placeU d ⟨user, account, 0, 0⟩ = p at *
 rcases Nat.eq_or_lt_of_le (show p <= k by omega) with e | e
 ·subst e
  have e : d.getD p Usage.zero = d[p] := by simp [List.getD, hk]
  rw [e]
  exact ⟨hk, hu, ha⟩
 ·exfalso
  have hp : p < d.length := by omega
  have q1 := hm p _ (List.getElem?_eq_getElem hp)
  rw [decide_eq_false (Nat.lt_irrefl p)] at q1
  have q2 := List.pairwise_iff_getElem.1 h3 p k hp hk e
  have q3 : ref17_ahead d[p] ⟨user, account, 0, 0⟩ = true := by
   rw [ahead_keys (a' := d[p]) (b' := d[k]) rfl rfl hu.symm ha.symm]
   exact q2
  rw [q3] at q1
  cases q1
theorem charge_total {d : List Usage} {user account : ByteArray} {n : Int} (h : ledger_Check d = 0) (he : HasE d user account) (hn : 0 <= n ∧ n <= 1000000000000) :
  (ledger_Charge d user account n).2 = 0 ∧ ledger_Check (ledger_Charge d user account n).1 = 0 ∧ ledger_Total (ledger_Charge d user account n).1 = min (ledger_Total d + n) 1000000000000 ∧ ∀ u a, HasE d u a -> HasE (ledger_Charge d user account n).1 u a := by
 obtain ⟨h1, h2, h3⟩ := (ledger_iff d).1.1 h
 obtain ⟨hp, hu, ha⟩ := place_has h he
 have hs := split_at d _ hp
 have hx : okU (d.getD (placeU d ⟨user, account, 0, 0⟩) Usage.zero) = true := h2 _ (getD_mem Usage.zero hp)
 obtain ⟨q1, q2, q3, q4, q5⟩ := ok_parts hx
 rw [hu] at q1
 rw [ha] at q2
 have hv := charge_val h q1 q2 hn.1
 have hk := chargeL_keeps (n := n) h q1 q2
 rw [hv]
 unfold chargeL at hk ⊢
 simp only at hk ⊢
 generalize placeU d ⟨user, account, 0, 0⟩ = p at *
 have hf : ((decide (p < d.length)) && ((ByteArray.toList (d.getD p Usage.zero).user == ByteArray.toList user) && (ByteArray.toList (d.getD p Usage.zero).account == ByteArray.toList account))) = true := by
  rw [decide_eq_true hp, (keys_iff _ _ _).2 ⟨hu, ha⟩]
  rfl
 rw [hf] at hk ⊢
 simp only [cond_true] at hk ⊢
 have hc := hk trivial
 refine ⟨trivial, hc, ?_, ?_⟩
 ·rw [total_val hc, total_val h]
  have e : sumU d = sumU (d.take p) + ((d.getD p Usage.zero).used + sumU (d.drop (p + 1))) := by
   conv => lhs; rw [hs]
   rw [sumU_append, sumU]
  have n1 := sumU_nonneg (d.take p) fun x hx => (ok_parts (h2 x (List.mem_of_mem_take hx))).2.2.1.1
  have n2 := sumU_nonneg (d.drop (p + 1)) fun x hx => (ok_parts (h2 x (List.mem_of_mem_drop hx))).2.2.1.1
  have e2 := plus_sat (d.getD p Usage.zero).used n
  rw [use_id q3, use_id hn] at e2
  rw [sumU_append, sumU, e]
  show min (sumU (d.take p) + (sat_Plus [(d.getD p Usage.zero).used, n] + sumU (d.drop (p + 1)))) 1000000000000 = _
  rw [e2]
  omega
 ·rintro u a ⟨x, hx, e1, e2⟩
  rw [hs] at hx
  rcases List.mem_append.1 hx with hx | hx
  ·exact ⟨x, List.mem_append_left _ hx, e1, e2⟩
  ·rcases List.mem_cons.1 hx with rfl | hx
   ·exact ⟨_, List.mem_append_right _ (List.mem_cons_self ..), e1, e2⟩
   ·exact ⟨x, List.mem_append_right _ (List.mem_cons_of_mem _ hx), e1, e2⟩
theorem popN_le : ∀ k n : Nat, popN k n <= k
 | 0, _ => by simp [popN]
 | k + 1, n => by
  have := popN_le k (n / 2)
  rw [popN]
  omega
def heldN : List Job -> Int
 | [] => 0
 | x :: r => (bif x.state == 2 then nodeset_Count x.nodes else 0) + heldN r
theorem count_in {x : Int} (h : 0 <= nodeset_Count x ∧ nodeset_Count x <= 64) : 0 <= nodeset_Count x ∧ nodeset_Count x <= 1000000000000 := by omega
theorem held_in : ∀ (r : List Job), (∀ x ∈ r, 0 <= nodeset_Count x.nodes ∧ nodeset_Count x.nodes <= 64) -> 0 <= heldN r ∧ heldN r <= 64 * (r.length : Int)
 | [], _ => by simp [heldN]
 | x :: r, h => by
  have ih := held_in r fun y hy => h y (List.mem_cons_of_mem _ hy)
  have hx := h x (List.mem_cons_self ..)
  rw [heldN, List.length_cons]
  cases (x.state == 2) with
  | true => simp only [cond_true]; omega
  | false => simp only [cond_false]; omega
theorem fold_total : ∀ (r : List Job) (d : List Usage), ledger_Check d = 0 -> (∀ x ∈ r, 0 <= nodeset_Count x.nodes ∧ nodeset_Count x.nodes <= 64) -> (∀ x ∈ r, x.state = 2 -> HasE d x.user x.account) -> ledger_Total (r.foldl chgL d) = min (ledger_Total d + heldN r) 1000000000000
 | [], d, h, _, _ => by
  have e := total_val h
  rw [List.foldl_nil, heldN]
  omega
 | x :: r, d, h, hn, he => by
  have hr : ∀ y ∈ r, 0 <= nodeset_Count y.nodes ∧ nodeset_Count y.nodes <= 64 := fun y hy => hn y (List.mem_cons_of_mem _ hy)
  have hin := held_in r hr
  rw [List.foldl_cons, heldN]
  cases hs : (x.state == 2) with
  | true =>
   have hs2 : x.state = 2 := by simpa using hs
   have hx := count_in (hn x (List.mem_cons_self ..))
   obtain ⟨c1, c2, c3, c4⟩ := charge_total h (he x (List.mem_cons_self ..) hs2) hx
   have e : chgL d x = (ledger_Charge d x.user x.account (nodeset_Count x.nodes)).1 := by
    unfold chgL
    rw [hs2, c1]
    rfl
   rw [e, fold_total r _ c2 hr (fun y hy hy2 => c4 _ _ (he y (List.mem_cons_of_mem _ hy) hy2)), c3]
   simp only [cond_true]
   omega
  | false =>
   have hs2 : (x.state != 2) = true := by simp at hs ⊢; exact hs
   have e : chgL d x = d := by unfold chgL; rw [hs2]; rfl
   rw [e, fold_total r d h hr fun y hy => he y (List.mem_cons_of_mem _ hy)]
   simp only [cond_false]
   omega
theorem decay_total {d : List Usage} (h : ledger_Check d = 0) : ledger_Total (ledger_Decay d) = ledger_Total d := by
 rw [total_val (decay_keeps h), total_val h, decay_val h]
 have : ∀ l : List Usage, sumU (l.map fun x => { x with share := sat_Half x.share }) = sumU l := by
  intro l
  induction l with
  | nil => rfl
  | cons x r ih => rw [List.map_cons, sumU, sumU, ih]
 rw [this]
section
variable {s : State}
theorem ticked_total (h0 : state_Check s = 0) (hn : ∀ x ∈ s.jobs, 0 <= nodeset_Count x.nodes ∧ nodeset_Count x.nodes <= 64) (he : ∀ x ∈ s.jobs, x.state = 2 -> HasE s.ledger x.user x.account) : ledger_Total (ticked s).ledger = min (ledger_Total s.ledger + heldN s.jobs) 1000000000000 := by
 obtain ⟨hp, _⟩ := check_parts h0
 obtain ⟨_, _, _, _, p5⟩ := (plan_iff s).1 hp
 have e := fold_total s.jobs s.ledger p5 hn he
 have hl := fold_keeps s.jobs s.ledger p5
 show ledger_Total (bif ((Int.tmod (s.now + 1) 50) == 0) then ledger_Decay (s.jobs.foldl chgL s.ledger) else s.jobs.foldl chgL s.ledger) = _
 cases ((Int.tmod (s.now + 1) 50) == 0) with
 | true => simp only [cond_true]; rw [decay_total hl, e]
 | false => exact e
end
end Go.Proofs.YtigcpfbpmnppcaaGreatDoor
namespace Go.Proofs.YtigcpfbpmnppcaaGreatDoor
set_option linter.unusedSimpArgs false
set_option linter.unusedVariables false
open Go.Fw
set_option maxRecDepth 20000
set_option maxHeartbeats 4000000
attribute [local irreducible] ACalls AMoves
attribute [local irreducible] DrawS
def law27_NagClock_g1 (s : State) : List Job -> Int -> Bool -> Nat -> Bool
 | [], held, all_, _ => ((((!all_) || ((ledger_Total ((nag_Clock s).1.ledger)) == (w64 ((ledger_Total s.ledger) + held)))) || ((ledger_Total ((nag_Clock s).1.ledger)) == 1000000000000)) && law27_awake)
 | x_ :: r, held, all_, i => bif (x_.state == 2) then bif (((((decide ((((nag_Clock s).1.jobs).getD i Job.zero).used < x_.used)) || ((((nag_Clock s).1.jobs).getD i Job.zero).state != x_.state)) || ((((nag_Clock s).1.jobs).getD i Job.zero).promise != x_.promise)) || ((((nag_Clock s).1.jobs).getD i Job.zero).nodes != x_.nodes)) || ((((nag_Clock s).1.jobs).getD i Job.zero).limit != x_.limit)) then false else law27_NagClock_g1 s r (w64 (held + (nodeset_Count x_.nodes))) (all_ && (law27_has s.ledger x_.user x_.account)) (i + 1) else bif (((((decide ((((nag_Clock s).1.jobs).getD i Job.zero).used < x_.used)) || ((((nag_Clock s).1.jobs).getD i Job.zero).state != x_.state)) || ((((nag_Clock s).1.jobs).getD i Job.zero).promise != x_.promise)) || ((((nag_Clock s).1.jobs).getD i Job.zero).nodes != x_.nodes)) || ((((nag_Clock s).1.jobs).getD i Job.zero).limit != x_.limit)) then false else law27_NagClock_g1 s r held all_ (i + 1)
def law27_NagClock (s : State) : Bool := bif (!(law20_Few s)) then law27_awake else bif ((nag_Clock s).2 != 0) then (((((nag_Clock s).1.nodes).length : Int) == 0) && law27_awake) else bif (((((((state_Check ((nag_Clock s).1)) != 0) || ((nag_Clock s).1.now != (w64 (s.now + 1)))) || (!(ref12_Same s.nodes ((nag_Clock s).1.nodes)))) || ((((nag_Clock s).1.jobs).length : Int) != (s.jobs.length : Int))) || ((((nag_Clock s).1.resizes).length : Int) != (s.resizes.length : Int))) || (decide ((((nag_Clock s).1.books).length : Int) > (s.books.length : Int)))) then false else law27_NagClock_g1 s s.jobs 0 true 0
theorem law27_NagClock_c (s : State) (hs0 : s.szM) : ∀ objs, AGives Tryz.prog 5 [State.a s] objs (Bo (law27_NagClock s)) := by
 generalize hR : law27_NagClock s = R; refine ga (.cons (State.low _ _) .nil) lx (kj [2000012] 12 [14, 22, 75, 80, 95, 143]) Tryz.func5 ?_; have hk0 := hs0; obtain ⟨z26, z27, z28, z29, z30, z31, z32⟩ := hs0; refine us (law20_Few_c s (by first | (exact law20_Few_sz (by simpa using h2)) | first | (exact clock_sz (law20_Few_sz (by simpa using h2))) | first | (exact (law20_Few_sz (by simpa using h2)).1) | first | (exact (clock_sz (law20_Few_sz (by simpa using h2))).1) | first | (exact (law20_Few_sz (by simpa using h2)).2.2.2.2.2) | first | (exact (clock_sz (law20_Few_sz (by simpa using h2))).2.2.2.2.2) | first | (exact (getD_sz (law20_Few_sz (by simpa using h2)).2.2.1 (Job.szz _)).2.1) | first | (exact (getD_sz (law20_Few_sz (by simpa using h2)).2.2.1 (Job.szz _)).2.2.1) | exact szA) _) ?_; refine ai (fun h1 => ?_) (fun h2 => ?_)
 ·refine us (law27_awake_c _) ?_; obtain rfl := foll hR (ct h1 rfl); exact ret_seen lx sr
 ·refine us (nag_Clock_c s (by first | (exact law20_Few_sz (by simpa using h2)) | first | (exact clock_sz (law20_Few_sz (by simpa using h2))) | first | (exact (law20_Few_sz (by simpa using h2)).1) | first | (exact (clock_sz (law20_Few_sz (by simpa using h2))).1) | first | (exact (law20_Few_sz (by simpa using h2)).2.2.2.2.2) | first | (exact (clock_sz (law20_Few_sz (by simpa using h2))).2.2.2.2.2) | first | (exact (getD_sz (law20_Few_sz (by simpa using h2)).2.2.1 (Job.szz _)).2.1) | first | (exact (getD_sz (law20_Few_sz (by simpa using h2)).2.2.1 (Job.szz _)).2.2.1) | exact szA) _) ?_; refine ai (fun h3 => ?_) (fun h4 => ?_)
  ·(first | apply u3g | apply u4g); exact fun hg => law27_awake_c _; obtain rfl := foll hR (cf h2 (ct h3 rfl)); exact ret_seen lx sr
  ·refine us (state_Check_c ((nag_Clock s).1) (by first | (exact law20_Few_sz (by simpa using h2)) | first | (exact clock_sz (law20_Few_sz (by simpa using h2))) | first | (exact (law20_Few_sz (by simpa using h2)).1) | first | (exact (clock_sz (law20_Few_sz (by simpa using h2))).1) | first | (exact (law20_Few_sz (by simpa using h2)).2.2.2.2.2) | first | (exact (clock_sz (law20_Few_sz (by simpa using h2))).2.2.2.2.2) | first | (exact (getD_sz (law20_Few_sz (by simpa using h2)).2.2.1 (Job.szz _)).2.1) | first | (exact (getD_sz (law20_Few_sz (by simpa using h2)).2.2.1 (Job.szz _)).2.2.1) | exact szA) _) ?_; (first | apply u3g | apply u4g); exact fun hg => ref12_Same_c s.nodes ((nag_Clock s).1.nodes) (by first | (exact law20_Few_sz (by simpa using h2)) | first | (exact clock_sz (law20_Few_sz (by simpa using h2))) | first | (exact (law20_Few_sz (by simpa using h2)).1) | first | (exact (clock_sz (law20_Few_sz (by simpa using h2))).1) | first | (exact (law20_Few_sz (by simpa using h2)).2.2.2.2.2) | first | (exact (clock_sz (law20_Few_sz (by simpa using h2))).2.2.2.2.2) | first | (exact (getD_sz (law20_Few_sz (by simpa using h2)).2.2.1 (Job.szz _)).2.1) | first | (exact (getD_sz (law20_Few_sz (by simpa using h2)).2.2.1 (Job.szz _)).2.2.1) | exact szA) (by first | (exact law20_Few_sz (by simpa using h2)) | first | (exact clock_sz (law20_Few_sz (by simpa using h2))) | first | (exact (law20_Few_sz (by simpa using h2)).1) | first | (exact (clock_sz (law20_Few_sz (by simpa using h2))).1) | first | (exact (law20_Few_sz (by simpa using h2)).2.2.2.2.2) | first | (exact (clock_sz (law20_Few_sz (by simpa using h2))).2.2.2.2.2) | first | (exact (getD_sz (law20_Few_sz (by simpa using h2)).2.2.1 (Job.szz _)).2.1) | first | (exact (getD_sz (law20_Few_sz (by simpa using h2)).2.2.1 (Job.szz _)).2.2.1) | exact szA) _; refine ai (fun h5 => ?_) (fun h6 => ?_)
   ·obtain rfl := foll hR (cf h2 (cf h4 (ct h5 rfl))); exact ret_seen lx sr
   ·refine loop_start3 (fun (held : Int) (all_ : Bool) (i : Nat) => law27_NagClock_g1 s (List.drop i s.jobs) held all_ i = R ∧ i <= s.jobs.length) (fun held all_ i => s.jobs.length - i) (fun held all_ i => [(1, AVal.ptr 0 0 8 0 0), (2, Bo false), (3, AVal.ptr 1 0 8 0 0), (5, I held), (6, Bo all_), (7, I (i : Int))]) (fun held all_ i => [(0, AObj.row 28 8 [[I s.now, nodeL s.nodes, jobL s.jobs, resizeL s.resizes, bookL s.books, usageL s.ledger, I s.nextJob, I s.nextBook]]), (0, AObj.row 28 8 [[I ((nag_Clock s).1.now), nodeL ((nag_Clock s).1.nodes), jobL ((nag_Clock s).1.jobs), resizeL ((nag_Clock s).1.resizes), bookL ((nag_Clock s).1.books), usageL ((nag_Clock s).1.ledger), I ((nag_Clock s).1.nextJob), I ((nag_Clock s).1.nextBook)]])]) 0 true 0 (wk [0, 1] (tO rfl (ts State.lo) (tO rfl (ts State.lo) .nil)) (sv (turn_ptr 0 rfl rfl) (s1 (sv (turn_ptr 1 rfl rfl) (s1 (s1 (s1 .nil))))))) ⟨foll hR (cf h2 (cf h4 (cf h6 rfl))), by exact omA⟩ ?_; clear hR; rintro held all_ i ⟨hR, hj⟩; (try dsimp only at hR hj); refine ai (fun h7 => ?_) (fun h8 => ?_)
    ·have hlt := ltA h7; rw [drop_getD Job.zero hlt] at hR; have hxz : (s.jobs.getD i Job.zero).szM := getD_sz (by first | assumption | grind) (Job.szz _); have hkz := hxz; obtain ⟨z9, z10, z11, z12, z13⟩ : ((s.jobs.getD i Job.zero).name).size <= 9223372036854775807 ∧ ((s.jobs.getD i Job.zero).user).size <= 9223372036854775807 ∧ ((s.jobs.getD i Job.zero).account).size <= 9223372036854775807 ∧ ((((s.jobs.getD i Job.zero).shape).alts).length <= 9223372036854775807) ∧ ((s.jobs.getD i Job.zero).after).length <= 9223372036854775807 := hxz; refine cdraw_two 10 (by kernel_rfl) ?_ ?_
     ·refine dchk (by kernel_rfl) ?_; refine ai gkA ?_; refine ai gkA ?_; (repeat ((first | refine ai rfl ?_ | refine ai (fun _ => rfl) ?_))); refine ai (fun h14 => ?_) (fun h15 => ?_)
      ·refine us (nodeset_Count_c ((s.jobs.getD i Job.zero).nodes) _) ?_; (first | apply u3g | apply u4g); exact fun hg => law27_has_c s.ledger ((s.jobs.getD i Job.zero).user) ((s.jobs.getD i Job.zero).account) (by first | (exact law20_Few_sz (by simpa using h2)) | first | (exact clock_sz (law20_Few_sz (by simpa using h2))) | first | (exact (law20_Few_sz (by simpa using h2)).1) | first | (exact (clock_sz (law20_Few_sz (by simpa using h2))).1) | first | (exact (law20_Few_sz (by simpa using h2)).2.2.2.2.2) | first | (exact (clock_sz (law20_Few_sz (by simpa using h2))).2.2.2.2.2) | first | (exact (getD_sz (law20_Few_sz (by simpa using h2)).2.2.1 (Job.szz _)).2.1) | first | (exact (getD_sz (law20_Few_sz (by simpa using h2)).2.2.1 (Job.szz _)).2.2.1) | exact szA) (by first | (exact law20_Few_sz (by simpa using h2)) | first | (exact clock_sz (law20_Few_sz (by simpa using h2))) | first | (exact (law20_Few_sz (by simpa using h2)).1) | first | (exact (clock_sz (law20_Few_sz (by simpa using h2))).1) | first | (exact (law20_Few_sz (by simpa using h2)).2.2.2.2.2) | first | (exact (clock_sz (law20_Few_sz (by simpa using h2))).2.2.2.2.2) | first | (exact (getD_sz (law20_Few_sz (by simpa using h2)).2.2.1 (Job.szz _)).2.1) | first | (exact (getD_sz (law20_Few_sz (by simpa using h2)).2.2.1 (Job.szz _)).2.2.1) | exact szA) (by first | (exact law20_Few_sz (by simpa using h2)) | first | (exact clock_sz (law20_Few_sz (by simpa using h2))) | first | (exact (law20_Few_sz (by simpa using h2)).1) | first | (exact (clock_sz (law20_Few_sz (by simpa using h2))).1) | first | (exact (law20_Few_sz (by simpa using h2)).2.2.2.2.2) | first | (exact (clock_sz (law20_Few_sz (by simpa using h2))).2.2.2.2.2) | first | (exact (getD_sz (law20_Few_sz (by simpa using h2)).2.2.1 (Job.szz _)).2.1) | first | (exact (getD_sz (law20_Few_sz (by simpa using h2)).2.2.1 (Job.szz _)).2.2.1) | exact szA) _; refine ai (fun h16 => ?_) (fun h17 => ?_)
       ·obtain rfl := foll hR (ct h14 (ct h16 rfl)); exact ret_seen lx sr
       ·exact loop_next3 (w64 (held + (nodeset_Count (s.jobs.getD i Job.zero).nodes))) (all_ && (law27_has s.ledger (s.jobs.getD i Job.zero).user (s.jobs.getD i Job.zero).account)) (i + 1) (wk [0, 1] (tO rfl (ts State.lo) (tO rfl (ts State.lo) .nil)) (sv (turn_ptr 0 rfl rfl) (s1 (sv (turn_ptr 1 rfl rfl) (s1 (s1 (sv (turn_eq (I_eq (wr omA)) lx) .nil))))))) omA ⟨foll hR (ct h14 (cf h17 rfl)), by exact omA⟩
      ·refine ai (fun h18 => ?_) (fun h19 => ?_)
       ·obtain rfl := foll hR (cf h15 (ct h18 rfl)); exact ret_seen lx sr
       ·exact loop_next3 held all_ (i + 1) (wk [0, 1] (tO rfl (ts State.lo) (tO rfl (ts State.lo) .nil)) (sv (turn_ptr 0 rfl rfl) (s1 (sv (turn_ptr 1 rfl rfl) (s1 (s1 (sv (turn_eq (I_eq (wr omA)) lx) .nil))))))) omA ⟨foll hR (cf h15 (cf h19 rfl)), by exact omA⟩
     ·refine dchk (by kernel_rfl) ?_; refine ai gkA ?_; refine ai gkA ?_; (repeat ((first | refine ai rfl ?_ | refine ai (fun _ => rfl) ?_))); refine ai (fun h20 => ?_) (fun h21 => ?_)
      ·refine us (nodeset_Count_c ((s.jobs.getD i Job.zero).nodes) _) ?_; (first | apply u3g | apply u4g); exact fun hg => law27_has_c s.ledger ((s.jobs.getD i Job.zero).user) ((s.jobs.getD i Job.zero).account) (by first | (exact law20_Few_sz (by simpa using h2)) | first | (exact clock_sz (law20_Few_sz (by simpa using h2))) | first | (exact (law20_Few_sz (by simpa using h2)).1) | first | (exact (clock_sz (law20_Few_sz (by simpa using h2))).1) | first | (exact (law20_Few_sz (by simpa using h2)).2.2.2.2.2) | first | (exact (clock_sz (law20_Few_sz (by simpa using h2))).2.2.2.2.2) | first | (exact (getD_sz (law20_Few_sz (by simpa using h2)).2.2.1 (Job.szz _)).2.1) | first | (exact (getD_sz (law20_Few_sz (by simpa using h2)).2.2.1 (Job.szz _)).2.2.1) | exact szA) (by first | (exact law20_Few_sz (by simpa using h2)) | first | (exact clock_sz (law20_Few_sz (by simpa using h2))) | first | (exact (law20_Few_sz (by simpa using h2)).1) | first | (exact (clock_sz (law20_Few_sz (by simpa using h2))).1) | first | (exact (law20_Few_sz (by simpa using h2)).2.2.2.2.2) | first | (exact (clock_sz (law20_Few_sz (by simpa using h2))).2.2.2.2.2) | first | (exact (getD_sz (law20_Few_sz (by simpa using h2)).2.2.1 (Job.szz _)).2.1) | first | (exact (getD_sz (law20_Few_sz (by simpa using h2)).2.2.1 (Job.szz _)).2.2.1) | exact szA) (by first | (exact law20_Few_sz (by simpa using h2)) | first | (exact clock_sz (law20_Few_sz (by simpa using h2))) | first | (exact (law20_Few_sz (by simpa using h2)).1) | first | (exact (clock_sz (law20_Few_sz (by simpa using h2))).1) | first | (exact (law20_Few_sz (by simpa using h2)).2.2.2.2.2) | first | (exact (clock_sz (law20_Few_sz (by simpa using h2))).2.2.2.2.2) | first | (exact (getD_sz (law20_Few_sz (by simpa using h2)).2.2.1 (Job.szz _)).2.1) | first | (exact (getD_sz (law20_Few_sz (by simpa using h2)).2.2.1 (Job.szz _)).2.2.1) | exact szA) _; refine ai (fun h22 => ?_) (fun h23 => ?_)
       ·obtain rfl := foll hR (ct h20 (ct h22 rfl)); exact ret_seen lx sr
       ·exact loop_next3 (w64 (held + (nodeset_Count (s.jobs.getD i Job.zero).nodes))) (all_ && (law27_has s.ledger (s.jobs.getD i Job.zero).user (s.jobs.getD i Job.zero).account)) (i + 1) (wk [0, 1] (tO rfl (ts State.lo) (tO rfl (ts State.lo) .nil)) (sv (turn_ptr 0 rfl rfl) (s1 (sv (turn_ptr 1 rfl rfl) (s1 (s1 (sv (turn_eq (I_eq (wr omA)) lx) .nil))))))) omA ⟨foll hR (ct h20 (cf h23 rfl)), by exact omA⟩
      ·refine ai (fun h24 => ?_) (fun h25 => ?_)
       ·obtain rfl := foll hR (cf h21 (ct h24 rfl)); exact ret_seen lx sr
       ·exact loop_next3 held all_ (i + 1) (wk [0, 1] (tO rfl (ts State.lo) (tO rfl (ts State.lo) .nil)) (sv (turn_ptr 0 rfl rfl) (s1 (sv (turn_ptr 1 rfl rfl) (s1 (s1 (sv (turn_eq (I_eq (wr omA)) lx) .nil))))))) omA ⟨foll hR (cf h21 (cf h25 rfl)), by exact omA⟩
    ·rw [drop_none (l := s.jobs) (j := i) (geA h8)] at hR; refine dchk (by kernel_rfl) ?_; (first | apply u2 | apply u3 | apply u4 | apply us); exact ledger_Total_c s.ledger (by first | (exact law20_Few_sz (by simpa using h2)) | first | (exact clock_sz (law20_Few_sz (by simpa using h2))) | first | (exact (law20_Few_sz (by simpa using h2)).1) | first | (exact (clock_sz (law20_Few_sz (by simpa using h2))).1) | first | (exact (law20_Few_sz (by simpa using h2)).2.2.2.2.2) | first | (exact (clock_sz (law20_Few_sz (by simpa using h2))).2.2.2.2.2) | first | (exact (getD_sz (law20_Few_sz (by simpa using h2)).2.2.1 (Job.szz _)).2.1) | first | (exact (getD_sz (law20_Few_sz (by simpa using h2)).2.2.1 (Job.szz _)).2.2.1) | exact szA) _; (first | apply u2 | apply u3 | apply u4 | apply us); exact ledger_Total_c ((nag_Clock s).1.ledger) (by first | (exact law20_Few_sz (by simpa using h2)) | first | (exact clock_sz (law20_Few_sz (by simpa using h2))) | first | (exact (law20_Few_sz (by simpa using h2)).1) | first | (exact (clock_sz (law20_Few_sz (by simpa using h2))).1) | first | (exact (law20_Few_sz (by simpa using h2)).2.2.2.2.2) | first | (exact (clock_sz (law20_Few_sz (by simpa using h2))).2.2.2.2.2) | first | (exact (getD_sz (law20_Few_sz (by simpa using h2)).2.2.1 (Job.szz _)).2.1) | first | (exact (getD_sz (law20_Few_sz (by simpa using h2)).2.2.1 (Job.szz _)).2.2.1) | exact szA) _; (repeat ((first | refine ai rfl ?_ | refine ai (fun _ => rfl) ?_ | refine ai (fun _ => ledger_Total_c s.ledger (by first | (exact law20_Few_sz (by simpa using h2)) | first | (exact clock_sz (law20_Few_sz (by simpa using h2))) | first | (exact (law20_Few_sz (by simpa using h2)).1) | first | (exact (clock_sz (law20_Few_sz (by simpa using h2))).1) | first | (exact (law20_Few_sz (by simpa using h2)).2.2.2.2.2) | first | (exact (clock_sz (law20_Few_sz (by simpa using h2))).2.2.2.2.2) | first | (exact (getD_sz (law20_Few_sz (by simpa using h2)).2.2.1 (Job.szz _)).2.1) | first | (exact (getD_sz (law20_Few_sz (by simpa using h2)).2.2.1 (Job.szz _)).2.2.1) | exact szA) _) ?_ | refine ai (fun _ => ledger_Total_c ((nag_Clock s).1.ledger) (by first | (exact law20_Few_sz (by simpa using h2)) | first | (exact clock_sz (law20_Few_sz (by simpa using h2))) | first | (exact (law20_Few_sz (by simpa using h2)).1) | first | (exact (clock_sz (law20_Few_sz (by simpa using h2))).1) | first | (exact (law20_Few_sz (by simpa using h2)).2.2.2.2.2) | first | (exact (clock_sz (law20_Few_sz (by simpa using h2))).2.2.2.2.2) | first | (exact (getD_sz (law20_Few_sz (by simpa using h2)).2.2.1 (Job.szz _)).2.1) | first | (exact (getD_sz (law20_Few_sz (by simpa using h2)).2.2.1 (Job.szz _)).2.2.1) | exact szA) _) ?_))); (first | apply u3g | apply u4g); exact fun hg => law27_awake_c _; obtain rfl := foll hR rfl; exact ret_seen lx sr
end Go.Proofs.YtigcpfbpmnppcaaGreatDoor
namespace Go.Proofs.YtigcpfbpmnppcaaGreatDoor
set_option linter.unusedSimpArgs false
set_option linter.unusedVariables false
open Go.Fw
theorem awake27 : law27_awake = true := by kernel_rfl
end Go.Proofs.YtigcpfbpmnppcaaGreatDoor
namespace Go.Proofs.YtigcpfbpmnppcaaGreatDoor
set_option linter.unusedSimpArgs false
set_option linter.unusedVariables false
open Go.Fw
theorem wf_word {n : Int} (h : (Lit.int .u64 n).wf = true) : U64 n := by
 unfold Lit.wf at h
 simp only [Bool.and_eq_true, decide_eq_true_eq] at h
 have e1 : IntKind.u64.min = 0 := by decide
 have e2 : IntKind.u64.max = 18446744073709551615 := by decide
 rw [e1, e2] at h
 unfold U64
 omega
theorem State.wf_jobs {s : State} (h : s.wf) : ∀ x ∈ s.jobs, U64 x.nodes := fun x hx => by
 have := h.2.2.1.2 x hx
 unfold Job.wf at this
 exact wf_word this.2.2.2.2.2.2.2.2.2.2.2.2.2.2.1
theorem count_64 {x : Int} (h : U64 x) : 0 <= nodeset_Count x ∧ nodeset_Count x <= 64 := by
 rw [count_eq h]
 have := popN_le 64 x.toNat
 omega
section
variable {s : State}
theorem clock_loop (h0 : state_Check s = 0) (ht : (s.now == 1000000) = false) (hn : ∀ x ∈ s.jobs, 0 <= nodeset_Count x.nodes ∧ nodeset_Count x.nodes <= 64) :
  ∀ (r p : List Job) (held : Int) (al : Bool), s.jobs = p ++ r -> 0 <= held -> held + heldN r <= 100000 ->
   ((∀ x ∈ p, x.state = 2 -> HasE s.ledger x.user x.account) ∨ al = false) -> held = heldN p ->
   law27_NagClock_g1 s r held al p.length = true
 | [], p, held, al, hs, h1, h2, hal, hh => by
  have hp : s.jobs = p := by rw [hs, List.append_nil]
  have hplan := (check_parts h0).1
  obtain ⟨_, _, _, _, p5⟩ := (plan_iff s).1 hplan
  rw [law27_NagClock_g1, awake27, Bool.and_true, clock_val h0 ht]
  rcases hal with hal | hal
  ·have e := ticked_total h0 hn (by rw [hp]; exact hal)
   have t1 := total_val p5
   have s1 := sumU_nonneg s.ledger fun x hx => (ok_parts (((ledger_iff _).1.1 p5).2.1 x hx)).2.2.1.1
   rw [hp, ← hh] at e
   rw [heldN, Int.add_zero] at h2
   show (((!al) || (ledger_Total (ticked s).ledger == w64 (ledger_Total s.ledger + held))) || (ledger_Total (ticked s).ledger == 1000000000000)) = true
   rw [e, w6 (n := ledger_Total s.ledger + held) (by omega)]
   rcases Int.le_total (ledger_Total s.ledger + held) 1000000000000 with hle | hle
   ·have : min (ledger_Total s.ledger + held) 1000000000000 = ledger_Total s.ledger + held := by omega
    rw [this]
    simp
   ·have : min (ledger_Total s.ledger + held) 1000000000000 = 1000000000000 := by omega
    rw [this]
    simp
  ·rw [hal]
   rfl
 | x :: r, p, held, al, hs, h1, h2, hal, hh => by
  have hmem : x ∈ s.jobs := by rw [hs]; simp
  have hplan := (check_parts h0).1
  have hjc := (table_parts (plan_Check_parts hplan).2).2.1
  have hx := hjc x hmem
  have hu := used_in hx
  have hc := hn x hmem
  have hget : ((nag_Clock s).1.jobs).getD p.length Job.zero = gJ x := by
   rw [clock_val h0 ht]
   show (ticked s).jobs.getD p.length Job.zero = gJ x
   rw [ticked_jobs h0, hs, List.map_append, List.map_cons]
   have e := getD_mid Job.zero (p.map gJ) (gJ x) (r.map gJ)
   rw [List.length_map] at e
   exact e
  have hle : x.used <= (gJ x).used := by
   unfold gJ
   cases hst : x.state != 2 with
   | true => exact Int.le_refl _
   | false =>
    show x.used <= sat_Plus [x.used, nodeset_Count x.nodes]
    rw [plus_sat, use_id hu, use_id (n := nodeset_Count x.nodes) (by omega)]
    omega
  have cond : (((((decide ((gJ x).used < x.used)) || ((gJ x).state != x.state)) || ((gJ x).promise != x.promise)) || ((gJ x).nodes != x.nodes)) || ((gJ x).limit != x.limit)) = false := by
   rw [decide_eq_false (by omega)]
   simp [gJ]
  have hhp : heldN (p ++ [x]) = heldN p + (bif x.state == 2 then nodeset_Count x.nodes else 0) := by
   have : ∀ q : List Job, heldN (q ++ [x]) = heldN q + (bif x.state == 2 then nodeset_Count x.nodes else 0) := by
    intro q
    induction q with
    | nil => simp [heldN]
    | cons y q ih => rw [List.cons_append, heldN, heldN, ih]; omega
   exact this p
  have hin := held_in r fun y hy => hn y (by rw [hs]; simp [hy])
  rw [heldN] at h2
  rw [law27_NagClock_g1, hget, cond]
  have ih := clock_loop h0 ht hn r (p ++ [x])
  simp only [List.length_append, List.length_cons, List.length_nil, Nat.zero_add, List.append_assoc, List.singleton_append] at ih
  cases hst : (x.state == 2) with
  | true =>
   rw [hst] at h2 hhp
   simp only [cond_true, cond_false] at h2 hhp ⊢
   rw [w6 (n := held + nodeset_Count x.nodes) (by omega)]
   refine ih _ _ hs (by omega) (by omega) ?_ (by rw [hhp]; omega)
   cases hal2 : (al && (law27_has s.ledger x.user x.account)) with
   | false => exact .inr rfl
   | true =>
    rw [Bool.and_eq_true] at hal2
    refine .inl fun y hy hy2 => ?_
    rcases List.mem_append.1 hy with hy | hy
    ·rcases hal with hal | hal
     ·exact hal y hy hy2
     ·rw [hal] at hal2; exact absurd hal2.1 (by simp)
    ·rw [List.mem_singleton.1 hy]
     exact has_go _ _ _ _ hal2.2
  | false =>
   rw [hst] at h2 hhp
   simp only [cond_false] at h2 hhp ⊢
   refine ih _ _ hs h1 (by omega) ?_ (by rw [hhp]; omega)
   rcases hal with hal | hal
   ·refine .inl fun y hy hy2 => ?_
    rcases List.mem_append.1 hy with hy | hy
    ·exact hal y hy hy2
    ·rw [List.mem_singleton.1 hy] at hy2
     rw [hy2] at hst
     cases hst
   ·exact .inr hal
end
theorem nagClock_true (s : State) (h : s.wf) : law27_NagClock s = true := by
 unfold law27_NagClock
 cases hf : law20_Few s with
 | false => exact awake27
 | true =>
  simp only [Bool.not_true, cond_false]
  cases hc : ((state_Check s) != 0) with
  | true =>
   have e : nag_Clock s = (State.zero, state_Check s) := by unfold nag_Clock; rw [hc]; rfl
   rw [e, hc, awake27]
   rfl
  | false =>
   have h0 : state_Check s = 0 := by simpa using hc
   cases ht : (s.now == 1000000) with
   | true =>
    have e : nag_Clock s = (State.zero, 153) := by unfold nag_Clock; rw [hc, ht]; rfl
    rw [e, awake27]
    rfl
   | false =>
    have hw := State.wf_jobs h
    have hn : ∀ x ∈ s.jobs, 0 <= nodeset_Count x.nodes ∧ nodeset_Count x.nodes <= 64 := fun x hx => count_64 (hw x hx)
    have hplan := (check_parts h0).1
    have hnow := plan_now hplan
    obtain ⟨_, _, _, p4, _⟩ := (plan_iff s).1 hplan
    have hlen := (table_parts (plan_Check_parts hplan).2).1
    have hin := held_in s.jobs hn
    have e := clock_val h0 ht
    have hbk : (ticked s).books = s.books.filter (keepB (s.now + 1)) := past_val _ (by have := ((book_iff s.books).1 p4).1; omega) p4
    have hbl := List.length_filter_le (keepB (s.now + 1)) s.books
    have hcond : (((((((state_Check ((nag_Clock s).1)) != 0) || ((nag_Clock s).1.now != (w64 (s.now + 1)))) || (!(ref12_Same s.nodes ((nag_Clock s).1.nodes)))) || ((((nag_Clock s).1.jobs).length : Int) != (s.jobs.length : Int))) || ((((nag_Clock s).1.resizes).length : Int) != (s.resizes.length : Int))) || (decide ((((nag_Clock s).1.books).length : Int) > (s.books.length : Int)))) = false := by
     rw [e]
     show (((((((state_Check (ticked s)) != 0) || ((s.now + 1) != (w64 (s.now + 1)))) || (!(ref12_Same s.nodes s.nodes))) || (((ticked s).jobs.length : Int) != (s.jobs.length : Int))) || ((s.resizes.length : Int) != (s.resizes.length : Int))) || (decide (((ticked s).books.length : Int) > (s.books.length : Int)))) = false
     rw [clock_keeps h0 ht, w6 (n := s.now + 1) (by omega), (ref12_same _ _).2 rfl, ticked_jobs h0, hbk, decide_eq_false (by omega), List.length_map]
     simp
    rw [hcond]
    have e2 : ((nag_Clock s).2 != 0) = false := by rw [e]; rfl
    rw [e2]
    exact clock_loop h0 ht hn s.jobs [] 0 true rfl (Int.le_refl _) (by omega) (.inl fun x hx => (nomatch hx)) rfl
end Go.Proofs.YtigcpfbpmnppcaaGreatDoor
namespace Go.Proofs.YtigcpfbpmnppcaaGreatDoor
set_option linter.unusedSimpArgs false
set_option linter.unusedVariables false
open Go.Fw Go.RowKit Go.ChangeShapes Go.WideShapes
theorem lawOwn : ownKnob Tryz.prog.godebug = none := by kernel_rfl
theorem lawLaid : laidOutB Tryz.prog = true := by kernel_rfl
theorem lawBool : Tryz.prog.underlying 4 = some .bool := by kernel_rfl
set_option maxRecDepth 100000 in
theorem lawDoor (os : Os) (args : Array Value) : laidMetH Tryz.prog Rows.nagClockRow.laid ((World.doorLaid Tryz.prog 400 os).forCall (fun _ _ => 0) ⟨#[], args, []⟩).memory :=
 laidMetH_of_parts3 (fuel := 8) (laidMet_of_run' 8 (by kernel_rfl) (by kernel_rfl)) (by kernel_rfl) (by kernel_rfl)
set_option maxRecDepth 100000 in
theorem nagClock_lifted (law : ∀ (a0 : State), State.wf a0 -> AGives Tryz.prog 5 [State.a a0] [] (.lit (.bool true))) (os : Os) (started : os.Started) (H : Type) (enc : TypeId × Value -> H) :
  ReturnsInHanded {} Tryz.checked os 5 .any (fun w args => (Rows.nagClockSpec.pre enc Tryz.prog Tryz.f5 [] false w args ∧ laidMetH Tryz.prog Rows.nagClockRow.laid w) ∧ sizedMet enc Tryz.prog Tryz.f5 (OpenSpec.ofChange Rows.nagClockSpec) false w args)
   (Rows.nagClockSpec.post enc Tryz.prog Tryz.f5 false true false false) := by
 refine law_lifted_laid (C := Tryz.checked) (tb := 4) lawOwn started (by kernel_rfl) Tryz.func5
  (ChangeSpec.witness_shaped (enc := enc) (C := Tryz.checked) (os := os) (X := fun w _ => laidMetH Tryz.prog Rows.nagClockRow.laid w) false (World.doorLaid Tryz.prog 400 os) #[.agg #[.int .i64 0, .slice none 0 0, .slice none 0 0, .slice none 0 0, .slice none 0 0, .slice none 0 0, .int .i64 0, .int .i64 0]] 8 rfl (World.shaped_of_RefB (by kernel_rfl) (by kernel_rfl)) (by kernel_rfl) (by kernel_rfl) (by kernel_rfl) (lawDoor os _)) rfl (by kernel_rfl) lawBool lawLaid (by kernel_rfl) ?_
  (.cons _ _ _ _ _ (ArgAs.struct rfl readState) .nil) ?_
 ·intro ds hd
  match ds, hd with
  | [_], _ => rfl
 ·rintro l ⟨a0, m0, g0, rfl, rfl⟩
  exact law a0 g0
theorem nagClock_holds0 (law : ∀ (a0 : State), State.wf a0 -> AGives Tryz.prog 5 [State.a a0] [] (.lit (.bool true))) : Rows.NagClockSaid :=
 OpenClaim.holds_of_wide 5 Tryz.f5 rfl rfl rfl rfl rfl rfl rfl ⟨rfl, rfl, rfl, rfl, rfl⟩ rfl rfl rfl rfl rfl (by kernel_rfl) Tryz.func5 (by kernel_rfl)
  (of_decide_eq_true (by kernel_rfl)) (by unfold Func.isWrapper; first | (rw [if_pos (by decide +kernel)]; kernel_rfl) | (rw [if_neg (by decide +kernel)]; exact ⟨rfl, rfl⟩))
  (fun os started H enc _ => nagClock_lifted law os started H enc)
theorem nagClock_card0 (law : ∀ (a0 : State), State.wf a0 -> AGives Tryz.prog 5 [State.a a0] [] (.lit (.bool true))) : Rows.NagClockCardSaid :=
 Claim7.holds_tied_plain_at .later [] [.data, .data, .data, .sentinel, .sentinel] true (true, "4964f6699f38809c81a54ccce3b2ebc1e47cb2e088c00cbe3e446afb9ed0c671") true
  (nagClock_holds0 law) (fun _ h => by cases h) (by kernel_rfl) (fun _ h => by cases h) nagClock_row_tie rfl ⟨rfl, rfl⟩ (by kernel_rfl) rfl
  (fun f fn hf hfn => by
   obtain rfl : f = 5 := Option.some.inj ((show Tryz.prog.funcNamed "muster/musterlaw27.NagClock" = some 5 by kernel_rfl).symm.trans hf) |>.symm
   obtain rfl : fn = Tryz.f5 := (Option.some.inj (Tryz.func5.symm.trans hfn)).symm
   exact ⟨by kernel_rfl, fun j t ht => by
    rcases j with _ | j
    ·obtain rfl : t = 28 := (Option.some.inj ((show Tryz.f5.params[0]? = some 28 by kernel_rfl).symm.trans ht)).symm
     exact (show Tryz.prog.wantsStandIn 28 = false by kernel_rfl)
    ·exact absurd ht (by rw [show Tryz.f5.params[j + 1]? = none from Array.getElem?_eq_none (by show Tryz.f5.params.size <= j + 1; rw [show Tryz.f5.params.size = 1 by kernel_rfl]; omega)]; exact fun h => nomatch h)⟩)
  (by kernel_rfl)
#print axioms nagClock_card0
end Go.Proofs.YtigcpfbpmnppcaaGreatDoor
namespace Go.Proofs.YtigcpfbpmnppcaaGreatDoor
set_option linter.unusedSimpArgs false
set_option linter.unusedVariables false
open Go.Fw
theorem nagClock_gives (a : State) (ha : a.wf) : AGives Tryz.prog 5 [State.a a] [] (.lit (.bool true)) := by
 have h := law27_NagClock_c a (State.wf_szM ha) []
 rw [nagClock_true a ha] at h
 exact h
theorem nagClock_card : Rows.NagClockCardSaid := nagClock_card0 nagClock_gives
#print axioms nagClock_card
end Go.Proofs.YtigcpfbpmnppcaaGreatDoor
