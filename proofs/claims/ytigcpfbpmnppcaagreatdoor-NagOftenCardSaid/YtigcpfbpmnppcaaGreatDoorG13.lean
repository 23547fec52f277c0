/-
  Nag, fourth part: a user is charged as the document says. Condition: the ledger is of a size that a machine holds.
  Nag, fifth part: what is past is dropped; a tick passes as the document says. Condition: sets of nodes are words; texts and rows are of a size that a machine holds.
  Nag: the sizes of what is sent again, late, stale and over. Condition: the state is read, and few.
  Nag: the sizes of a state behind a tick. Condition: the state is of a size that a machine holds.
  What leaves a state one that may be: a change of what its check does not look at. Conditions stand in each lemma.
  Nag without the document: a ledger that is charged is a ledger; a state behind a tick, and one of which notes were sent again, may be. Conditions stand in each lemma.
  Contracts of functions, printed by a program of this repo (wip/dec). No condition beyond those that stand in each.
  The answers that the document fixes for layer 27. No condition.
  NagOften's plain law: nothing is sent twice in one tick, nor less than so many ticks behind the last time; who is sent something is not free. No condition.
  Nothing is sent twice in one tick, nor less than so many ticks behind the last time; who is sent something is not free. No condition.
  NagOften holds for every input: nothing is sent twice in one tick, nor less than so many ticks behind the last time; who is sent something is not free. No condition.
-/
import Derived.Test.YtigcpfbpmnppcaaGreatDoorG12
import Derived.Test.YtigcpfbpmnppcaaGreatDoorProg
import Derived.Test.YtigcpfbpmnppcaaGreatDoorTie
import Derived.Test.YtigcpfbpmnppcaaGreatDoorCards
import Derived.Test.YtigcpfbpmnppcaaGreatDoorRows
import Derived.ProofKit
import Derived.LaidMore
import Derived.OpenShut
import Derived.SevenTiedAt
namespace Go.Proofs.YtigcpfbpmnppcaaGreatDoor
set_option linter.unusedSimpArgs false
set_option linter.unusedVariables false
open Go.Fw
def placeU (l : List Usage) (t : Usage) : Nat := (l.takeWhile (fun x => ref17_ahead x t)).length
theorem place_le (l : List Usage) (t : Usage) : placeU l t <= l.length := by
 unfold placeU
 exact (List.takeWhile_prefix _).length_le
theorem place_mono (t : Usage) : ∀ (l : List Usage), l.Pairwise aheadP -> ∀ (k : Nat) (x : Usage), l[k]? = some x -> ref17_ahead x t = decide (k < placeU l t)
 | [], _, k, x, h => by simp at h
 | y :: l, hp, k, x, h => by
  obtain ⟨h1, h2⟩ := List.pairwise_cons.1 hp
  have ih := place_mono t l h2
  unfold placeU at ih ⊢
  rw [List.takeWhile_cons]
  cases hy : ref17_ahead y t with
  | true =>
   simp only [if_true, List.length_cons]
   cases k with
   | zero =>
    simp only [List.getElem?_cons_zero, Option.some.injEq] at h
    subst h
    rw [hy]
    simp
   | succ k =>
    simp only [List.getElem?_cons_succ] at h
    rw [ih k x h]
    exact decide_eq_decide.2 (by omega)
  | false =>
   simp only [Bool.false_eq_true, if_false, List.length_nil, Nat.not_lt_zero, decide_false]
   cases k with
   | zero =>
    simp only [List.getElem?_cons_zero, Option.some.injEq] at h
    subst h
    exact hy
   | succ k =>
    simp only [List.getElem?_cons_succ] at h
    cases hx : ref17_ahead x t with
    | false => rfl
    | true => exact absurd (ahead_trans (h1 x (List.mem_of_getElem? h)) hx) (by rw [hy]; simp)
theorem getD_some {α : Type} (d : α) {l : List α} {k : Nat} (h : k < l.length) : l[k]? = some (l.getD k d) := by simp [List.getD, List.getElem?_eq_getElem h]
section
variable {l : List Usage} {t : Usage}
theorem search_use (hn : l.length <= 200) (hp : l.Pairwise aheadP) : ∀ (m : Nat) (i j : Int), Int.toNat (j - i) < m -> 0 <= i -> i <= (placeU l t : Int) -> (placeU l t : Int) <= j -> j <= (l.length : Int) ->
   (slices_BinarySearchFunc_Usage_g1 l t ledger_Charge_t3 m i j).1 = (placeU l t : Int)
 | 0, i, j, hm, _, _, _, _ => absurd hm (by omega)
 | m + 1, i, j, hm, h0, h1, h2, h3 => by
  rw [slices_BinarySearchFunc_Usage_g1]
  cases hd : decide (i < j) with
  | false =>
   have := of_decide_eq_false hd
   show i = _
   omega
  | true =>
   have hlt := of_decide_eq_true hd
   rw [half_ok h0 hlt h3 (by omega)]
   simp only [cond_true]
   obtain ⟨q, hq⟩ : ∃ q : Nat, (i + j) / 2 = (q : Int) := ⟨((i + j) / 2).toNat, by omega⟩
   rw [hq]
   have hql : q < l.length := by omega
   have hcmp : decide (ledger_Charge_t3 (l.getD (Int.toNat (q : Int)) Usage.zero) t < 0) = decide (q < placeU l t) := by
    rw [← place_mono t l hp q _ (getD_some Usage.zero hql), Int.toNat_natCast]
    exact order_lt _ _
   rw [hcmp]
   cases hc : decide (q < placeU l t) with
   | true =>
    have hc' := of_decide_eq_true hc
    simp only [cond_true]
    rw [w6 (n := (q : Int) + 1) (by omega)]
    exact search_use hn hp m _ _ (by omega) (by omega) (by omega) h2 h3
   | false =>
    have hc' := of_decide_eq_false hc
    simp only [cond_false]
    exact search_use hn hp m _ _ (by omega) h0 h1 (by omega) (by omega)
theorem search_val (hn : l.length <= 200) (hp : l.Pairwise aheadP) : slices_BinarySearchFunc_Usage l t ledger_Charge_t3 = ((placeU l t : Int), (decide (placeU l t < l.length)) && ((ByteArray.toList (l.getD (placeU l t) Usage.zero).user == ByteArray.toList t.user) && (ByteArray.toList (l.getD (placeU l t) Usage.zero).account == ByteArray.toList t.account))) := by
 have hl := place_le l t
 have e := search_use (t := t) hn hp ((Int.toNat ((l.length : Int) - 0)) + 1) 0 (l.length : Int) (by omega) (by omega) (by omega) (by omega) (by omega)
 unfold slices_BinarySearchFunc_Usage slices_BinarySearchFunc_Usage_k1
 rw [e, Int.toNat_natCast]
 have e2 : (ledger_Charge_t3 (l.getD (placeU l t) Usage.zero) t == 0) = _ := order_zero _ _
 rw [e2]
 congr 2
 exact decide_eq_decide.2 (by omega)
end
def chargeL (l : List Usage) (user account : ByteArray) (n : Int) : List Usage × Int :=
 let p := placeU l ⟨user, account, 0, 0⟩
 bif (decide (p < l.length)) && ((ByteArray.toList (l.getD p Usage.zero).user == ByteArray.toList user) && (ByteArray.toList (l.getD p Usage.zero).account == ByteArray.toList account)) then
  (l.take p ++ ⟨(l.getD p Usage.zero).user, (l.getD p Usage.zero).account, sat_Plus [(l.getD p Usage.zero).used, n], sat_Plus [(l.getD p Usage.zero).share, n]⟩ :: l.drop (p + 1), 0)
 else bif ((l.length : Int) == 200) then ([], 3)
 else (l.take p ++ ⟨user, account, sat_Plus [0, n], sat_Plus [0, n]⟩ :: l.drop p, 0)
theorem set_at {α : Type} (l : List α) (p : Nat) (h : p < l.length) (a : α) : l.set p a = l.take p ++ a :: l.drop (p + 1) := by
 rw [List.set_eq_take_append_cons_drop, if_pos h]
theorem charge_val {l : List Usage} {user account : ByteArray} {n : Int} (hc : ledger_Check l = 0) (hu : ledger_name user = true) (ha : ledger_name account = true) (hn : 0 <= n) : ledger_Charge l user account n = chargeL l user account n := by
 obtain ⟨h1, _, h3⟩ := (ledger_iff l).1.1 hc
 have hl := place_le l ⟨user, account, 0, 0⟩
 have hs := search_val (t := ⟨user, account, 0, 0⟩) h1 h3
 unfold ledger_Charge chargeL
 rw [hc, hu, ha, decide_eq_false (show ¬ n < 0 by omega)]
 simp only [ledger_Charge_t1, ledger_Charge_t2, ledger_Charge_t4, ledger_Charge_t5]
 rw [hs]
 dsimp only
 rw [Int.toNat_natCast]
 generalize hp : placeU l ⟨user, account, 0, 0⟩ = p at *
 cases hf : ((decide (p < l.length)) && ((ByteArray.toList (l.getD p Usage.zero).user == ByteArray.toList user) && (ByteArray.toList (l.getD p Usage.zero).account == ByteArray.toList account))) with
 | true =>
  have hpl : p < l.length := by
   rw [Bool.and_eq_true] at hf
   exact of_decide_eq_true hf.1
  show ((l.set p _).set p _, (0 : Int)) = (_, 0)
  rw [List.set_set, set_at l p hpl]
  congr 3
  have e : ∀ y : Usage, (l.set p y).getD p Usage.zero = y := fun y => by simp [List.getD, hpl]
  rw [e]
 | false =>
  cases hb : ((l.length : Int) == 200) with
  | true => rfl
  | false =>
   have hi : ledger_insert_Usage l (p : Int) ⟨user, account, 0, 0⟩ = l.take p ++ (⟨user, account, 0, 0⟩ : Usage) :: l.drop p := by
    unfold ledger_insert_Usage
    simp
   have hlen : (l.take p).length = p := by simp; omega
   have e : ∀ y : Usage, (l.take p ++ y :: l.drop p).getD p Usage.zero = y := fun y => by
    simp [List.getD, List.getElem?_append_right, hlen]
   have e2 : ∀ y z : Usage, (l.take p ++ y :: l.drop p).set p z = l.take p ++ z :: l.drop p := fun y z => by
    rw [List.set_append_right _ _ (by omega), hlen, Nat.sub_self]
    rfl
   show (((ledger_insert_Usage l (p : Int) ⟨user, account, 0, 0⟩).set p _).set p _, (0 : Int)) = (_, 0)
   rw [List.set_set]
   simp only [hi]
   rw [e2]
   simp only [e, e2]
theorem decay_go (l : List Usage) : ∀ (r p : List Usage) (m : Nat), (p ++ r).length = l.length -> r.length < m -> ledger_Decay_g1 l m p.length (p ++ r) = p ++ r.map fun x => { x with share := sat_Half x.share }
 | [], p, 0, _, h => absurd h (by simp)
 | [], p, m + 1, hl, _ => by
  rw [ledger_Decay_g1, decide_eq_false (by simp at hl; omega)]
  simp
 | x :: r, p, 0, _, h => absurd h (by simp)
 | x :: r, p, m + 1, hl, hm => by
  have hm' : r.length < m := by simp at hm; omega
  have ih := decay_go l r (p ++ [{ x with share := sat_Half x.share }]) m (by simp at hl ⊢; omega) hm'
  simp only [List.append_assoc, List.singleton_append, List.length_append, List.length_cons, List.length_nil, Nat.zero_add] at ih
  have hg : (p ++ x :: r).getD p.length Usage.zero = x := by simp [List.getD]
  have hs : ∀ y, (p ++ x :: r).set p.length y = p ++ y :: r := fun y => by rw [List.set_append_right _ _ (Nat.le_refl _), Nat.sub_self]; rfl
  rw [ledger_Decay_g1, decide_eq_true (by simp at hl; omega), hg, hs]
  exact ih
theorem decay_val {l : List Usage} (h : ledger_Check l = 0) : ledger_Decay l = l.map fun x => { x with share := sat_Half x.share } := by
 unfold ledger_Decay
 rw [h]
 have := decay_go l l [] ((Int.toNat ((l.length : Int) - (0 : Int))) + 1) rfl (by omega)
 exact this
end Go.Proofs.YtigcpfbpmnppcaaGreatDoor
namespace Go.Proofs.YtigcpfbpmnppcaaGreatDoor
set_option linter.unusedSimpArgs false
set_option linter.unusedVariables false
open Go.Fw
def keepB (now : Int) (b : Book) : Bool := !(decide (b.to <= now))
theorem past_go2 (now : Int) : ∀ (m i j : Nat) (c : List Book), i <= j -> j <= c.length -> c.length <= 4294967296 -> c.length - j < m ->
  (fun p1 : Int × Nat × (List Book) => (List.take (Int.toNat p1.1) p1.2.2)) (book_Past_g2 now m (i : Int) j c) = c.take i ++ (c.drop j).filter (keepB now)
 | 0, i, j, c, _, _, _, h => absurd h (by omega)
 | m + 1, i, j, c, hij, hj, hc, hm => by
  rw [book_Past_g2]
  rcases Nat.lt_or_ge j c.length with h | h
  ·rw [decide_eq_true (show (j : Int) < (c.length : Int) by omega)]
   simp only [cond_true]
   have hd : c.drop j = c.getD j Book.zero :: c.drop (j + 1) := by
    rw [List.drop_eq_getElem_cons h]
    simp [List.getD, h]
   rw [hd, List.filter_cons]
   unfold keepB
   cases hk : !(decide ((c.getD j Book.zero).to <= now)) with
   | true =>
    simp only [cond_true, if_true]
    rw [w6 (n := (i : Int) + 1) (by omega), Int.toNat_natCast]
    have ih := past_go2 now m (i + 1) (j + 1) (c.set i (c.getD j Book.zero)) (by omega) (by rw [List.length_set]; omega) (by rw [List.length_set]; exact hc) (by rw [List.length_set]; omega)
    rw [List.drop_set_of_lt (by omega)] at ih
    refine ih.trans ?_
    rw [List.take_add_one, List.take_set_of_le (Nat.le_refl i), List.getElem?_set_self (by omega)]
    simp
    rfl
   | false =>
    simp only [cond_false, Bool.false_eq_true, if_false]
    exact past_go2 now m i (j + 1) c (by omega) (by omega) hc (by omega)
  ·rw [decide_eq_false (show ¬ (j : Int) < (c.length : Int) by omega), List.drop_of_length_le (by omega)]
   simp
theorem past_go1 (l : List Book) (now : Int) (hl : l.length <= 4294967296) : ∀ (r p : List Book), l = p ++ r -> (∀ x ∈ p, keepB now x = true) -> book_Past_g1 l now r p.length = l.filter (keepB now)
 | [], p, h, hp => by
  rw [book_Past_g1]
  have e : l = p := by rw [h, List.append_nil]
  subst e
  exact (List.filter_eq_self.2 hp).symm
 | x :: r, p, h, hp => by
  have hg : l.getD p.length Book.zero = x := by rw [h]; simp [List.getD]
  have hlen : p.length + 1 + r.length = l.length := by rw [h]; simp; omega
  rw [book_Past_g1, hg]
  cases hk : decide (x.to <= now) with
  | true =>
   have hn : ((p.length : Int) == (-1)) = false := by rw [beq_eq_false_iff_ne]; omega
   rw [hn]
   simp only [cond_true, cond_false]
   have e := past_go2 now ((Int.toNat ((l.length : Int) - ((p.length + 1) : Int))) + 1) p.length (p.length + 1) l (by omega) (by omega) hl (by omega)
   refine e.trans ?_
   have e1 : l.take p.length = p := by rw [h]; simp
   have e2 : l.drop (p.length + 1) = r := by rw [h, ← List.drop_drop]; simp
   rw [e1, e2, h, List.filter_append, List.filter_eq_self.2 hp, List.filter_cons]
   have : keepB now x = false := by unfold keepB; rw [hk]; rfl
   rw [this]
   simp
  | false =>
   simp only [cond_false]
   have ih := past_go1 l now hl r (p ++ [x]) (by rw [h]; simp) (fun y hy => by
    rcases List.mem_append.1 hy with hy | hy
    ·exact hp y hy
    ·rw [List.mem_singleton.1 hy]; unfold keepB; rw [hk]; rfl)
   simpa using ih
theorem past_val {l : List Book} (now : Int) (hl : l.length <= 4294967296) (h : book_Check l = 0) : book_Past l now = l.filter (keepB now) := by
 unfold book_Past
 rw [h]
 exact past_go1 l now hl l [] rfl (fun x hx => (nomatch hx))
def chgJ (x : Job) : Job := bif x.state != 2 then x else (job_Charge x (nodeset_Count x.nodes)).1
def chgL (d : List Usage) (x : Job) : List Usage := bif x.state != 2 then d else bif ((ledger_Charge d x.user x.account (nodeset_Count x.nodes)).2 == 0) then (ledger_Charge d x.user x.account (nodeset_Count x.nodes)).1 else d
theorem jcharge_ok {x : Job} (h : job_Check x = 0) (hs : x.state = 2) (n : Int) : job_Charge x n = ({ x with used := sat_Plus [x.used, n] }, 0) := by
 unfold job_Charge
 rw [h, hs]
 rfl
theorem clock_prog : ∀ (r p : List Job) (js : List Job) (c : State), (∀ x ∈ r, job_Check x = 0) -> c.jobs = p ++ r ->
  nag_Clock_g1 r p.length js c = (p ++ r.map chgJ, { c with jobs := p ++ r.map chgJ, ledger := r.foldl chgL c.ledger })
 | [], p, js, c, _, h => by
  rw [nag_Clock_g1, h]
  cases c
  simp only [List.map_nil, List.append_nil, List.foldl_nil] at h ⊢
  rw [← h]
 | x :: r, p, js, c, hx, h => by
  have hr : ∀ y ∈ r, job_Check y = 0 := fun y hy => hx y (List.mem_cons_of_mem _ hy)
  have hg : c.jobs.getD p.length Job.zero = x := by rw [h]; exact getD_mid _ _ _ _
  have ih := fun (y : Job) js c h => clock_prog r (p ++ [y]) js c hr h
  simp only [List.length_append, List.length_cons, List.length_nil, Nat.zero_add, List.append_assoc, List.singleton_append] at ih
  rw [nag_Clock_g1, hg, List.map_cons, List.foldl_cons]
  cases hs : x.state != 2 with
  | true =>
   have e1 : chgJ x = x := by unfold chgJ; rw [hs]; rfl
   have e2 : chgL c.ledger x = c.ledger := by unfold chgL; rw [hs]; rfl
   simp only [cond_true]
   rw [ih x c.jobs c h, e1, e2]
  | false =>
   have hs2 : x.state = 2 := by simpa using hs
   have hj := jcharge_ok (hx x (List.mem_cons_self ..)) hs2 (nodeset_Count x.nodes)
   have e1 : chgJ x = { x with used := sat_Plus [x.used, nodeset_Count x.nodes] } := by unfold chgJ; rw [hs, hj]; rfl
   have hset : ∀ y, c.jobs.set p.length y = p ++ y :: r := fun y => by rw [h]; exact set_mid _ _ _ _
   have h0 : ((0 : Int) == 0) = true := rfl
   rw [hj, hset, e1]
   simp only [cond_false, h0, cond_true]
   cases hl : ((ledger_Charge c.ledger x.user x.account (nodeset_Count x.nodes)).2 == 0) with
   | true =>
    have e2 : chgL c.ledger x = (ledger_Charge c.ledger x.user x.account (nodeset_Count x.nodes)).1 := by unfold chgL; rw [hs, hl]; rfl
    simp only [cond_true]
    rw [ih _ _ _ rfl, e2]
   | false =>
    have e2 : chgL c.ledger x = c.ledger := by unfold chgL; rw [hs, hl]; rfl
    simp only [cond_false]
    rw [ih _ _ _ rfl, e2]
theorem charge_len {l : List Usage} {user account : ByteArray} {n : Int} (h : ((ledger_Charge l user account n).2 == 0) = true) : (ledger_Charge l user account n).1.length <= 201 := by
 have h' : (ledger_Charge l user account n).2 = 0 := by simpa using h
 rcases (ledger_iff l).2 with hc | hc
 ·have hlen := ((ledger_iff l).1.1 hc).1
  unfold ledger_Charge at h' ⊢
  rw [hc] at h' ⊢
  simp only [bne_self_eq_false, cond_false] at h' ⊢
  cases hq : (((!(ledger_name user)) || (!(ledger_name account))) || (decide (n < 0))) with
  | true => rw [hq] at h'; cases h'
  | false =>
   rw [hq] at h'
   simp only [cond_false] at h' ⊢
   cases hb : (!(ledger_Charge_t1 l user account).2) with
   | true =>
    rw [hb] at h'
    simp only [cond_true] at h' ⊢
    cases hz : ((l.length : Int) == 200) with
    | true => rw [hz] at h'; cases h'
    | false =>
     have := bsu_le l (⟨user, account, 0, 0⟩ : Usage) ledger_Charge_t3 (by omega)
     simp only [cond_false, List.length_set]
     show (ledger_insert_Usage l _ _).length <= 201
     rw [ledger_insert_len _ _ _ this.1 this.2]
     omega
   | false =>
    simp only [cond_false, List.length_set]
    omega
 ·unfold ledger_Charge at h'
  rw [hc] at h'
  cases h'
def ticked (s : State) : State :=
 { s with now := s.now + 1, jobs := s.jobs.map chgJ, books := book_Past s.books (s.now + 1), ledger := bif ((Int.tmod (s.now + 1) 50) == 0) then ledger_Decay (s.jobs.foldl chgL s.ledger) else s.jobs.foldl chgL s.ledger }
section
variable {s : State}
theorem clock_val (h0 : state_Check s = 0) (ht : (s.now == 1000000) = false) : nag_Clock s = (ticked s, 0) := by
 obtain ⟨hp, _⟩ := check_parts h0
 obtain ⟨_, hjc, _⟩ := table_parts (plan_Check_parts hp).2
 have hn := plan_now hp
 have e := clock_prog s.jobs [] s.jobs s hjc rfl
 simp only [List.length_nil, List.nil_append] at e
 unfold nag_Clock
 rw [h0, ht]
 simp only [bne_self_eq_false, cond_false]
 rw [e]
 unfold nag_Clock_k1 ticked
 dsimp only
 rw [w6 (n := s.now + 1) (by omega)]
 cases ((Int.tmod (s.now + 1) 50) == 0) <;> rfl
end
end Go.Proofs.YtigcpfbpmnppcaaGreatDoor
namespace Go.Proofs.YtigcpfbpmnppcaaGreatDoor
set_option linter.unusedSimpArgs false
set_option linter.unusedVariables false
open Go.Fw
theorem notes_len (s : State) : ∀ (l : List Node) (i : Nat), (notesL s l i).length <= l.length
 | [], _ => Nat.zero_le _
 | x :: r, i => by
  have := notes_len s r (i + 1)
  rw [notesL]
  cases againB s x with
  | true => simp only [cond_true, List.length_cons]; omega
  | false => simp only [cond_false, List.length_cons]; omega
theorem resend_sz {s : State} (h : s.sz) : (nag_Resend s).1.sz ∧ (nag_Resend s).2.length <= 4294967296 := by
 cases hc : ((state_Check s) != 0) with
 | true =>
  unfold nag_Resend
  rw [hc]
  exact ⟨State.szz _, Nat.zero_le _⟩
 | false =>
  rw [(resend_val (by simpa using hc)).1]
  obtain ⟨h1, h2⟩ := h
  exact ⟨⟨by rw [List.length_map]; exact h1, h2⟩, Nat.le_trans (notes_len s s.nodes 0) h1⟩
end Go.Proofs.YtigcpfbpmnppcaaGreatDoor
namespace Go.Proofs.YtigcpfbpmnppcaaGreatDoor
set_option linter.unusedSimpArgs false
set_option linter.unusedVariables false
open Go.Fw
theorem chgJ_sz {x : Job} (h : x.sz) : (chgJ x).sz := by
 unfold chgJ
 cases x.state != 2 with
 | true => exact h
 | false =>
  simp only [cond_false]
  unfold job_Charge
  cases (job_Check x != 0) with
  | true => exact Job.szz _
  | false =>
   cases (job_when (x.state == 2) != 0) with
   | true => exact Job.szz _
   | false => exact h
theorem mem_at {α : Type} {a b y : α} {p q : List α} (h : y ∈ p ++ a :: q) : y ∈ p ∨ y = a ∨ y ∈ q := by
 rcases List.mem_append.1 h with h | h
 ·exact .inl h
 ·rcases List.mem_cons.1 h with h | h
  ·exact .inr (.inl h)
  ·exact .inr (.inr h)
def LedSz (d : List Usage) : Prop := d.length <= 4294967296 ∧ ∀ y ∈ d, y.sz
theorem charge_sz {d : List Usage} {user account : ByteArray} {n : Int} (h : LedSz d) (hu : user.size <= 4294967296) (ha : account.size <= 4294967296) (hc : ((ledger_Charge d user account n).2 == 0) = true) : LedSz (ledger_Charge d user account n).1 := by
 refine ⟨by have := charge_len hc; omega, ?_⟩
 rcases (ledger_iff d).2 with h0 | h2
 ·unfold ledger_Charge at hc ⊢
  rw [h0] at hc ⊢
  simp only [bne_self_eq_false, cond_false] at hc ⊢
  cases hq : (((!(ledger_name user)) || (!(ledger_name account))) || (decide (n < 0))) with
  | true => rw [hq] at hc; cases hc
  | false =>
   rw [hq] at hc
   simp only [Bool.or_eq_false_iff, Bool.not_eq_false', decide_eq_false_iff_not] at hq
   have e := charge_val h0 hq.1.1 hq.1.2 (n := n) (by omega)
   unfold ledger_Charge at e
   rw [h0, hq.1.1, hq.1.2, decide_eq_false hq.2] at e
   simp only [bne_self_eq_false, cond_false, Bool.not_true, Bool.or_false] at hc ⊢ e
   rw [e] at hc ⊢
   unfold chargeL at hc ⊢
   simp only at hc ⊢
   generalize placeU d ⟨user, account, 0, 0⟩ = p at *
   cases hf : ((decide (p < d.length)) && ((ByteArray.toList (d.getD p Usage.zero).user == ByteArray.toList user) && (ByteArray.toList (d.getD p Usage.zero).account == ByteArray.toList account))) with
   | true =>
    have hpl : p < d.length := by
     rw [Bool.and_eq_true] at hf
     exact of_decide_eq_true hf.1
    have hg : (d.getD p Usage.zero).sz := getD_sz h.2 (Usage.szz _)
    intro y hy
    simp only [cond_true] at hy
    rcases mem_at (b := y) hy with hy | rfl | hy
    ·exact h.2 y (List.mem_of_mem_take hy)
    ·exact ⟨hg.1, hg.2⟩
    ·exact h.2 y (List.mem_of_mem_drop hy)
   | false =>
    rw [hf] at hc
    cases hb : ((d.length : Int) == 200) with
    | true => rw [hb] at hc; cases hc
    | false =>
     intro y hy
     simp only [cond_false] at hy
     rcases mem_at (b := y) hy with hy | rfl | hy
     ·exact h.2 y (List.mem_of_mem_take hy)
     ·exact ⟨hu, ha⟩
     ·exact h.2 y (List.mem_of_mem_drop hy)
 ·unfold ledger_Charge at hc
  rw [h2] at hc
  cases hc
theorem fold_sz : ∀ (r : List Job) (d : List Usage), (∀ x ∈ r, x.sz) -> LedSz d -> LedSz (r.foldl chgL d)
 | [], _, _, h => h
 | x :: r, d, hr, h => by
  refine fold_sz r (chgL d x) (fun y hy => hr y (List.mem_cons_of_mem _ hy)) ?_
  have hx := hr x (List.mem_cons_self ..)
  unfold chgL
  cases x.state != 2 with
  | true => exact h
  | false =>
   cases hl : ((ledger_Charge d x.user x.account (nodeset_Count x.nodes)).2 == 0) with
   | true => exact charge_sz h hx.2.1 hx.2.2.1 hl
   | false => exact h
theorem decay_sz {d : List Usage} (h : LedSz d) : LedSz (ledger_Decay d) := by
 rcases (ledger_iff d).2 with hc | hc
 ·rw [decay_val hc]
  refine ⟨by rw [List.length_map]; exact h.1, fun y hy => ?_⟩
  obtain ⟨z, hz, rfl⟩ := List.mem_map.1 hy
  have := h.2 z hz
  exact ⟨this.1, this.2⟩
 ·unfold ledger_Decay
  rw [hc]
  exact ⟨Nat.zero_le _, fun y hy => (nomatch hy)⟩
theorem ticked_sz {s : State} (h : s.sz) : (ticked s).sz := by
 obtain ⟨h1, h2, h3, h4, h5, h6, h7⟩ := h
 have hl := fold_sz s.jobs s.ledger h3 ⟨h6, h7⟩
 refine ⟨h1, by show (s.jobs.map chgJ).length <= _; rw [List.length_map]; exact h2, fun y hy => ?_, h4, ?_, ?_⟩
 ·obtain ⟨z, hz, rfl⟩ := List.mem_map.1 hy
  exact chgJ_sz (h3 z hz)
 ·show (book_Past s.books (s.now + 1)).length <= _
  cases hb : (book_Check s.books != 0) with
  | true => unfold book_Past; rw [hb]; exact Nat.zero_le _
  | false => rw [past_val _ h5 (by simpa using hb)]; exact Nat.le_trans (List.length_filter_le _ _) h5
 ·show LedSz (bif ((Int.tmod (s.now + 1) 50) == 0) then ledger_Decay (s.jobs.foldl chgL s.ledger) else s.jobs.foldl chgL s.ledger)
  cases ((Int.tmod (s.now + 1) 50) == 0) with
  | true => exact decay_sz hl
  | false => exact hl
theorem clock_sz {s : State} (h : s.sz) : (nag_Clock s).1.sz := by
 cases hc : ((state_Check s) != 0) with
 | true => unfold nag_Clock; rw [hc]; exact State.szz _
 | false =>
  cases ht : (s.now == 1000000) with
  | true => unfold nag_Clock; rw [hc, ht]; exact State.szz _
  | false => rw [clock_val (by simpa using hc) ht]; exact ticked_sz h
theorem notes_in (s : State) : ∀ (l : List Node) (i : Nat), ∀ n ∈ notesL s l i, (i : Int) <= n.node ∧ n.node < (i : Int) + (l.length : Int)
 | [], _, n, h => (nomatch h)
 | x :: r, i, n, h => by
  have ih := notes_in s r (i + 1) n
  rw [notesL] at h
  cases ha : againB s x with
  | true =>
   rw [ha] at h
   rcases List.mem_cons.1 h with rfl | h
   ·show (i : Int) <= (i : Int) ∧ (i : Int) < _
    simp only [List.length_cons]
    omega
   ·have := ih h
    simp only [List.length_cons]
    omega
  | false =>
   rw [ha] at h
   have := ih h
   simp only [List.length_cons]
   omega
theorem sent_in {c : State} {i : Nat} (h : (i : Int) < (((nag_Resend c).2).length : Int)) : 0 <= (((nag_Resend c).2).getD i Note.zero).node ∧ (((nag_Resend c).2).getD i Note.zero).node < (c.nodes.length : Int) := by
 cases hc : ((state_Check c) != 0) with
 | true =>
  have e : (nag_Resend c).2 = [] := by unfold nag_Resend; rw [hc]; rfl
  rw [e] at h
  exact absurd h (by simp)
 | false =>
  have e : (nag_Resend c).2 = notesL c c.nodes 0 := by rw [(resend_val (by simpa using hc)).1]
  rw [e] at h ⊢
  have hi : i < (notesL c c.nodes 0).length := by omega
  have hm : (notesL c c.nodes 0).getD i Note.zero ∈ notesL c c.nodes 0 := by
   rw [List.getD_eq_getElem?_getD, List.getElem?_eq_getElem hi]
   exact List.getElem_mem hi
  have := notes_in c c.nodes 0 _ hm
  omega
theorem clock_nodes {s : State} (h : ((nag_Clock s).2 != 0) = false) : (nag_Clock s).1.nodes = s.nodes := by
 cases hc : ((state_Check s) != 0) with
 | true =>
  have e : (nag_Clock s).2 = state_Check s := by unfold nag_Clock; rw [hc]; rfl
  rw [e, hc] at h
  cases h
 | false =>
  cases ht : (s.now == 1000000) with
  | true =>
   have e : (nag_Clock s).2 = 153 := by unfold nag_Clock; rw [hc, ht]; rfl
   rw [e] at h
   cases h
  | false => rw [clock_val (by simpa using hc) ht]; rfl
end Go.Proofs.YtigcpfbpmnppcaaGreatDoor
namespace Go.Proofs.YtigcpfbpmnppcaaGreatDoor
set_option linter.unusedSimpArgs false
set_option linter.unusedVariables false
open Go.Fw
section
variable {α β γ : Type} [BEq α]
def mapV (g : β -> γ) (c : List (α × β)) : List (α × γ) := c.map fun p => (p.1, g p.2)
theorem setM_map (g : β -> γ) (k : α) (v : β) : ∀ c : List (α × β), setM k (g v) (mapV g c) = mapV g (setM k v c)
 | [] => rfl
 | p :: r => by
  have ih := setM_map g k v r
  unfold mapV at ih ⊢
  rw [List.map_cons, setM, setM]
  cases k == p.1 with
  | true => rfl
  | false => simp only [cond_false]; rw [ih]; rfl
theorem getM_map (g : β -> γ) (k : α) : ∀ c : List (α × β), getM k (mapV g c) = (getM k c).map g
 | [] => rfl
 | p :: r => by
  have ih := getM_map g k r
  unfold mapV at ih ⊢
  rw [List.map_cons, getM, getM]
  cases k == p.1 with
  | true => rfl
  | false => simp only [cond_false]; exact ih
end
structure SameN (f : Node -> Node) : Prop where
 state : ∀ x, (f x).state = x.state
 job : ∀ x, (f x).job = x.job
 want : ∀ x, (f x).want = x.want
structure SameJ (g : Job -> Job) : Prop where
 id : ∀ x, (g x).id = x.id
 state : ∀ x, (g x).state = x.state
 nodes : ∀ x, (g x).nodes = x.nodes
 shape : ∀ x, (g x).shape = x.shape
section
variable {f : Node -> Node} {g : Job -> Job}
theorem where_map (is : Node -> Bool) (his : ∀ x, is (f x) = is x) : ∀ (l : List Node) (out : List Int) (i : Nat), fleet_where_g1 is (l.map f) out i = fleet_where_g1 is l out i
 | [], _, _ => rfl
 | x :: r, out, i => by rw [List.map_cons, fleet_where_g1, fleet_where_g1, his, where_map is his r, where_map is his r]
theorem of_map (hf : SameN f) {l : List Node} (h : fleet_Check l = 0) (h' : fleet_Check (l.map f) = 0) (job st : Int) : fleet_Of (l.map f) job st = fleet_Of l job st := by
 unfold fleet_Of fleet_where
 rw [h, h']
 show fleet_where_k1 _ = fleet_where_k1 _
 rw [where_map _ (fun x => by rw [hf.state, hf.job])]
theorem held_map (hf : SameN f) {l : List Node} (h : fleet_Check l = 0) (h' : fleet_Check (l.map f) = 0) (job : Int) : alloc_Held (l.map f) job = alloc_Held l job := by
 unfold alloc_Held
 rw [of_map hf h h']
theorem swhere_map (is : Int -> Node -> Bool) (his : ∀ n x, is n (f x) = is n x) : ∀ (l : List Node) (out : List Int) (i : Nat), state_where_g1 is (l.map f) out i = state_where_g1 is l out i
 | [], _, _ => rfl
 | x :: r, out, i => by rw [List.map_cons, state_where_g1, state_where_g1, his, swhere_map is his r, swhere_map is his r]
theorem quiet_map (hf : SameN f) (l : List Node) : ∀ (r : List Int) (i : Nat), alloc_Quiet_g1 (l.map f) r i = alloc_Quiet_g1 l r i
 | [], _ => rfl
 | x :: r, i => by
  have e : ((decide (x < ((l.map f).length : Int))) && (((l.map f).getD (Int.toNat x) Node.zero).want == 0)) = ((decide (x < (l.length : Int))) && ((l.getD (Int.toNat x) Node.zero).want == 0)) := by
   rw [List.length_map]
   congr 1
   cases h : l[Int.toNat x]? with
   | none => simp [List.getD, h]
   | some y => simp [List.getD, h, hf.want]
  rw [alloc_Quiet_g1, alloc_Quiet_g1, e, quiet_map hf l r]
variable {s t : State}
theorem resize_map (hf : SameN f) (hg : SameJ g) (hn : t.nodes = s.nodes.map f) (h : fleet_Check s.nodes = 0) (h' : fleet_Check t.nodes = 0) (r : Resize) (j : Job) : state_resize t r (g j) = state_resize s r j := by
 rw [hn] at h'
 have k : ∀ c, state_resize_k1 t r (g j) c = state_resize_k1 s r j c := by
  intro c
  unfold state_resize_k1 state_where alloc_Quiet
  rw [hn, swhere_map _ (fun n x => by rw [hf.job, hf.want]), h, h', quiet_map hf, of_map hf h h', hg.nodes, hg.shape]
 unfold state_resize
 rw [k, k, hg.shape]
theorem nodes_map (hf : SameN f) (hg : SameJ g) (hnj : t.nextJob = s.nextJob) (c : List (Int × Job)) (all : List (Int × Resize)) : ∀ (l : List Node) (i : Nat), state_nodes_g1 t (mapV g c) all (l.map f) i = state_nodes_g1 s c all l i
 | [], _ => rfl
 | x :: r, i => by
  have e1 : (getM x.job (mapV g c)).isSome = (getM x.job c).isSome := by rw [getM_map]; cases getM x.job c <;> rfl
  have e2 : ((getM x.job (mapV g c)).getD Job.zero).nodes = ((getM x.job c).getD Job.zero).nodes := by
   rw [getM_map]
   cases getM x.job c with
   | none => rfl
   | some y => exact hg.nodes y
  rw [List.map_cons, state_nodes_g1, state_nodes_g1, hf.state, hf.job, hf.want, e1, e2, hnj, nodes_map hf hg hnj c all r]
theorem run_map (hg : SameJ g) : ∀ (l : List Job) (i : Nat) (c : List (Int × Job)), state_Check_g3 (l.map g) i (mapV g c) = mapV g (state_Check_g3 l i c)
 | [], _, _ => rfl
 | x :: r, i, c => by
  rw [List.map_cons, state_Check_g3, state_Check_g3, hg.state, hg.id, setM_map, run_map hg r, run_map hg r]
  cases (x.state == 2) <;> rfl
theorem last_map (hg : SameJ g) : ∀ (l : List Job) (d : Int) (i : Nat), state_Check_g1 (l.map g) d i = state_Check_g1 l d i
 | [], _, _ => rfl
 | x :: r, d, i => by rw [List.map_cons, state_Check_g1, state_Check_g1, hg.id, last_map hg r]
theorem next_le {n a b : Int} (h : b <= a) (hn : state_next n a = true) : state_next n b = true := by
 unfold state_next at *
 simp only [Bool.and_eq_true, decide_eq_true_eq] at *
 omega
theorem keep_go (hf : SameN f) (hg : SameJ g) (hn : t.nodes = s.nodes.map f) (hr : t.resizes = s.resizes) (hnj : t.nextJob = s.nextJob) (hnb : t.nextBook = s.nextBook)
  (h : fleet_Check s.nodes = 0) (h' : fleet_Check t.nodes = 0) (a b b' : Int) (hb : b' <= b) (c : List (Int × Job)) : ∀ (l : List Resize) (i : Nat) (c2 : List (Int × Resize)), state_Check_g4 s a b c l i c2 = 0 -> state_Check_g4 t a b' (mapV g c) l i c2 = 0
 | [], i, c2, h0 => by
  rw [state_Check_g4] at h0 ⊢
  have e1 : state_nodes t (mapV g c) c2 = state_nodes s c c2 := by
   unfold state_nodes
   rw [hn]
   exact nodes_map hf hg hnj c c2 s.nodes 0
  have e2 : (mapV g c).all (fun (en : Int × Job) => (bif ((alloc_Held t.nodes en.1) != en.2.nodes) then false else true)) = c.all (fun (en : Int × Job) => (bif ((alloc_Held s.nodes en.1) != en.2.nodes) then false else true)) := by
   unfold mapV
   rw [List.all_map]
   congr 1
   funext p
   show (bif ((alloc_Held t.nodes p.1) != (g p.2).nodes) then false else true) = _
   rw [hg.nodes, hn, held_map hf h (by rw [← hn]; exact h')]
  rw [hnj, hnb, e1, e2]
  cases h1 : state_next s.nextBook b with
  | false => rw [h1] at h0; simp at h0
  | true =>
   rw [h1] at h0
   rw [next_le hb h1]
   exact h0
 | x :: r, i, c2, h0 => by
  rw [state_Check_g4] at h0 ⊢
  have e1 : (getM x.job (mapV g c)).isSome = (getM x.job c).isSome := by rw [getM_map]; cases getM x.job c <;> rfl
  rw [hr, e1]
  cases hx : getM x.job c with
  | none => rw [hx] at h0; cases h0
  | some j =>
   have e2 : (getM x.job (mapV g c)).getD Job.zero = g j := by rw [getM_map, hx]; rfl
   rw [hx] at h0
   rw [e2, resize_map hf hg hn h h']
   simp only [Option.getD_some] at h0
   cases hc : (((!(some j).isSome) || ((decide ((i : Int) > 0)) && (decide ((s.resizes.getD (Int.toNat (w64 ((i : Int) - 1))) Resize.zero).job >= x.job)))) || (!(state_resize s x j))) with
   | true => rw [hc] at h0; cases h0
   | false =>
    rw [hc] at h0
    exact keep_go hf hg hn hr hnj hnb h h' a b b' hb c r (i + 1) _ h0
theorem keep_check (hf : SameN f) (hg : SameJ g) (hn : t.nodes = s.nodes.map f) (hj : t.jobs = s.jobs.map g) (hr : t.resizes = s.resizes) (hnj : t.nextJob = s.nextJob) (hnb : t.nextBook = s.nextBook)
  (hb : state_Check_g2 t.books 0 0 <= state_Check_g2 s.books 0 0) (hs : fleet_Check s.nodes = 0) (ht : fleet_Check t.nodes = 0) (hp : plan_Check t = 0) (h : state_Check s = 0) : state_Check t = 0 := by
 unfold state_Check at h ⊢
 rw [hp]
 cases hps : (plan_Check s != 0) with
 | true => rw [hps] at h; cases h
 | false =>
  rw [hps] at h
  have h : state_Check_g4 s (state_Check_g1 s.jobs 0 0) (state_Check_g2 s.books 0 0) (state_Check_g3 s.jobs 0 []) s.resizes 0 [] = 0 := h
  have e3 := run_map hg s.jobs 0 []
  show state_Check_g4 t (state_Check_g1 t.jobs 0 0) (state_Check_g2 t.books 0 0) (state_Check_g3 t.jobs 0 []) t.resizes 0 [] = 0
  rw [hj, last_map hg, show state_Check_g3 (s.jobs.map g) 0 [] = mapV g (state_Check_g3 s.jobs 0 []) from e3, hr]
  exact keep_go hf hg hn hr hnj hnb hs ht _ _ _ hb _ _ _ _ h
theorem table_map_go (hg : SameJ g) (L : List Job) (hc : ∀ x, job_Check x = 0 -> job_Check (g x) = 0) : ∀ (r : List Job) (i : Nat), table_Check_g1 L r i = 0 -> table_Check_g1 (L.map g) (r.map g) i = 0
 | [], _, _ => rfl
 | x :: r, i, h => by
  rw [table_Check_g1] at h
  rw [List.map_cons, table_Check_g1]
  have e : ∀ k, ((L.map g).getD k Job.zero).id = (L.getD k Job.zero).id := fun k => by
   cases hk : L[k]? with
   | none => simp [List.getD, hk]
   | some y => simp [List.getD, hk, hg.id]
  rw [e, hg.id]
  cases h1 : (job_Check x != 0) with
  | true => rw [h1] at h; cases h
  | false =>
   rw [h1] at h
   rw [hc x (by simpa using h1)]
   show (bif ((decide ((i : Int) > 0)) && (decide ((L.getD (Int.toNat (w64 ((i : Int) - 1))) Job.zero).id >= x.id))) then (140 : Int) else table_Check_g1 (L.map g) (r.map g) (i + 1)) = 0
   rw [Bool.false_or] at h
   cases h2 : ((decide ((i : Int) > 0)) && (decide ((L.getD (Int.toNat (w64 ((i : Int) - 1))) Job.zero).id >= x.id))) with
   | true => rw [h2] at h; cases h
   | false => rw [h2] at h; exact table_map_go hg L hc r (i + 1) h
theorem table_map (hg : SameJ g) {l : List Job} (hc : ∀ x, job_Check x = 0 -> job_Check (g x) = 0) (h : table_Check l = 0) : table_Check (l.map g) = 0 := by
 unfold table_Check at h ⊢
 rw [List.length_map]
 cases h1 : (decide ((l.length : Int) > 40)) with
 | true => rw [h1] at h; cases h
 | false => rw [h1] at h; exact table_map_go hg l hc l 0 h
end
theorem book_rows (l : List Book) (hn : l.length <= 8) : ∀ (r : List Book) (i : Nat), r = l.drop i -> i + r.length = l.length ->
  (book_Check_g1 l r i = 0 ↔ (∀ x ∈ r, book_fine x = true) ∧ r.Pairwise (fun a b => a.id < b.id) ∧ (∀ y, 0 < i -> l[i - 1]? = some y -> ∀ x ∈ r, y.id < x.id))
 | [], i, _, _ => ⟨fun _ => ⟨fun x hx => (nomatch hx), .nil, fun _ _ _ x hx => (nomatch hx)⟩, fun _ => rfl⟩
 | x :: r, i, hr, hlen => by
  simp only [List.length_cons] at hlen
  have hi : l[i]? = some x := by
   have := congrArg (fun q => q[0]?) hr
   simpa [List.getElem?_drop] using this.symm
  have hr' : r = l.drop (i + 1) := by rw [← List.drop_drop, ← hr]; rfl
  have ih := book_rows l hn r (i + 1) hr' (by omega)
  have tail : (book_Check_g1 l r (i + 1) = 0 ↔ (∀ z ∈ r, book_fine z = true) ∧ r.Pairwise (fun a b => a.id < b.id) ∧ ∀ z ∈ r, x.id < z.id) := by
   rw [ih]
   exact ⟨fun h => ⟨h.1, h.2.1, h.2.2 x (by omega) hi⟩, fun h => ⟨h.1, h.2.1, fun y _ hy => by rw [show i + 1 - 1 = i by omega, hi] at hy; cases hy; exact h.2.2⟩⟩
  rw [book_Check_g1, w6 (n := (i : Int) - 1) (by omega), show Int.toNat ((i : Int) - 1) = i - 1 by omega]
  cases hok : book_fine x with
  | false =>
   refine ⟨fun h => (nomatch h), fun h => ?_⟩
   have := h.1 x (List.mem_cons_self ..)
   rw [hok] at this
   cases this
  | true =>
   have iff1 : ((∀ z ∈ x :: r, book_fine z = true) ∧ (x :: r).Pairwise (fun a b => a.id < b.id) ∧ (∀ y, 0 < i -> l[i - 1]? = some y -> ∀ z ∈ x :: r, y.id < z.id)) ↔ ((∀ y, 0 < i -> l[i - 1]? = some y -> y.id < x.id) ∧ book_Check_g1 l r (i + 1) = 0) := by
    rw [tail]
    constructor
    ·rintro ⟨h1, h2, h3⟩
     exact ⟨fun y h0 hy => h3 y h0 hy x (List.mem_cons_self ..), fun z hz => h1 z (List.mem_cons_of_mem _ hz), (List.pairwise_cons.1 h2).2, (List.pairwise_cons.1 h2).1⟩
    ·rintro ⟨h0, h1, h2, h3⟩
     refine ⟨fun z hz => ?_, List.pairwise_cons.2 ⟨h3, h2⟩, fun y hy0 hy z hz => ?_⟩
     ·rcases List.mem_cons.1 hz with rfl | hz
      ·exact hok
      ·exact h1 z hz
     ·have := h0 y hy0 hy
      rcases List.mem_cons.1 hz with rfl | hz
      ·exact this
      ·exact Int.lt_trans this (h3 z hz)
   rw [iff1]
   rcases Nat.eq_zero_or_pos i with h0 | h0
   ·subst h0
    exact ⟨fun h => ⟨fun y hy => absurd hy (by omega), h⟩, fun h => h.2⟩
   ·obtain ⟨y, hy⟩ : ∃ y, l[i - 1]? = some y := ⟨_, List.getElem?_eq_getElem (by omega)⟩
    have hg : l.getD (i - 1) Book.zero = y := by simp [List.getD, hy]
    rw [hg, decide_eq_true (show (i : Int) > 0 by omega)]
    cases ha : decide (y.id >= x.id) with
    | true =>
     have := of_decide_eq_true ha
     exact ⟨fun h => (nomatch h), fun h => absurd (h.1 y h0 hy) (by omega)⟩
    | false =>
     have := of_decide_eq_false ha
     exact ⟨fun h => ⟨fun z _ hz => by rw [hy] at hz; cases hz; omega, h⟩, fun h => h.2⟩
theorem book_iff (l : List Book) : book_Check l = 0 ↔ l.length <= 8 ∧ (∀ x ∈ l, book_fine x = true) ∧ l.Pairwise (fun a b => a.id < b.id) := by
 unfold book_Check
 cases h : decide ((l.length : Int) > 8) with
 | true =>
  have h' := of_decide_eq_true h
  exact ⟨fun q => (nomatch q), fun q => absurd q.1 (by omega)⟩
 | false =>
  have h' := of_decide_eq_false h
  have a := book_rows l (by omega) l 0 rfl (by omega)
  show book_Check_g1 l l 0 = 0 ↔ _
  rw [a]
  exact ⟨fun q => ⟨by omega, q.1, q.2.1⟩, fun q => ⟨q.2.1, q.2.2, fun y hy => absurd hy (by omega)⟩⟩
theorem book_filter {l : List Book} (p : Book -> Bool) (h : book_Check l = 0) : book_Check (l.filter p) = 0 := by
 obtain ⟨h1, h2, h3⟩ := (book_iff l).1 h
 exact (book_iff _).2 ⟨Nat.le_trans (List.length_filter_le _ _) h1, fun x hx => h2 x (List.mem_filter.1 hx).1, h3.filter _⟩
theorem last_ge : ∀ (l : List Book) (d : Int) (i : Nat), l.Pairwise (fun a b => a.id < b.id) -> (∀ x ∈ l, d <= x.id) -> d <= state_Check_g2 l d i ∧ ∀ x ∈ l, x.id <= state_Check_g2 l d i
 | [], d, _, _, _ => ⟨Int.le_refl _, fun x hx => (nomatch hx)⟩
 | x :: r, d, i, hp, hd => by
  obtain ⟨p1, p2⟩ := List.pairwise_cons.1 hp
  obtain ⟨a, b⟩ := last_ge r x.id (i + 1) p2 fun y hy => Int.le_of_lt (p1 y hy)
  have hx := hd x (List.mem_cons_self ..)
  rw [state_Check_g2]
  refine ⟨Int.le_trans hx a, fun y hy => ?_⟩
  rcases List.mem_cons.1 hy with rfl | hy
  ·exact a
  ·exact b y hy
theorem last_in : ∀ (l : List Book) (d : Int) (i : Nat), state_Check_g2 l d i = d ∨ ∃ x ∈ l, state_Check_g2 l d i = x.id
 | [], _, _ => .inl rfl
 | x :: r, d, i => by
  rw [state_Check_g2]
  rcases last_in r x.id (i + 1) with h | ⟨y, hy, h⟩
  ·exact .inr ⟨x, List.mem_cons_self .., h⟩
  ·exact .inr ⟨y, List.mem_cons_of_mem _ hy, h⟩
theorem last_filter {l : List Book} (p : Book -> Bool) (h : book_Check l = 0) : state_Check_g2 (l.filter p) 0 0 <= state_Check_g2 l 0 0 := by
 obtain ⟨_, h2, h3⟩ := (book_iff l).1 h
 have hpos : ∀ x ∈ l, 0 <= x.id := fun x hx => by
  have := h2 x hx
  unfold book_fine at this
  simp only [Bool.and_eq_true, decide_eq_true_eq] at this
  omega
 obtain ⟨a, b⟩ := last_ge l 0 0 h3 hpos
 rcases last_in (l.filter p) 0 0 with e | ⟨x, hx, e⟩
 ·rw [e]; exact a
 ·rw [e]; exact b x (List.mem_filter.1 hx).1
theorem plan_iff (s : State) : plan_Check s = 0 ↔ (0 <= s.now ∧ s.now <= 1000000) ∧ fleet_Check s.nodes = 0 ∧ table_Check s.jobs = 0 ∧ book_Check s.books = 0 ∧ ledger_Check s.ledger = 0 := by
 have e : ∀ x : Int, x = 0 ↔ (x != 0) = false := fun x => by simp
 have key : ∀ (p q : Bool) (a b c d : Int), ((bif (((bif (((((p) || (q)) || (a != 0)) || (b != 0)) || (c != 0)) then (141 : Int) else 0) != 0) || (d != 0)) then (141 : Int) else 0) = 0) ↔ (p = false ∧ q = false) ∧ a = 0 ∧ b = 0 ∧ c = 0 ∧ d = 0 := by
  intro p q a b c d
  rw [e a, e b, e c, e d]
  generalize (a != 0) = a'; generalize (b != 0) = b'; generalize (c != 0) = c'; generalize (d != 0) = d'
  revert p q a' b' c' d'
  decide
 unfold plan_Check room_Check
 rw [key]
 simp only [decide_eq_false_iff_not]
 exact ⟨fun h => ⟨by omega, h.2⟩, fun h => ⟨by omega, h.2⟩⟩
end Go.Proofs.YtigcpfbpmnppcaaGreatDoor
namespace Go.Proofs.YtigcpfbpmnppcaaGreatDoor
set_option linter.unusedSimpArgs false
set_option linter.unusedVariables false
open Go.Fw
theorem charge_ok {d : List Usage} {user account : ByteArray} {n : Int} (h0 : ledger_Check d = 0) (hc : ((ledger_Charge d user account n).2 == 0) = true) :
  ledger_name user = true ∧ ledger_name account = true ∧ 0 <= n ∧ ledger_Charge d user account n = chargeL d user account n := by
 have key : (((!(ledger_name user)) || (!(ledger_name account))) || (decide (n < 0))) = false := by
  cases hq : (((!(ledger_name user)) || (!(ledger_name account))) || (decide (n < 0))) with
  | false => rfl
  | true =>
   unfold ledger_Charge at hc
   rw [h0, hq] at hc
   cases hc
 simp only [Bool.or_eq_false_iff, Bool.not_eq_false', decide_eq_false_iff_not] at key
 exact ⟨key.1.1, key.1.2, by omega, charge_val h0 key.1.1 key.1.2 (by omega)⟩
theorem getD_mem {α : Type} (d : α) {l : List α} {k : Nat} (h : k < l.length) : l.getD k d ∈ l := by
 rw [List.getD_eq_getElem?_getD, List.getElem?_eq_getElem h]
 exact List.getElem_mem h
theorem ok_parts {x : Usage} (h : okU x = true) : ledger_name x.user = true ∧ ledger_name x.account = true ∧ (0 <= x.used ∧ x.used <= 1000000000000) ∧ 0 <= x.share ∧ x.share <= x.used := by
 unfold okU at h
 simp only [Bool.not_eq_true', Bool.or_eq_false_iff, Bool.not_eq_false', bne_eq_false_iff_eq, decide_eq_false_iff_not] at h
 have hu : x.used = ref01_Usage x.used := h.1.1.2
 have := use_in x.used
 exact ⟨h.1.1.1.1, h.1.1.1.2, by omega, by omega, by omega⟩
theorem ok_whole {x : Usage} (h1 : ledger_name x.user = true) (h2 : ledger_name x.account = true) (h3 : 0 <= x.used ∧ x.used <= 1000000000000) (h4 : 0 <= x.share) (h5 : x.share <= x.used) : okU x = true := by
 unfold okU
 have e : (x.used != (sat_Usage x.used)) = false := by
  rw [bne_eq_false_iff_eq]
  exact (use_id h3).symm
 rw [h1, h2, e, decide_eq_false (by omega), decide_eq_false (by omega)]
 rfl
theorem okU_charged {u a : ByteArray} {p q n : Int} (h1 : ledger_name u = true) (h2 : ledger_name a = true) (hp : 0 <= p ∧ p <= 1000000000000) (hq : 0 <= q ∧ q <= p) : okU ⟨u, a, sat_Plus [p, n], sat_Plus [q, n]⟩ = true := by
 have hn := use_in n
 have e1 := plus_sat p n
 have e2 := plus_sat q n
 rw [use_id hp] at e1
 rw [use_id (n := q) (by omega)] at e2
 refine ok_whole h1 h2 ?_ ?_ ?_
 ·show 0 <= sat_Plus [p, n] ∧ sat_Plus [p, n] <= 1000000000000
  omega
 ·show 0 <= sat_Plus [q, n]
  omega
 ·show sat_Plus [q, n] <= sat_Plus [p, n]
  omega
theorem ahead_keys {a a' b b' : Usage} (h1 : a.user = a'.user) (h2 : a.account = a'.account) (h3 : b.user = b'.user) (h4 : b.account = b'.account) : ref17_ahead a b = ref17_ahead a' b' := by
 unfold ref17_ahead
 rw [h1, h2, h3, h4]
theorem split_at (l : List Usage) (p : Nat) (h : p < l.length) : l = l.take p ++ l.getD p Usage.zero :: l.drop (p + 1) := by
 have : l.drop p = l.getD p Usage.zero :: l.drop (p + 1) := by
  rw [List.drop_eq_getElem_cons h]
  simp [List.getD, h]
 rw [← this, List.take_append_drop]
theorem pair_keys {p q : List Usage} {x y : Usage} (hu : x.user = y.user) (ha : x.account = y.account) (h : (p ++ x :: q).Pairwise aheadP) : (p ++ y :: q).Pairwise aheadP := by
 rw [List.pairwise_append, List.pairwise_cons] at h ⊢
 obtain ⟨h1, ⟨h2, h3⟩, h4⟩ := h
 refine ⟨h1, ⟨fun z hz => ?_, h3⟩, fun z hz w hw => ?_⟩
 ·have := h2 z hz
  unfold aheadP at this ⊢
  rw [← ahead_keys hu ha rfl rfl]
  exact this
 ·rcases List.mem_cons.1 hw with rfl | hw
  ·have := h4 z hz x (List.mem_cons_self ..)
   unfold aheadP at this ⊢
   rw [← ahead_keys rfl rfl hu ha]
   exact this
  ·exact h4 z hz w (List.mem_cons_of_mem _ hw)
theorem pair_put {l : List Usage} {t : Usage} (h : l.Pairwise aheadP) (hne : placeU l t < l.length -> ¬ ((l.getD (placeU l t) Usage.zero).user = t.user ∧ (l.getD (placeU l t) Usage.zero).account = t.account)) : (l.take (placeU l t) ++ t :: l.drop (placeU l t)).Pairwise aheadP := by
 have hm := place_mono t l h
 generalize placeU l t = p at *
 have hlt : ∀ z ∈ l.take p, aheadP z t := fun z hz => by
  obtain ⟨k, hk, rfl⟩ := List.getElem_of_mem hz
  have hk' : k < p ∧ k < l.length := by simp at hk; omega
  have := hm k l[k] (List.getElem?_eq_getElem hk'.2)
  rw [decide_eq_true hk'.1] at this
  rw [List.getElem_take]
  exact this
 have hgt : ∀ w ∈ l.drop p, aheadP t w := fun w hw => by
  obtain ⟨k, hk, rfl⟩ := List.getElem_of_mem hw
  have hk' : p + k < l.length := by simp at hk; omega
  have hp : p < l.length := by omega
  have first : aheadP t (l.getD p Usage.zero) := by
   have hx := hm p _ (getD_some Usage.zero hp)
   rw [decide_eq_false (Nat.lt_irrefl p)] at hx
   unfold aheadP
   cases ha : ref17_ahead t (l.getD p Usage.zero) with
   | true => rfl
   | false => exact absurd (ahead_tri hx ha) (hne hp)
  rw [List.getElem_drop]
  rcases Nat.eq_zero_or_pos k with h0 | h0
  ·subst h0
   have e : l[p + 0] = l.getD p Usage.zero := by simp [List.getD, hp]
   rw [e]
   exact first
  ·have hs := List.pairwise_iff_getElem.1 h p (p + k) hp hk' (by omega)
   have e : l[p] = l.getD p Usage.zero := by simp [List.getD, hp]
   rw [e] at hs
   exact ahead_trans first hs
 have hs := h
 rw [← List.take_append_drop p l, List.pairwise_append] at hs
 rw [List.pairwise_append, List.pairwise_cons]
 refine ⟨hs.1, ⟨hgt, hs.2.1⟩, fun z hz w hw => ?_⟩
 rcases List.mem_cons.1 hw with rfl | hw
 ·exact hlt z hz
 ·exact hs.2.2 z hz w hw
theorem keys_iff (x : Usage) (user account : ByteArray) : ((ByteArray.toList x.user == ByteArray.toList user) && (ByteArray.toList x.account == ByteArray.toList account)) = true ↔ x.user = user ∧ x.account = account := by
 rw [Bool.and_eq_true, bytes_inj, bytes_inj]
theorem chargeL_keeps {d : List Usage} {user account : ByteArray} {n : Int} (h0 : ledger_Check d = 0) (hu : ledger_name user = true) (ha : ledger_name account = true) (hc : (chargeL d user account n).2 = 0) : ledger_Check (chargeL d user account n).1 = 0 := by
 obtain ⟨h1, h2, h3⟩ := (ledger_iff d).1.1 h0
 refine (ledger_iff _).1.2 ?_
 have hpl := place_le d ⟨user, account, 0, 0⟩
 have hput := pair_put (t := ⟨user, account, 0, 0⟩) h3
 unfold chargeL at hc ⊢
 simp only at hc ⊢
 generalize placeU d ⟨user, account, 0, 0⟩ = p at *
 cases hf : ((decide (p < d.length)) && ((ByteArray.toList (d.getD p Usage.zero).user == ByteArray.toList user) && (ByteArray.toList (d.getD p Usage.zero).account == ByteArray.toList account))) with
 | true =>
  rw [Bool.and_eq_true] at hf
  have hp := of_decide_eq_true hf.1
  have hs := split_at d p hp
  have hx : okU (d.getD p Usage.zero) = true := h2 _ (getD_mem Usage.zero hp)
  obtain ⟨q1, q2, q3, q4, q5⟩ := ok_parts hx
  simp only [cond_true]
  refine ⟨by simp; omega, fun y hy => ?_, pair_keys (x := d.getD p Usage.zero) rfl rfl (by rw [← hs]; exact h3)⟩
  rcases List.mem_append.1 hy with hy | hy
  ·exact h2 y (List.mem_of_mem_take hy)
  ·rcases List.mem_cons.1 hy with rfl | hy
   ·exact okU_charged q1 q2 q3 ⟨q4, q5⟩
   ·exact h2 y (List.mem_of_mem_drop hy)
 | false =>
  rw [hf] at hc
  cases hb : ((d.length : Int) == 200) with
  | true => rw [hb] at hc; cases hc
  | false =>
   have hb' : ¬ (d.length : Int) = 200 := by simpa using hb
   simp only [cond_false]
   refine ⟨by simp; omega, fun y hy => ?_, pair_keys (x := ⟨user, account, 0, 0⟩) rfl rfl (hput fun hp => ?_)⟩
   ·rcases List.mem_append.1 hy with hy | hy
    ·exact h2 y (List.mem_of_mem_take hy)
    ·rcases List.mem_cons.1 hy with rfl | hy
     ·exact okU_charged hu ha (by omega) (by omega)
     ·exact h2 y (List.mem_of_mem_drop hy)
   ·rw [decide_eq_true hp, Bool.true_and] at hf
    intro hk
    rw [(keys_iff _ _ _).2 hk] at hf
    cases hf
theorem chgL_keeps {d : List Usage} (x : Job) (h : ledger_Check d = 0) : ledger_Check (chgL d x) = 0 := by
 unfold chgL
 cases x.state != 2 with
 | true => exact h
 | false =>
  cases hl : ((ledger_Charge d x.user x.account (nodeset_Count x.nodes)).2 == 0) with
  | true =>
   obtain ⟨q1, q2, _, q4⟩ := charge_ok h hl
   rw [q4] at hl
   simp only [cond_false, cond_true]
   rw [q4]
   exact chargeL_keeps h q1 q2 (by simpa using hl)
  | false => exact h
theorem fold_keeps : ∀ (r : List Job) (d : List Usage), ledger_Check d = 0 -> ledger_Check (r.foldl chgL d) = 0
 | [], _, h => h
 | x :: r, d, h => fold_keeps r (chgL d x) (chgL_keeps x h)
theorem decay_keeps {d : List Usage} (h : ledger_Check d = 0) : ledger_Check (ledger_Decay d) = 0 := by
 rw [decay_val h]
 obtain ⟨h1, h2, h3⟩ := (ledger_iff d).1.1 h
 refine (ledger_iff _).1.2 ⟨by rw [List.length_map]; exact h1, fun y hy => ?_, ?_⟩
 ·obtain ⟨z, hz, rfl⟩ := List.mem_map.1 hy
  obtain ⟨q1, q2, q3, q4, q5⟩ := ok_parts (h2 z hz)
  have := half_le (n := z.share) (by omega)
  exact ok_whole q1 q2 q3 this.1 (by show sat_Half z.share <= z.used; omega)
 ·rw [List.pairwise_map]
  exact h3
theorem used_check {x : Job} {u : Int} (h : job_Check x = 0) (hu : 0 <= u ∧ u <= 1000000000000) : job_Check { x with used := u } = 0 := by
 unfold job_Check at h ⊢
 have e : (({ x with used := u } : Job).used != (sat_Usage ({ x with used := u } : Job).used)) = false := by
  rw [bne_eq_false_iff_eq]
  exact (use_id hu).symm
 rw [e]
 cases hq : (x.used != (sat_Usage x.used)) with
 | true => rw [hq] at h; simp at h
 | false => rw [hq] at h; exact h
def gJ (x : Job) : Job := { x with used := bif x.state != 2 then x.used else sat_Plus [x.used, nodeset_Count x.nodes] }
theorem gJ_same : SameJ gJ := ⟨fun _ => rfl, fun _ => rfl, fun _ => rfl, fun _ => rfl⟩
theorem chgJ_gJ {x : Job} (h : job_Check x = 0) : chgJ x = gJ x := by
 unfold chgJ gJ
 cases hs : x.state != 2 with
 | true => cases x; rfl
 | false => simp only [cond_false]; rw [jcharge_ok h (by simpa using hs)]
theorem used_in {x : Job} (h : job_Check x = 0) : 0 <= x.used ∧ x.used <= 1000000000000 := by
 unfold job_Check at h
 cases hq : (x.used != (sat_Usage x.used)) with
 | true => rw [hq] at h; simp at h
 | false =>
  have e : x.used = sat_Usage x.used := by simpa using hq
  rw [e]
  exact use_in _
theorem plus_in (a n : Int) : 0 <= sat_Plus [a, n] ∧ sat_Plus [a, n] <= 1000000000000 := by
 have := use_in a
 have := use_in n
 rw [plus_sat]
 omega
theorem gJ_check (x : Job) (h : job_Check x = 0) : job_Check (gJ x) = 0 := by
 refine used_check h ?_
 cases x.state != 2 with
 | true => exact used_in h
 | false => exact plus_in _ _
section
variable {s : State}
theorem ticked_jobs (h0 : state_Check s = 0) : (ticked s).jobs = s.jobs.map gJ := by
 obtain ⟨hp, _⟩ := check_parts h0
 obtain ⟨_, hjc, _⟩ := table_parts (plan_Check_parts hp).2
 exact List.map_congr_left fun x hx => chgJ_gJ (hjc x hx)
theorem clock_keeps (h0 : state_Check s = 0) (ht : (s.now == 1000000) = false) : state_Check (ticked s) = 0 := by
 obtain ⟨hp, _⟩ := check_parts h0
 obtain ⟨p1, p2, p3, p4, p5⟩ := (plan_iff s).1 hp
 have hb := (book_iff s.books).1 p4
 have hbk : (ticked s).books = s.books.filter (keepB (s.now + 1)) := past_val _ (by omega) p4
 have hnow : ¬ s.now = 1000000 := by simpa using ht
 have hl := fold_keeps s.jobs s.ledger p5
 have hpt : plan_Check (ticked s) = 0 := (plan_iff _).2 ⟨by show 0 <= s.now + 1 ∧ s.now + 1 <= 1000000; omega, p2, by rw [ticked_jobs h0]; exact table_map gJ_same gJ_check p3, by rw [hbk]; exact book_filter _ p4, by
  show ledger_Check (bif ((Int.tmod (s.now + 1) 50) == 0) then ledger_Decay (s.jobs.foldl chgL s.ledger) else s.jobs.foldl chgL s.ledger) = 0
  cases ((Int.tmod (s.now + 1) 50) == 0) with
  | true => exact decay_keeps hl
  | false => exact hl⟩
 exact keep_check (f := id) (g := gJ) ⟨fun _ => rfl, fun _ => rfl, fun _ => rfl⟩ gJ_same (by rw [List.map_id]; rfl) (ticked_jobs h0) rfl rfl rfl (by rw [hbk]; exact last_filter _ p4) p2 p2 hpt h0
theorem upd_same (s : State) : SameN (upd s) := by
 refine ⟨fun x => ?_, fun x => ?_, fun x => ?_⟩ <;> (unfold upd; cases againB s x <;> rfl)
theorem resend_keeps (h0 : state_Check s = 0) : state_Check ({ s with nodes := s.nodes.map (upd s) } : State) = 0 := by
 obtain ⟨hp, _⟩ := check_parts h0
 obtain ⟨p1, p2, p3, p4, p5⟩ := (plan_iff s).1 hp
 have hF := (resend_val h0).2
 exact keep_check (f := upd s) (g := id) (upd_same s) ⟨fun _ => rfl, fun _ => rfl, fun _ => rfl, fun _ => rfl⟩ rfl (by rw [List.map_id]) rfl rfl rfl (Int.le_refl _) p2 hF ((plan_iff _).2 ⟨p1, hF, p3, p4, p5⟩) h0
end
end Go.Proofs.YtigcpfbpmnppcaaGreatDoor
namespace Go.Proofs.YtigcpfbpmnppcaaGreatDoor
set_option linter.unusedSimpArgs false
set_option linter.unusedVariables false
open Go.Fw
set_option maxRecDepth 20000
set_option maxHeartbeats 4000000
attribute [local irreducible] ACalls AMoves
def law27_NagOften_g1  : List Node -> List Int -> Nat -> (List Int) × Nat
 | [], last, i => (last, i)
 | x_ :: r, last, i => law27_NagOften_g1 r (last ++ ([x_.asked] : List Int)) (i + 1)
def law27_NagOften_g3 (c : State) : Nat -> Nat -> List Int -> Sum (Bool) (Nat × (List Int))
 | 0, _, _ => Sum.inr (0, [])
 | m + 1, i1, c3 => bif (decide ((i1 : Int) < (((nag_Resend c).2).length : Int))) then bif (((((decide ((((nag_Resend c).2).getD i1 Note.zero).node < 0)) || (decide ((((nag_Resend c).2).getD i1 Note.zero).node >= (c3.length : Int)))) || (decide ((w64 (c.now - (c3.getD (Int.toNat ((((nag_Resend c).2).getD i1 Note.zero).node)) 0))) < 3))) || ((((nag_Resend c).1.nodes).getD (Int.toNat ((((nag_Resend c).2).getD i1 Note.zero).node)) Node.zero).state == 0)) || ((((nag_Resend c).1.nodes).getD (Int.toNat ((((nag_Resend c).2).getD i1 Note.zero).node)) Node.zero).epoch != (((nag_Resend c).2).getD i1 Note.zero).epoch)) then Sum.inl false else law27_NagOften_g3 c m (i1 + 1) (c3.set (Int.toNat ((((nag_Resend c).2).getD i1 Note.zero).node)) c.now) else Sum.inr (i1, c3)
def law27_NagOften_g2 (ticks : Int) : Nat -> Nat -> State -> List Int -> Bool
 | 0, _, _, _ => false
 | m + 1, k, c, c2 => bif (decide ((k : Int) < ticks)) then bif ((((nag_Resend c).1.nodes).length : Int) != (c.nodes.length : Int)) then false else (Sum.elim id (fun p1 : Nat × (List Int) => bif ((decide ((((nag_Resend ((nag_Resend c).1)).2).length : Int) > 0)) || (!(state_Same ((nag_Resend ((nag_Resend c).1)).1) ((nag_Resend c).1)))) then false else bif ((nag_Clock ((nag_Resend c).1)).2 != 0) then (((nag_Clock ((nag_Resend c).1)).2 == 153) && law27_awake) else law27_NagOften_g2 ticks m (k + 1) ((nag_Clock ((nag_Resend c).1)).1) p1.2)) (law27_NagOften_g3 c ((Int.toNat ((((nag_Resend c).2).length : Int) - (0 : Int))) + 1) 0 c2) else law27_awake
def law27_NagOften_k1 (s : State) (ticks : Int) (last : List Int) (i : Nat) : Bool := law27_NagOften_g2 ticks ((Int.toNat (ticks - (0 : Int))) + 1) 0 s last
def law27_NagOften (s : State) (ticks : Int) : Bool := bif ((((!(law20_Few s)) || ((state_Check s) != 0)) || (decide (ticks < 0))) || (decide (ticks > 8))) then law27_awake else law27_NagOften_k1 s ticks ((law27_NagOften_g1 s.nodes [] 0).1) ((law27_NagOften_g1 s.nodes [] 0).2)
theorem law27_NagOften_c (s : State) (ticks : Int) (hs0 : s.szM) : ∀ objs, AGives Tryz.prog 6 [State.a s, I ticks] objs (Bo (law27_NagOften s ticks)) := by
 generalize hR : law27_NagOften s ticks = R; refine ga (.cons (State.low _ _) (l1 .nil)) lx (kp 16 [31, 37, 51, 65, 69, 117, 136, 143]) Tryz.func6 ?_; have hk0 := hs0; obtain ⟨z17, z18, z19, z20, z21, z22, z23⟩ := hs0; refine us (law20_Few_c s (by first | (exact law20_Few_sz (by have q := hg; simpa using q)) | first | (exact hx.1) | first | (exact (resend_sz hy.1).1) | first | (exact (resend_sz (resend_sz hy.1).1).1) | exact szA) _) ?_; (first | apply u3g | apply u4g); exact fun hg => state_Check_c s (by first | (exact law20_Few_sz (by have q := hg; simpa using q)) | first | (exact hx.1) | first | (exact (resend_sz hy.1).1) | first | (exact (resend_sz (resend_sz hy.1).1).1) | exact szA) _; refine ai (fun h1 => ?_) (fun h2 => ?_)
 ·refine us (law27_awake_c _) ?_; obtain rfl := foll hR (ct h1 rfl); exact ret_seen lx sr
 ·refine loop_start2 (fun (last : List Int) (i : Nat) => law27_NagOften_k1 s ticks (law27_NagOften_g1 (List.drop i s.nodes) last i).1 (law27_NagOften_g1 (List.drop i s.nodes) last i).2 = R ∧ i <= s.nodes.length ∧ last.length = i ∧ last.length <= i) (fun last i => s.nodes.length - i) (fun last i => [(1, I ticks), (2, AVal.ptr 0 0 8 0 0), (4, Bo false), (5, AVal.own 1 0 1 0 last.length), (6, I (i : Int))]) (fun last i => [(0, AObj.row 28 8 [[I s.now, nodeL s.nodes, jobL s.jobs, resizeL s.resizes, bookL s.books, usageL s.ledger, I s.nextJob, I s.nextBook]]), (0, AObj.row 3 1 (last.map (fun q_ => [I q_])))]) [] 0 ((weaker_none 3 1).trans (wk [0, 1] (tO rfl (ts State.lo) (tO rfl (tl eqA) .nil)) (s1 (sv (turn_ptr 0 rfl rfl) (s1 (sv (turn_nilown 1 rfl) (s1 .nil))))))) ⟨foll hR (cf h2 rfl), by exact omA, by first | (exact ⟨law20_Few_sz (by simp at h2; exact h2.1.1.1), by have := of_decide_eq_false h4; omega⟩) | first | (exact ⟨clock_sz (resend_sz hy.1).1, by rw [clock_nodes h16]; have := hx.1; have := hy.2; simp at h8; omega⟩) | exact exA⟩ ?_; clear hR; rintro last i ⟨hR, hj, hx⟩; (try dsimp only at hR hj hx); refine ai (fun h3 => ?_) (fun h4 => ?_)
  ·have hlt := ltA h3; rw [drop_getD Node.zero hlt] at hR; have hs := (law20_Few_sz (by simp at h2; exact h2.1.1.1)).1; refine And.intro (by first | exact fun hg => decide_eq_true (by first | ((have hq := sent_in (c := c) (i := i1) (by omega); have hq2 := hx.1; have hq3 := hy.2; omega)) | exact ckA) | exact gkA) ?_; refine Or.inl ?_; (first | refine ⟨app_ok 8 rfl lnA apA, ?_⟩ | refine ⟨app_nil 8 rfl apA, ?_⟩); exact loop_next2 (last ++ ([(s.nodes.getD i Node.zero).asked] : List Int)) (i + 1) (wk [0, 1] (tO rfl (ts State.lo) (tO rfl (tl eqA) .nil)) (s1 (sv (turn_ptr 0 rfl rfl) (s1 (sv (to 1 lnA) (sv (turn_eq (I_eq (wr omA)) lx) .nil)))))) omA ⟨foll hR (congrArg (fun p : (List Int) × Nat => law27_NagOften_k1 s ticks p.1 p.2) rfl), by exact omA, by first | (exact ⟨law20_Few_sz (by simp at h2; exact h2.1.1.1), by have := of_decide_eq_false h4; omega⟩) | first | (exact ⟨clock_sz (resend_sz hy.1).1, by rw [clock_nodes h16]; have := hx.1; have := hy.2; simp at h8; omega⟩) | exact exA⟩
  ·rw [drop_none (l := s.nodes) (j := i) (geA h4)] at hR; replace hR : law27_NagOften_k1 s ticks last i = R := fo2 (fun p : (List Int) × Nat => law27_NagOften_k1 s ticks p.1 p.2) (last, i) hR rfl; refine loop_start3 (fun (k : Nat) (c : State) (c2 : List Int) => ∃ m, (Int.toNat (ticks - (k : Int))) < m ∧ law27_NagOften_g2 ticks m k c c2 = R ∧ c.sz ∧ c2.length = c.nodes.length) (fun k c c2 => (Int.toNat (ticks - (k : Int)))) (fun k c c2 => [(1, I ticks), (2, AVal.ptr 0 0 8 0 0), (4, Bo false), (5, AVal.own 1 0 1 0 c2.length), (7, I (k : Int))]) (fun k c c2 => [(0, AObj.row 28 8 [[I c.now, nodeL c.nodes, jobL c.jobs, resizeL c.resizes, bookL c.books, usageL c.ledger, I c.nextJob, I c.nextBook]]), (0, AObj.row 3 1 (c2.map (fun q_ => [I q_])))]) 0 s last (wk [0, 1] (tO rfl (ts State.lo) (tO rfl (tl eqA) .nil)) (s1 (sv (turn_ptr 0 rfl rfl) (s1 (sv (to 1 lnA) (s1 .nil)))))) ⟨_, Nat.lt_succ_self _, foll hR rfl, by first | (exact ⟨law20_Few_sz (by simp at h2; exact h2.1.1.1), by have := of_decide_eq_false h4; omega⟩) | first | (exact ⟨clock_sz (resend_sz hy.1).1, by rw [clock_nodes h16]; have := hx.1; have := hy.2; simp at h8; omega⟩) | exact exA⟩ ?_; clear hR; rintro k c c2 ⟨m, hm, hR, hx⟩; (try dsimp only at hR hm hx); obtain ⟨m, rfl⟩ := sucA m; refine ai (fun h5 => ?_) (fun h6 => ?_)
   ·have qh5 := of_decide_eq_true h5; have hy := hx; refine us (nag_Resend_c c (by first | (exact law20_Few_sz (by have q := hg; simpa using q)) | first | (exact hx.1) | first | (exact (resend_sz hy.1).1) | first | (exact (resend_sz (resend_sz hy.1).1).1) | exact szA) _) ?_; refine ai (fun h7 => ?_) (fun h8 => ?_)
    ·obtain rfl := foll hR (ct h5 (ct h7 rfl)); exact ret_seen lx sr
    ·obtain ⟨m2_, rfl⟩ : ∃ q, q = m := ⟨m, rfl⟩; refine loop_start2 (fun (i1 : Nat) (c3 : List Int) => ∃ m, (Int.toNat ((((nag_Resend c).2).length : Int) - (i1 : Int))) < m ∧ (Sum.elim id (fun p1 : Nat × (List Int) => bif ((decide ((((nag_Resend ((nag_Resend c).1)).2).length : Int) > 0)) || (!(state_Same ((nag_Resend ((nag_Resend c).1)).1) ((nag_Resend c).1)))) then false else bif ((nag_Clock ((nag_Resend c).1)).2 != 0) then (((nag_Clock ((nag_Resend c).1)).2 == 153) && law27_awake) else law27_NagOften_g2 ticks m2_ (k + 1) ((nag_Clock ((nag_Resend c).1)).1) p1.2)) (law27_NagOften_g3 c m i1 c3) = R ∧ c3.length = c2.length ∧ (i1 : Int) <= (((nag_Resend c).2).length : Int)) (fun i1 c3 => (Int.toNat ((((nag_Resend c).2).length : Int) - (i1 : Int)))) (fun i1 c3 => [(1, I ticks), (2, AVal.ptr 0 0 8 0 0), (4, Bo false), (5, AVal.own 1 0 1 0 c3.length), (7, I (k : Int)), (8, AVal.ptr 2 0 8 0 0), (9, noteL ((nag_Resend c).2)), (10, I (i1 : Int)), (51, Bo (decide ((k : Int) < ticks))), (65, Bo ((((nag_Resend c).1.nodes).length : Int) != (c.nodes.length : Int)))]) (fun i1 c3 => [(0, AObj.row 28 8 [[I c.now, nodeL c.nodes, jobL c.jobs, resizeL c.resizes, bookL c.books, usageL c.ledger, I c.nextJob, I c.nextBook]]), (0, AObj.row 3 1 (c3.map (fun q_ => [I q_]))), (0, AObj.row 28 8 [[I ((nag_Resend c).1.now), nodeL ((nag_Resend c).1.nodes), jobL ((nag_Resend c).1.jobs), resizeL ((nag_Resend c).1.resizes), bookL ((nag_Resend c).1.books), usageL ((nag_Resend c).1.ledger), I ((nag_Resend c).1.nextJob), I ((nag_Resend c).1.nextBook)]])]) 0 c2 (wk [0, 1, 2] (tO rfl (ts State.lo) (tO rfl (tl eqA) (tO rfl (ts State.lo) .nil))) (s1 (sv (turn_ptr 0 rfl rfl) (s1 (sv (to 1 lnA) (s1 (sv (turn_ptr 2 rfl rfl) (sl lw (s1 (s1 (s1 .nil))))))))))) ⟨_, Nat.lt_succ_self _, foll hR (ct h5 (cf h8 rfl)), by first | (exact ⟨law20_Few_sz (by simp at h2; exact h2.1.1.1), by have := of_decide_eq_false h4; omega⟩) | first | (exact ⟨clock_sz (resend_sz hy.1).1, by rw [clock_nodes h16]; have := hx.1; have := hy.2; simp at h8; omega⟩) | exact exA⟩ ?_; clear hR; rintro i1 c3 ⟨m, hm, hR, hx⟩; (try dsimp only at hR hm hx); obtain ⟨m, rfl⟩ := sucA m; refine ai (fun h9 => ?_) (fun h10 => ?_)
     ·have qh9 := of_decide_eq_true h9; have hz := (resend_sz hy.1).2; have hq0 := sent_in (c := c) (i := i1) (by omega); have hq3 : (((nag_Resend c).2).getD (Int.toNat (i1 : Int)) Note.zero).node = (((nag_Resend c).2).getD i1 Note.zero).node := rfl; refine And.intro (by first | exact fun hg => decide_eq_true (by first | ((have hq := sent_in (c := c) (i := i1) (by omega); have hq2 := hx.1; have hq3 := hy.2; omega)) | exact ckA) | exact gkA) ?_; refine dchk (by kernel_rfl) ?_; refine And.intro (by first | exact fun hg => decide_eq_true (by first | ((have hq := sent_in (c := c) (i := i1) (by omega); have hq2 := hx.1; have hq3 := hy.2; omega)) | exact ckA) | exact gkA) ?_; refine ⟨_, evalOp_load rfl rfl rfl (elemI_at 0 (Int.toNat ((((nag_Resend c).2).getD i1 Note.zero).node)) roA (by first | ((have hq := sent_in (c := c) (i := i1) (by omega); have hq2 := hx.1; have hq3 := hy.2; omega)) | exact ckA)) rfl, ?_⟩; refine And.intro (by first | exact fun hg => decide_eq_true (by first | ((have hq := sent_in (c := c) (i := i1) (by omega); have hq2 := hx.1; have hq3 := hy.2; omega)) | exact ckA) | exact gkA) ?_; refine And.intro (by first | exact fun hg => decide_eq_true (by first | ((have hq := sent_in (c := c) (i := i1) (by omega); have hq2 := hx.1; have hq3 := hy.2; omega)) | exact ckA) | exact gkA) ?_; refine And.intro (by first | exact fun hg => decide_eq_true (by first | ((have hq := sent_in (c := c) (i := i1) (by omega); have hq2 := hx.1; have hq3 := hy.2; omega)) | exact ckA) | exact gkA) ?_; (repeat ((first | refine ai rfl ?_ | refine ai (fun _ => rfl) ?_ | refine And.intro (evalOp_load rfl rfl rfl (elemI_at 0 (Int.toNat ((((nag_Resend c).2).getD i1 Note.zero).node)) roA (by first | ((have hq := sent_in (c := c) (i := i1) (by omega); have hq2 := hx.1; have hq3 := hy.2; omega)) | exact ckA)) rfl) ?_))); refine ai (fun h11 => ?_) (fun h12 => ?_)
      ·obtain rfl := foll hR (congrArg (Sum.elim id (fun p1 : Nat × (List Int) => bif ((decide ((((nag_Resend ((nag_Resend c).1)).2).length : Int) > 0)) || (!(state_Same ((nag_Resend ((nag_Resend c).1)).1) ((nag_Resend c).1)))) then false else bif ((nag_Clock ((nag_Resend c).1)).2 != 0) then (((nag_Clock ((nag_Resend c).1)).2 == 153) && law27_awake) else law27_NagOften_g2 ticks m2_ (k + 1) ((nag_Clock ((nag_Resend c).1)).1) p1.2)) (ct h9 (ct h11 rfl))); exact ret_seen lx sr
      ·refine And.intro (by first | exact fun hg => decide_eq_true (by first | ((have hq := sent_in (c := c) (i := i1) (by omega); have hq2 := hx.1; have hq3 := hy.2; omega)) | exact ckA) | exact gkA) ?_; refine ⟨_, evalOp_store rfl rfl rfl rfl (elemI_at 0 (Int.toNat ((((nag_Resend c).2).getD i1 Note.zero).node)) roA (by first | ((have hq := sent_in (c := c) (i := i1) (by omega); have hq2 := hx.1; have hq3 := hy.2; omega)) | exact ckA)) rfl rfl (set_map (Int.toNat ((((nag_Resend c).2).getD i1 Note.zero).node)) c.now roA rfl), ?_⟩; exact loop_next2 (i1 + 1) (c3.set (Int.toNat ((((nag_Resend c).2).getD i1 Note.zero).node)) c.now) (wk [0, 1, 2] (tO rfl (ts State.lo) (tO rfl (tl eqA) (tO rfl (ts State.lo) .nil))) (s1 (sv (turn_ptr 0 rfl rfl) (s1 (sv (to 1 lnA) (s1 (sv (turn_ptr 2 rfl rfl) (sl lw (sv (turn_eq (I_eq (wr omA)) lx) (s1 (s1 .nil))))))))))) omA ⟨m, by exact omA, foll hR (congrArg (Sum.elim id (fun p1 : Nat × (List Int) => bif ((decide ((((nag_Resend ((nag_Resend c).1)).2).length : Int) > 0)) || (!(state_Same ((nag_Resend ((nag_Resend c).1)).1) ((nag_Resend c).1)))) then false else bif ((nag_Clock ((nag_Resend c).1)).2 != 0) then (((nag_Clock ((nag_Resend c).1)).2 == 153) && law27_awake) else law27_NagOften_g2 ticks m2_ (k + 1) ((nag_Clock ((nag_Resend c).1)).1) p1.2)) (ct h9 (cf h12 rfl))), by first | (exact ⟨law20_Few_sz (by simp at h2; exact h2.1.1.1), by have := of_decide_eq_false h4; omega⟩) | first | (exact ⟨clock_sz (resend_sz hy.1).1, by rw [clock_nodes h16]; have := hx.1; have := hy.2; simp at h8; omega⟩) | exact exA⟩
     ·have qh10 := of_decide_eq_false h10; replace hR : (Sum.elim id (fun p1 : Nat × (List Int) => bif ((decide ((((nag_Resend ((nag_Resend c).1)).2).length : Int) > 0)) || (!(state_Same ((nag_Resend ((nag_Resend c).1)).1) ((nag_Resend c).1)))) then false else bif ((nag_Clock ((nag_Resend c).1)).2 != 0) then (((nag_Clock ((nag_Resend c).1)).2 == 153) && law27_awake) else law27_NagOften_g2 ticks m2_ (k + 1) ((nag_Clock ((nag_Resend c).1)).1) p1.2)) (Sum.inr (i1, c3)) = R := foll hR (congrArg (Sum.elim id (fun p1 : Nat × (List Int) => bif ((decide ((((nag_Resend ((nag_Resend c).1)).2).length : Int) > 0)) || (!(state_Same ((nag_Resend ((nag_Resend c).1)).1) ((nag_Resend c).1)))) then false else bif ((nag_Clock ((nag_Resend c).1)).2 != 0) then (((nag_Clock ((nag_Resend c).1)).2 == 153) && law27_awake) else law27_NagOften_g2 ticks m2_ (k + 1) ((nag_Clock ((nag_Resend c).1)).1) p1.2)) (cf h10 rfl)); refine us (nag_Resend_c ((nag_Resend c).1) (by first | (exact law20_Few_sz (by have q := hg; simpa using q)) | first | (exact hx.1) | first | (exact (resend_sz hy.1).1) | first | (exact (resend_sz (resend_sz hy.1).1).1) | exact szA) _) ?_; (first | apply u3g | apply u4g); exact fun hg => state_Same_c ((nag_Resend ((nag_Resend c).1)).1) ((nag_Resend c).1) (by first | (exact law20_Few_sz (by have q := hg; simpa using q)) | first | (exact hx.1) | first | (exact (resend_sz hy.1).1) | first | (exact (resend_sz (resend_sz hy.1).1).1) | exact szA) (by first | (exact law20_Few_sz (by have q := hg; simpa using q)) | first | (exact hx.1) | first | (exact (resend_sz hy.1).1) | first | (exact (resend_sz (resend_sz hy.1).1).1) | exact szA) _; refine ai (fun h13 => ?_) (fun h14 => ?_)
      ·obtain rfl := foll hR (ct h13 rfl); exact ret_seen lx sr
      ·refine us (nag_Clock_c ((nag_Resend c).1) (by first | (exact law20_Few_sz (by have q := hg; simpa using q)) | first | (exact hx.1) | first | (exact (resend_sz hy.1).1) | first | (exact (resend_sz (resend_sz hy.1).1).1) | exact szA) _) ?_; refine ai (fun h15 => ?_) (fun h16 => ?_)
       ·(first | apply u3g | apply u4g); exact fun hg => law27_awake_c _; obtain rfl := foll hR (cf h14 (ct h15 rfl)); exact ret_seen lx sr
       ·exact loop_next3 (k + 1) ((nag_Clock ((nag_Resend c).1)).1) c3 (wk [0, 1] (tO rfl (ts State.lo) (tO rfl (tl eqA) .nil)) (s1 (sv (turn_ptr 0 rfl rfl) (s1 (sv (to 1 lnA) (sv (turn_eq (I_eq (wr omA)) lx) .nil)))))) omA ⟨m2_, by exact omA, foll hR (cf h14 (cf h16 rfl)), by first | (exact ⟨law20_Few_sz (by simp at h2; exact h2.1.1.1), by have := of_decide_eq_false h4; omega⟩) | first | (exact ⟨clock_sz (resend_sz hy.1).1, by rw [clock_nodes h16]; have := hx.1; have := hy.2; simp at h8; omega⟩) | exact exA⟩
   ·have qh6 := of_decide_eq_false h6; refine us (law27_awake_c _) ?_; obtain rfl := foll hR (cf h6 rfl); exact ret_seen lx sr
end Go.Proofs.YtigcpfbpmnppcaaGreatDoor
namespace Go.Proofs.YtigcpfbpmnppcaaGreatDoor
set_option linter.unusedSimpArgs false
set_option linter.unusedVariables false
open Go.Fw
theorem awake27 : law27_awake = true := by kernel_rfl
end Go.Proofs.YtigcpfbpmnppcaaGreatDoor
namespace Go.Proofs.YtigcpfbpmnppcaaGreatDoor
set_option linter.unusedSimpArgs false
set_option linter.unusedVariables false
open Go.Fw
theorem again_upd (s : State) (l : List Node) (x : Node) : againB ({ s with nodes := l } : State) (upd s x) = false := by
 unfold upd
 cases h : againB s x with
 | true =>
  unfold againB
  simp only [cond_true, Int.sub_self]
  rw [Bool.and_eq_false_iff]
  exact .inr (by decide)
 | false => exact h
theorem upd_twice (s : State) (l : List Node) (x : Node) : upd ({ s with nodes := l } : State) (upd s x) = upd s x := by
 have h := again_upd s l x
 generalize upd s x = y at h ⊢
 unfold upd
 rw [h]
 rfl
theorem notes_none (s : State) : ∀ (l : List Node) (i : Nat), (∀ x ∈ l, againB s x = false) -> notesL s l i = []
 | [], _, _ => rfl
 | x :: r, i, h => by
  rw [notesL, h x (List.mem_cons_self ..)]
  exact notes_none s r (i + 1) fun y hy => h y (List.mem_cons_of_mem _ hy)
theorem fine_free {x : Node} (hf : ref12_fine x = true) (hw : x.want ≠ 0) : x.state ≠ 0 := by
 intro h
 obtain ⟨st, jb, ep, dr, wa, si, as_⟩ := x
 simp only at h hw
 subst h
 unfold ref12_fine at hf
 dsimp only at hf
 cases h1 : ((((((decide (ep < 0)) || (decide (ep > 999999999))) || (decide (si < 0))) || (decide (si > 1000000))) || (decide (as_ < 0))) || (decide (as_ > 1000000))) with
 | true => rw [h1] at hf; cases hf
 | false =>
  rw [h1] at hf
  simp at hf
  exact hw hf.2
section
variable {c : State}
theorem sent_go (h0 : state_Check c = 0) : ∀ (l p : List Node) (sent0 : List Note) (p' : List Int) (m : Nat), c.nodes = p ++ l -> (nag_Resend c).2 = sent0 ++ notesL c l p.length -> p'.length = p.length -> (notesL c l p.length).length < m ->
  law27_NagOften_g3 c m sent0.length (p' ++ l.map Node.asked) = Sum.inr ((sent0 ++ notesL c l p.length).length, p' ++ l.map fun x => (upd c x).asked)
 | [], p, sent0, p', 0, _, _, _, hm => absurd hm (by omega)
 | [], p, sent0, p', m + 1, hl, hs, hp, hm => by
  rw [law27_NagOften_g3, hs, decide_eq_false (by simp [notesL])]
  simp [notesL]
 | x :: r, p, sent0, p', 0, _, _, _, hm => absurd hm (by omega)
 | x :: r, p, sent0, p', m + 1, hl, hs, hp, hm => by
  have ih := sent_go h0 r (p ++ [x])
  simp only [List.length_append, List.length_cons, List.length_nil, Nat.zero_add, List.append_assoc, List.singleton_append] at ih
  cases ha : againB c x with
  | false =>
   have en : notesL c (x :: r) p.length = notesL c r (p.length + 1) := by rw [notesL, ha]; rfl
   have eu : (upd c x).asked = x.asked := by unfold upd; rw [ha]; rfl
   rw [en] at hs hm ⊢
   have := ih sent0 (p' ++ [x.asked]) (m + 1) hl hs (by simp [hp]) hm
   simp only [List.append_assoc, List.singleton_append] at this
   rw [List.map_cons, List.map_cons, eu, List.length_append]
   exact this
  | true =>
   have en : notesL c (x :: r) p.length = noteOf x p.length :: notesL c r (p.length + 1) := by rw [notesL, ha]; rfl
   have eu : upd c x = { x with asked := c.now } := by unfold upd; rw [ha]; rfl
   rw [en] at hs hm ⊢
   have hval := (resend_val h0).1
   obtain ⟨_, hf, _⟩ := check_now h0
   have hx : ref12_fine x = true := (fleet_parts hf).2 x (by rw [hl]; simp)
   have hst := fine_free hx (again_want ha)
   have hget : (nag_Resend c).2.getD sent0.length Note.zero = noteOf x p.length := by rw [hs]; simp [List.getD]
   have hnode : ((nag_Resend c).1.nodes).getD p.length Node.zero = { x with asked := c.now } := by
    rw [hval]
    show (c.nodes.map (upd c)).getD p.length Node.zero = _
    rw [hl, List.map_append, List.map_cons, eu]
    have e := getD_mid Node.zero (p.map (upd c)) ({ x with asked := c.now } : Node) (r.map (upd c))
    rw [List.length_map] at e
    exact e
   have hlast : (p' ++ (x :: r).map Node.asked).getD p.length 0 = x.asked := by
    rw [List.map_cons, ← hp]
    exact getD_mid _ _ _ _
   have hset : (p' ++ (x :: r).map Node.asked).set p.length c.now = p' ++ c.now :: r.map Node.asked := by
    rw [List.map_cons, ← hp]
    exact set_mid _ _ _ _
   have hage : decide ((w64 (c.now - x.asked)) < 3) = false := by
    unfold againB at ha
    rw [Bool.and_eq_true] at ha
    exact decide_eq_false (by have := of_decide_eq_true ha.2; omega)
   rw [law27_NagOften_g3, hget, decide_eq_true (by rw [hs]; simp; omega)]
   have en1 : (noteOf x p.length).node = (p.length : Int) := rfl
   have en2 : (noteOf x p.length).epoch = x.epoch := rfl
   rw [en1, en2, Int.toNat_natCast, hnode, hlast, hset, hage, decide_eq_false (show ¬ (p.length : Int) < 0 by omega), decide_eq_false (show ¬ (p.length : Int) >= (((p' ++ (x :: r).map Node.asked).length : Nat) : Int) by simp; omega)]
   have es : (({ x with asked := c.now } : Node).state == 0) = false := by simpa using hst
   have ee : (({ x with asked := c.now } : Node).epoch != x.epoch) = false := by simp
   rw [es, ee]
   have := ih (sent0 ++ [noteOf x p.length]) (p' ++ [c.now]) m hl (by rw [hs]; simp) (by simp [hp]) (by simp at hm; omega)
   simp only [List.length_append, List.length_cons, List.length_nil, Nat.zero_add, List.append_assoc, List.singleton_append] at this
   simp only [Bool.or_false, cond_true, cond_false]
   rw [this, List.map_cons, eu]
   simp
   omega
theorem often_go : ∀ (m k : Nat) (ticks : Int) (c : State), state_Check c = 0 -> (k : Int) <= ticks -> ticks - (k : Int) < (m : Int) -> law27_NagOften_g2 ticks m k c (c.nodes.map Node.asked) = true
 | 0, k, ticks, c, _, hk, h => absurd h (by omega)
 | m + 1, k, ticks, c, h0, hkt, hm => by
  rw [law27_NagOften_g2]
  cases hk : decide ((k : Int) < ticks) with
  | false => exact awake27
  | true =>
   have hk' := of_decide_eq_true hk
   have hval := (resend_val h0).1
   have hkeep := resend_keeps h0
   have hval2 := (resend_val hkeep).1
   have hn2 : notesL ({ c with nodes := c.nodes.map (upd c) } : State) (c.nodes.map (upd c)) 0 = [] := notes_none _ _ _ fun y hy => by
    obtain ⟨z, _, rfl⟩ := List.mem_map.1 hy
    exact again_upd c _ z
   have hm2 : (c.nodes.map (upd c)).map (upd ({ c with nodes := c.nodes.map (upd c) } : State)) = c.nodes.map (upd c) := by
    rw [List.map_map]
    exact List.map_congr_left fun z _ => upd_twice c _ z
   have e1 : (nag_Resend c).1 = ({ c with nodes := c.nodes.map (upd c) } : State) := by rw [hval]
   have e2 : nag_Resend ({ c with nodes := c.nodes.map (upd c) } : State) = (({ c with nodes := c.nodes.map (upd c) } : State), []) := by
    rw [hval2, hn2, hm2]
   have hs := sent_go h0 c.nodes [] [] [] ((Int.toNat ((((nag_Resend c).2).length : Int) - (0 : Int))) + 1) rfl (by rw [hval]; rfl) rfl (by rw [hval]; simp)
   simp only [List.length_nil, List.nil_append] at hs
   rw [hs, e1, e2]
   have hlen : ((((c.nodes.map (upd c)).length : Nat) : Int) != (c.nodes.length : Int)) = false := by simp
   simp only [cond_true, Sum.elim_inr]
   rw [hlen, (state_same _ _).2 rfl]
   simp only [cond_false, List.length_nil, Bool.not_true, Bool.or_false]
   rw [decide_eq_false (show ¬ ((0 : Nat) : Int) > 0 by omega)]
   simp only [cond_false]
   cases ht : (c.now == 1000000) with
   | true =>
    have e : nag_Clock ({ c with nodes := c.nodes.map (upd c) } : State) = (State.zero, 153) := by
     unfold nag_Clock
     rw [hkeep, ht]
     rfl
    rw [e, awake27]
    rfl
   | false =>
    have e := clock_val hkeep ht
    rw [e]
    have := often_go m (k + 1) ticks (ticked ({ c with nodes := c.nodes.map (upd c) } : State)) (clock_keeps hkeep ht) (by omega) (by omega)
    simp only [bne_self_eq_false, cond_false]
    have el : (ticked ({ c with nodes := c.nodes.map (upd c) } : State)).nodes.map Node.asked = c.nodes.map fun x => (upd c x).asked := by
     show (c.nodes.map (upd c)).map Node.asked = _
     rw [List.map_map]
     rfl
    rw [el] at this
    exact this
end
theorem often_last : ∀ (l : List Node) (out : List Int) (i : Nat), (law27_NagOften_g1 l out i).1 = out ++ l.map Node.asked
 | [], out, i => by simp [law27_NagOften_g1]
 | x :: r, out, i => by
  rw [law27_NagOften_g1, often_last r]
  simp
theorem nagOften_true (s : State) (ticks : Int) : law27_NagOften s ticks = true := by
 unfold law27_NagOften
 cases h : ((((!(law20_Few s)) || ((state_Check s) != 0)) || (decide (ticks < 0))) || (decide (ticks > 8))) with
 | true => exact awake27
 | false =>
  obtain ⟨h1, h2⟩ := or_f h
  obtain ⟨h3, h4⟩ := or_f h1
  obtain ⟨_, h5⟩ := or_f h3
  simp only [cond_false]
  unfold law27_NagOften_k1
  rw [often_last, List.nil_append]
  exact often_go _ 0 ticks s (by simpa using h5) (by have := of_decide_eq_false h4; omega) (by have := of_decide_eq_false h4; omega)
end Go.Proofs.YtigcpfbpmnppcaaGreatDoor
namespace Go.Proofs.YtigcpfbpmnppcaaGreatDoor
set_option linter.unusedSimpArgs false
set_option linter.unusedVariables false
open Go.Fw Go.RowKit Go.ChangeShapes Go.WideShapes
theorem lawOwn : ownKnob Tryz.prog.godebug = none := by kernel_rfl
theorem lawLaid : laidOutB Tryz.prog = true := by kernel_rfl
theorem lawBool : Tryz.prog.underlying 4 = some .bool := by kernel_rfl
set_option maxRecDepth 100000 in
theorem lawDoor (os : Os) (args : Array Value) : laidMetH Tryz.prog Rows.nagOftenRow.laid ((World.doorLaid Tryz.prog 400 os).forCall (fun _ _ => 0) ⟨#[], args, []⟩).memory :=
 laidMetH_of_parts3 (fuel := 8) (laidMet_of_run' 8 (by kernel_rfl) (by kernel_rfl)) (by kernel_rfl) (by kernel_rfl)
set_option maxRecDepth 100000 in
theorem nagOften_lifted (law : ∀ (a0 : State) (a1 : Int), State.wf a0 -> (Lit.int .i64 a1).wf = true -> AGives Tryz.prog 6 [State.a a0, .lit (.int .i64 a1)] [] (.lit (.bool true))) (os : Os) (started : os.Started) (H : Type) (enc : TypeId × Value -> H) :
  ReturnsInHanded {} Tryz.checked os 6 .any (fun w args => (Rows.nagOftenSpec.pre enc Tryz.prog Tryz.f6 [] false w args ∧ laidMetH Tryz.prog Rows.nagOftenRow.laid w) ∧ sizedMet enc Tryz.prog Tryz.f6 (OpenSpec.ofChange Rows.nagOftenSpec) false w args)
   (Rows.nagOftenSpec.post enc Tryz.prog Tryz.f6 false true false false) := by
 refine law_lifted_laid (C := Tryz.checked) (tb := 4) lawOwn started (by kernel_rfl) Tryz.func6
  (ChangeSpec.witness_shaped (enc := enc) (C := Tryz.checked) (os := os) (X := fun w _ => laidMetH Tryz.prog Rows.nagOftenRow.laid w) false (World.doorLaid Tryz.prog 400 os) #[.agg #[.int .i64 0, .slice none 0 0, .slice none 0 0, .slice none 0 0, .slice none 0 0, .slice none 0 0, .int .i64 0, .int .i64 0], .int .i64 0] 8 rfl (World.shaped_of_RefB (by kernel_rfl) (by kernel_rfl)) (by kernel_rfl) (by kernel_rfl) (by kernel_rfl) (lawDoor os _)) rfl (by kernel_rfl) lawBool lawLaid (by kernel_rfl) ?_
  (.cons _ _ _ _ _ (ArgAs.struct rfl readState) (.cons _ _ _ _ _ (ArgAs.int ty0) .nil)) ?_
 ·intro ds hd
  match ds, hd with
  | [_, _], _ => rfl
 ·rintro l ⟨a0, m0, g0, ⟨a1, m1, g1, rfl, rfl⟩, rfl⟩
  exact law a0 a1 g0 g1
theorem nagOften_holds0 (law : ∀ (a0 : State) (a1 : Int), State.wf a0 -> (Lit.int .i64 a1).wf = true -> AGives Tryz.prog 6 [State.a a0, .lit (.int .i64 a1)] [] (.lit (.bool true))) : Rows.NagOftenSaid :=
 OpenClaim.holds_of_wide 6 Tryz.f6 rfl rfl rfl rfl rfl rfl rfl ⟨rfl, rfl, rfl, rfl, rfl⟩ rfl rfl rfl rfl rfl (by kernel_rfl) Tryz.func6 (by kernel_rfl)
  (of_decide_eq_true (by kernel_rfl)) (by unfold Func.isWrapper; first | (rw [if_pos (by decide +kernel)]; kernel_rfl) | (rw [if_neg (by decide +kernel)]; exact ⟨rfl, rfl⟩))
  (fun os started H enc _ => nagOften_lifted law os started H enc)
theorem nagOften_card0 (law : ∀ (a0 : State) (a1 : Int), State.wf a0 -> (Lit.int .i64 a1).wf = true -> AGives Tryz.prog 6 [State.a a0, .lit (.int .i64 a1)] [] (.lit (.bool true))) : Rows.NagOftenCardSaid :=
 Claim7.holds_tied_plain_at .later [] [.data, .data, .data, .sentinel, .sentinel] true (true, "4964f6699f38809c81a54ccce3b2ebc1e47cb2e088c00cbe3e446afb9ed0c671") true
  (nagOften_holds0 law) (fun _ h => by cases h) (by kernel_rfl) (fun _ h => by cases h) nagOften_row_tie rfl ⟨rfl, rfl⟩ (by kernel_rfl) rfl
  (fun f fn hf hfn => by
   obtain rfl : f = 6 := Option.some.inj ((show Tryz.prog.funcNamed "muster/musterlaw27.NagOften" = some 6 by kernel_rfl).symm.trans hf) |>.symm
   obtain rfl : fn = Tryz.f6 := (Option.some.inj (Tryz.func6.symm.trans hfn)).symm
   exact ⟨by kernel_rfl, fun j t ht => by
    rcases j with _ | _ | j
    ·obtain rfl : t = 28 := (Option.some.inj ((show Tryz.f6.params[0]? = some 28 by kernel_rfl).symm.trans ht)).symm
     exact (show Tryz.prog.wantsStandIn 28 = false by kernel_rfl)
    ·obtain rfl : t = 3 := (Option.some.inj ((show Tryz.f6.params[1]? = some 3 by kernel_rfl).symm.trans ht)).symm
     exact (show Tryz.prog.wantsStandIn 3 = false by kernel_rfl)
    ·exact absurd ht (by rw [show Tryz.f6.params[j + 2]? = none from Array.getElem?_eq_none (by show Tryz.f6.params.size <= j + 2; rw [show Tryz.f6.params.size = 2 by kernel_rfl]; omega)]; exact fun h => nomatch h)⟩)
  (by kernel_rfl)
#print axioms nagOften_card0
end Go.Proofs.YtigcpfbpmnppcaaGreatDoor
namespace Go.Proofs.YtigcpfbpmnppcaaGreatDoor
set_option linter.unusedSimpArgs false
set_option linter.unusedVariables false
open Go.Fw
theorem nagOften_gives (a : State) (n : Int) (ha : a.wf) (_ : (Lit.int .i64 n).wf = true) : AGives Tryz.prog 6 [State.a a, .lit (.int .i64 n)] [] (.lit (.bool true)) := by
 have h := law27_NagOften_c a n (State.wf_szM ha) []
 rw [nagOften_true a n] at h
 exact h
theorem nagOften_card : Rows.NagOftenCardSaid := nagOften_card0 nagOften_gives
#print axioms nagOften_card
end Go.Proofs.YtigcpfbpmnppcaaGreatDoor
