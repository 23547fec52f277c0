/-
  Nag, fifth part: what is past is dropped; a tick passes as the document says. Condition: sets of nodes are words; texts and rows are of a size that a machine holds.
  Nag: the sizes of what is sent again, late, stale and over. Condition: the state is read, and few.
  Nag: the sizes of a state behind a tick. Condition: the state is of a size that a machine holds.
  Contracts of functions, printed by a program of this repo (wip/dec). No condition beyond those that stand in each.
  The answers that the document fixes for layer 27. No condition.
  NagClocks' plain law: a tick passes as the document says, or is refused. Condition: the state is read.
  In any state a tick passes as the document says, or is refused. No condition.
  NagClocks holds for every input: In any state a tick passes as the document says, or is refused. No condition.
-/
import Derived.Test.YtigcpfbpmnppcaaGreatDoorG16
import Derived.Test.YtigcpfbpmnppcaaGreatDoorProg
import Derived.Test.YtigcpfbpmnppcaaGreatDoorG14
import Derived.Test.YtigcpfbpmnppcaaGreatDoorTie
import Derived.Test.YtigcpfbpmnppcaaGreatDoorCards
import Derived.Test.YtigcpfbpmnppcaaGreatDoorRows
import Derived.ProofKit
import Derived.LaidMore
import Derived.OpenShut
import Derived.SevenTiedAt
namespace Go.Proofs.YtigcpfbpmnppcaaGreatDoor
set_option linter.unusedSimpArgs false
set_option linter.unusedVariables false
open Go.Fw
def keepB (now : Int) (b : Book) : Bool := !(decide (b.to <= now))
theorem past_go2 (now : Int) : ∀ (m i j : Nat) (c : List Book), i <= j -> j <= c.length -> c.length <= 4294967296 -> c.length - j < m ->
  (fun p1 : Int × Nat × (List Book) => (List.take (Int.toNat p1.1) p1.2.2)) (book_Past_g2 now m (i : Int) j c) = c.take i ++ (c.drop j).filter (keepB now)
 | 0, i, j, c, _, _, _, h => absurd h (by omega)
 | m + 1, i, j, c, hij, hj, hc, hm => by
  rw [book_Past_g2]
  rcases Nat.lt_or_ge j c.length with h | h
  ·rw [decide_eq_true (show (j : Int) < (c.length : Int) by omega)]
   simp only [cond_true]
   have hd : c.drop j = c.getD j Book.zero :: c.drop (j + 1) := by
    rw [List.drop_eq_getElem_cons h]
    simp [List.getD, h]
   rw [hd, List.filter_cons]
   unfold keepB
   cases hk : !(decide ((c.getD j Book.zero).to <= now)) with
   | true =>
    simp only [cond_true, if_true]
    rw [w6 (n := (i : Int) + 1) (by omega), Int.toNat_natCast]
    have ih := past_go2 now m (i + 1) (j + 1) (c.set i (c.getD j Book.zero)) (by omega) (by rw [List.length_set]; omega) (by rw [List.length_set]; exact hc) (by rw [List.length_set]; omega)
    rw [List.drop_set_of_lt (by omega)] at ih
    refine ih.trans ?_
    rw [List.take_add_one, List.take_set_of_le (Nat.le_refl i), List.getElem?_set_self (by omega)]
    simp
    rfl
   | false =>
    simp only [cond_false, Bool.false_eq_true, if_false]
    exact past_go2 now m i (j + 1) c (by omega) (by omega) hc (by omega)
  ·rw [decide_eq_false (show ¬ (j : Int) < (c.length : Int) by omega), List.drop_of_length_le (by omega)]
   simp
theorem past_go1 (l : List Book) (now : Int) (hl : l.length <= 4294967296) : ∀ (r p : List Book), l = p ++ r -> (∀ x ∈ p, keepB now x = true) -> book_Past_g1 l now r p.length = l.filter (keepB now)
 | [], p, h, hp => by
  rw [book_Past_g1]
  have e : l = p := by rw [h, List.append_nil]
  subst e
  exact (List.filter_eq_self.2 hp).symm
 | x :: r, p, h, hp => by
  have hg : l.getD p.length Book.zero = x := by rw [h]; simp [List.getD]
  have hlen : p.length + 1 + r.length = l.length := by rw [h]; simp; omega
  rw [book_Past_g1, hg]
  cases hk : decide (x.to <= now) with
  | true =>
   have hn : ((p.length : Int) == (-1)) = false := by rw [beq_eq_false_iff_ne]; omega
   rw [hn]
   simp only [cond_true, cond_false]
   have e := past_go2 now ((Int.toNat ((l.length : Int) - ((p.length + 1) : Int))) + 1) p.length (p.length + 1) l (by omega) (by omega) hl (by omega)
   refine e.trans ?_
   have e1 : l.take p.length = p := by rw [h]; simp
   have e2 : l.drop (p.length + 1) = r := by rw [h, ← List.drop_drop]; simp
   rw [e1, e2, h, List.filter_append, List.filter_eq_self.2 hp, List.filter_cons]
   have : keepB now x = false := by unfold keepB; rw [hk]; rfl
   rw [this]
   simp
  | false =>
   simp only [cond_false]
   have ih := past_go1 l now hl r (p ++ [x]) (by rw [h]; simp) (fun y hy => by
    rcases List.mem_append.1 hy with hy | hy
    ·exact hp y hy
    ·rw [List.mem_singleton.1 hy]; unfold keepB; rw [hk]; rfl)
   simpa using ih
theorem past_val {l : List Book} (now : Int) (hl : l.length <= 4294967296) (h : book_Check l = 0) : book_Past l now = l.filter (keepB now) := by
 unfold book_Past
 rw [h]
 exact past_go1 l now hl l [] rfl (fun x hx => (nomatch hx))
theorem past_ref (now : Int) : ∀ (l out : List Book) (i : Nat), (ref19_Past_g1 now l out i).1 = out ++ l.filter (keepB now)
 | [], out, i => by simp [ref19_Past_g1]
 | x :: r, out, i => by
  have e : decide (x.to > now) = keepB now x := by unfold keepB; rw [← decide_not]; exact decide_eq_decide.2 (by omega)
  rw [ref19_Past_g1, e, List.filter_cons]
  cases keepB now x with
  | true => simp only [cond_true, if_true]; rw [past_ref now r]; simp
  | false => simp only [cond_false, Bool.false_eq_true, if_false]; exact past_ref now r _ _
theorem past_eq (l : List Book) (now : Int) (hl : l.length <= 4294967296) : book_Past l now = ref19_Past l now := by
 have hc := book_Check_eq l hl
 cases h : (book_Check l != 0) with
 | true =>
  unfold book_Past ref19_Past
  rw [← hc, h]
  rfl
 | false =>
  have h0 : book_Check l = 0 := by simpa using h
  rw [past_val now hl h0]
  unfold ref19_Past
  rw [← hc, h0]
  show _ = (ref19_Past_g1 now l [] 0).1
  rw [past_ref]
  rfl
def chgJ (x : Job) : Job := bif x.state != 2 then x else (job_Charge x (nodeset_Count x.nodes)).1
def chgL (d : List Usage) (x : Job) : List Usage := bif x.state != 2 then d else bif ((ledger_Charge d x.user x.account (nodeset_Count x.nodes)).2 == 0) then (ledger_Charge d x.user x.account (nodeset_Count x.nodes)).1 else d
theorem jcharge_ok {x : Job} (h : job_Check x = 0) (hs : x.state = 2) (n : Int) : job_Charge x n = ({ x with used := sat_Plus [x.used, n] }, 0) := by
 unfold job_Charge
 rw [h, hs]
 rfl
theorem jcharge_ref {x : Job} (hn : U64 x.nodes) (h : job_Check x = 0) (hs : x.state = 2) (n : Int) : ref14_Charge x n = ({ x with used := sat_Plus [x.used, n] }, 0) := by
 unfold ref14_Charge
 rw [← job_eq x hn, h, hs, ← plus_eq]
 rfl
theorem clock_prog : ∀ (r p : List Job) (js : List Job) (c : State), (∀ x ∈ r, job_Check x = 0) -> c.jobs = p ++ r ->
  nag_Clock_g1 r p.length js c = (p ++ r.map chgJ, { c with jobs := p ++ r.map chgJ, ledger := r.foldl chgL c.ledger })
 | [], p, js, c, _, h => by
  rw [nag_Clock_g1, h]
  cases c
  simp only [List.map_nil, List.append_nil, List.foldl_nil] at h ⊢
  rw [← h]
 | x :: r, p, js, c, hx, h => by
  have hr : ∀ y ∈ r, job_Check y = 0 := fun y hy => hx y (List.mem_cons_of_mem _ hy)
  have hg : c.jobs.getD p.length Job.zero = x := by rw [h]; exact getD_mid _ _ _ _
  have ih := fun (y : Job) js c h => clock_prog r (p ++ [y]) js c hr h
  simp only [List.length_append, List.length_cons, List.length_nil, Nat.zero_add, List.append_assoc, List.singleton_append] at ih
  rw [nag_Clock_g1, hg, List.map_cons, List.foldl_cons]
  cases hs : x.state != 2 with
  | true =>
   have e1 : chgJ x = x := by unfold chgJ; rw [hs]; rfl
   have e2 : chgL c.ledger x = c.ledger := by unfold chgL; rw [hs]; rfl
   simp only [cond_true]
   rw [ih x c.jobs c h, e1, e2]
  | false =>
   have hs2 : x.state = 2 := by simpa using hs
   have hj := jcharge_ok (hx x (List.mem_cons_self ..)) hs2 (nodeset_Count x.nodes)
   have e1 : chgJ x = { x with used := sat_Plus [x.used, nodeset_Count x.nodes] } := by unfold chgJ; rw [hs, hj]; rfl
   have hset : ∀ y, c.jobs.set p.length y = p ++ y :: r := fun y => by rw [h]; exact set_mid _ _ _ _
   have h0 : ((0 : Int) == 0) = true := rfl
   rw [hj, hset, e1]
   simp only [cond_false, h0, cond_true]
   cases hl : ((ledger_Charge c.ledger x.user x.account (nodeset_Count x.nodes)).2 == 0) with
   | true =>
    have e2 : chgL c.ledger x = (ledger_Charge c.ledger x.user x.account (nodeset_Count x.nodes)).1 := by unfold chgL; rw [hs, hl]; rfl
    simp only [cond_true]
    rw [ih _ _ _ rfl, e2]
   | false =>
    have e2 : chgL c.ledger x = c.ledger := by unfold chgL; rw [hs, hl]; rfl
    simp only [cond_false]
    rw [ih _ _ _ rfl, e2]
theorem charge_len {l : List Usage} {user account : ByteArray} {n : Int} (h : ((ledger_Charge l user account n).2 == 0) = true) : (ledger_Charge l user account n).1.length <= 201 := by
 have h' : (ledger_Charge l user account n).2 = 0 := by simpa using h
 rcases (ledger_iff l).2 with hc | hc
 ·have hlen := ((ledger_iff l).1.1 hc).1
  unfold ledger_Charge at h' ⊢
  rw [hc] at h' ⊢
  simp only [bne_self_eq_false, cond_false] at h' ⊢
  cases hq : (((!(ledger_name user)) || (!(ledger_name account))) || (decide (n < 0))) with
  | true => rw [hq] at h'; cases h'
  | false =>
   rw [hq] at h'
   simp only [cond_false] at h' ⊢
   cases hb : (!(ledger_Charge_t1 l user account).2) with
   | true =>
    rw [hb] at h'
    simp only [cond_true] at h' ⊢
    cases hz : ((l.length : Int) == 200) with
    | true => rw [hz] at h'; cases h'
    | false =>
     have := bsu_le l (⟨user, account, 0, 0⟩ : Usage) ledger_Charge_t3 (by omega)
     simp only [cond_false, List.length_set]
     show (ledger_insert_Usage l _ _).length <= 201
     rw [ledger_insert_len _ _ _ this.1 this.2]
     omega
   | false =>
    simp only [cond_false, List.length_set]
    omega
 ·unfold ledger_Charge at h'
  rw [hc] at h'
  cases h'
theorem chgL_len {d : List Usage} (x : Job) (h : d.length <= 4294967296) : (chgL d x).length <= 4294967296 := by
 unfold chgL
 cases x.state != 2 with
 | true => exact h
 | false =>
  cases hl : ((ledger_Charge d x.user x.account (nodeset_Count x.nodes)).2 == 0) with
  | true =>
   have := charge_len hl
   simp only [cond_false, cond_true]
   omega
  | false => exact h
theorem clock_ref : ∀ (r p : List Job) (m : Nat) (c : State), (∀ x ∈ r, job_Check x = 0 ∧ U64 x.nodes) -> r.length < m -> c.ledger.length <= 4294967296 ->
  ref27_Clock_g1 m p.length c (p ++ r) = ((p ++ r).length, { c with ledger := r.foldl chgL c.ledger }, p ++ r.map chgJ)
 | [], p, 0, c, _, h, _ => absurd h (by simp)
 | [], p, m + 1, c, _, _, _ => by
  rw [ref27_Clock_g1, decide_eq_false (by simp)]
  simp
 | x :: r, p, 0, c, _, h, _ => absurd h (by simp)
 | x :: r, p, m + 1, c, hx, hm, hl => by
  have hm' : r.length < m := by simp at hm; omega
  have hr : ∀ y ∈ r, job_Check y = 0 ∧ U64 y.nodes := fun y hy => hx y (List.mem_cons_of_mem _ hy)
  have ih := fun (y : Job) c hl => clock_ref r (p ++ [y]) m c hr hm' hl
  simp only [List.length_append, List.length_cons, List.length_nil, Nat.zero_add, List.append_assoc, List.singleton_append] at ih
  rw [ref27_Clock_g1, decide_eq_true (by simp; omega), getD_mid, List.map_cons, List.foldl_cons]
  obtain ⟨hj, hu⟩ := hx x (List.mem_cons_self ..)
  cases hs : x.state != 2 with
  | true =>
   have e1 : chgJ x = x := by unfold chgJ; rw [hs]; rfl
   have e2 : chgL c.ledger x = c.ledger := by unfold chgL; rw [hs]; rfl
   simp only [cond_true]
   rw [ih x c hl, e1, e2]
   simp
  | false =>
   have hs2 : x.state = 2 := by simpa using hs
   have hk := jcharge_ref hu hj hs2 (nodeset_Count x.nodes)
   have hj' := jcharge_ok hj hs2 (nodeset_Count x.nodes)
   have e1 : chgJ x = { x with used := sat_Plus [x.used, nodeset_Count x.nodes] } := by unfold chgJ; rw [hs, hj']; rfl
   rw [← count_list hu, hk, set_mid, getD_mid, e1]
   simp only [cond_true, cond_false]
   rw [← charge_eq c.ledger x.user x.account (nodeset_Count x.nodes) hl]
   cases hc : ((ledger_Charge c.ledger x.user x.account (nodeset_Count x.nodes)).2 == 0) with
   | true =>
    have e2 : chgL c.ledger x = (ledger_Charge c.ledger x.user x.account (nodeset_Count x.nodes)).1 := by unfold chgL; rw [hs, hc]; rfl
    simp only [cond_true]
    rw [ih _ _ (by have := charge_len hc; show (ledger_Charge c.ledger x.user x.account (nodeset_Count x.nodes)).1.length <= _; omega), e2]
    simp
   | false =>
    have e2 : chgL c.ledger x = c.ledger := by unfold chgL; rw [hs, hc]; rfl
    simp only [cond_false]
    rw [ih _ _ hl, e2]
    simp
theorem fold_len : ∀ (r : List Job) (d : List Usage), d.length <= 4294967296 -> (r.foldl chgL d).length <= 4294967296
 | [], _, h => h
 | x :: r, d, h => fold_len r (chgL d x) (chgL_len x h)
def ticked (s : State) : State :=
 { s with now := s.now + 1, jobs := s.jobs.map chgJ, books := book_Past s.books (s.now + 1), ledger := bif ((Int.tmod (s.now + 1) 50) == 0) then ledger_Decay (s.jobs.foldl chgL s.ledger) else s.jobs.foldl chgL s.ledger }
section
variable {s : State}
theorem clock_val (h0 : state_Check s = 0) (ht : (s.now == 1000000) = false) : nag_Clock s = (ticked s, 0) := by
 obtain ⟨hp, _⟩ := check_parts h0
 obtain ⟨_, hjc, _⟩ := table_parts (plan_Check_parts hp).2
 have hn := plan_now hp
 have e := clock_prog s.jobs [] s.jobs s hjc rfl
 simp only [List.length_nil, List.nil_append] at e
 unfold nag_Clock
 rw [h0, ht]
 simp only [bne_self_eq_false, cond_false]
 rw [e]
 unfold nag_Clock_k1 ticked
 dsimp only
 rw [w6 (n := s.now + 1) (by omega)]
 cases ((Int.tmod (s.now + 1) 50) == 0) <;> rfl
theorem clock_eq (hw : Words s) : nag_Clock s = ref27_Clock s := by
 have he := state_eq hw
 cases hc : ((state_Check s) != 0) with
 | true =>
  have h141 : state_Check s = 141 := by
   cases hp : (plan_Check s != 0) with
   | true => unfold state_Check; rw [hp]; rfl
   | false =>
    have hp0 : plan_Check s = 0 := by simpa using hp
    have h := (ref_state_iff (s := s) (by rw [← plan_eq s hw.sz hw.jobs]; exact hp0)).2
    rw [← he] at h
    rcases h with h | h
    ·rw [h] at hc; cases hc
    ·exact h
  unfold nag_Clock ref27_Clock
  rw [← he, h141]
  rfl
 | false =>
  have h0 : state_Check s = 0 := by simpa using hc
  cases ht : (s.now == 1000000) with
  | true =>
   unfold nag_Clock ref27_Clock
   rw [← he, h0, ht]
   rfl
  | false =>
   obtain ⟨hp, _⟩ := check_parts h0
   obtain ⟨_, hjc, _⟩ := table_parts (plan_Check_parts hp).2
   have hn := plan_now hp
   have hl : s.ledger.length <= 4294967296 := hw.sz.2.2.2.2.2.1
   have hb : s.books.length <= 4294967296 := hw.sz.2.2.2.2.1
   have e := clock_ref s.jobs [] ((Int.toNat ((s.jobs.length : Int) - (0 : Int))) + 1) s (fun x hx => ⟨hjc x hx, hw.jobs x hx⟩) (by omega) hl
   simp only [List.length_nil, List.nil_append] at e
   rw [clock_val h0 ht]
   unfold ref27_Clock
   rw [← he, h0, ht]
   simp only [bne_self_eq_false, cond_false]
   rw [e]
   unfold ref27_Clock_k1 ticked
   dsimp only
   rw [w6 (n := s.now + 1) (by omega), past_eq _ _ hb, decay_eq _ (fold_len _ _ hl)]
   cases ((Int.tmod (s.now + 1) 50) == 0) <;> rfl
end
end Go.Proofs.YtigcpfbpmnppcaaGreatDoor
namespace Go.Proofs.YtigcpfbpmnppcaaGreatDoor
set_option linter.unusedSimpArgs false
set_option linter.unusedVariables false
open Go.Fw
theorem few_words {s : State} (h : s.wf) (hf : (!(law20_Few s)) = false) : Words s := State.wf_words h (law20_Few_sz (by simpa using hf))
end Go.Proofs.YtigcpfbpmnppcaaGreatDoor
namespace Go.Proofs.YtigcpfbpmnppcaaGreatDoor
set_option linter.unusedSimpArgs false
set_option linter.unusedVariables false
open Go.Fw
theorem chgJ_sz {x : Job} (h : x.sz) : (chgJ x).sz := by
 unfold chgJ
 cases x.state != 2 with
 | true => exact h
 | false =>
  simp only [cond_false]
  unfold job_Charge
  cases (job_Check x != 0) with
  | true => exact Job.szz _
  | false =>
   cases (job_when (x.state == 2) != 0) with
   | true => exact Job.szz _
   | false => exact h
theorem mem_at {α : Type} {a b y : α} {p q : List α} (h : y ∈ p ++ a :: q) : y ∈ p ∨ y = a ∨ y ∈ q := by
 rcases List.mem_append.1 h with h | h
 ·exact .inl h
 ·rcases List.mem_cons.1 h with h | h
  ·exact .inr (.inl h)
  ·exact .inr (.inr h)
def LedSz (d : List Usage) : Prop := d.length <= 4294967296 ∧ ∀ y ∈ d, y.sz
theorem charge_sz {d : List Usage} {user account : ByteArray} {n : Int} (h : LedSz d) (hu : user.size <= 4294967296) (ha : account.size <= 4294967296) (hc : ((ledger_Charge d user account n).2 == 0) = true) : LedSz (ledger_Charge d user account n).1 := by
 refine ⟨by have := charge_len hc; omega, ?_⟩
 rcases (ledger_iff d).2 with h0 | h2
 ·unfold ledger_Charge at hc ⊢
  rw [h0] at hc ⊢
  simp only [bne_self_eq_false, cond_false] at hc ⊢
  cases hq : (((!(ledger_name user)) || (!(ledger_name account))) || (decide (n < 0))) with
  | true => rw [hq] at hc; cases hc
  | false =>
   rw [hq] at hc
   simp only [Bool.or_eq_false_iff, Bool.not_eq_false', decide_eq_false_iff_not] at hq
   have e := charge_val h0 hq.1.1 hq.1.2 (n := n) (by omega)
   unfold ledger_Charge at e
   rw [h0, hq.1.1, hq.1.2, decide_eq_false hq.2] at e
   simp only [bne_self_eq_false, cond_false, Bool.not_true, Bool.or_false] at hc ⊢ e
   rw [e] at hc ⊢
   unfold chargeL at hc ⊢
   simp only at hc ⊢
   generalize placeU d ⟨user, account, 0, 0⟩ = p at *
   cases hf : ((decide (p < d.length)) && ((ByteArray.toList (d.getD p Usage.zero).user == ByteArray.toList user) && (ByteArray.toList (d.getD p Usage.zero).account == ByteArray.toList account))) with
   | true =>
    have hpl : p < d.length := by
     rw [Bool.and_eq_true] at hf
     exact of_decide_eq_true hf.1
    have hg : (d.getD p Usage.zero).sz := getD_sz h.2 (Usage.szz _)
    intro y hy
    simp only [cond_true] at hy
    rcases mem_at (b := y) hy with hy | rfl | hy
    ·exact h.2 y (List.mem_of_mem_take hy)
    ·exact ⟨hg.1, hg.2⟩
    ·exact h.2 y (List.mem_of_mem_drop hy)
   | false =>
    rw [hf] at hc
    cases hb : ((d.length : Int) == 200) with
    | true => rw [hb] at hc; cases hc
    | false =>
     intro y hy
     simp only [cond_false] at hy
     rcases mem_at (b := y) hy with hy | rfl | hy
     ·exact h.2 y (List.mem_of_mem_take hy)
     ·exact ⟨hu, ha⟩
     ·exact h.2 y (List.mem_of_mem_drop hy)
 ·unfold ledger_Charge at hc
  rw [h2] at hc
  cases hc
theorem fold_sz : ∀ (r : List Job) (d : List Usage), (∀ x ∈ r, x.sz) -> LedSz d -> LedSz (r.foldl chgL d)
 | [], _, _, h => h
 | x :: r, d, hr, h => by
  refine fold_sz r (chgL d x) (fun y hy => hr y (List.mem_cons_of_mem _ hy)) ?_
  have hx := hr x (List.mem_cons_self ..)
  unfold chgL
  cases x.state != 2 with
  | true => exact h
  | false =>
   cases hl : ((ledger_Charge d x.user x.account (nodeset_Count x.nodes)).2 == 0) with
   | true => exact charge_sz h hx.2.1 hx.2.2.1 hl
   | false => exact h
theorem decay_sz {d : List Usage} (h : LedSz d) : LedSz (ledger_Decay d) := by
 rcases (ledger_iff d).2 with hc | hc
 ·rw [decay_val hc]
  refine ⟨by rw [List.length_map]; exact h.1, fun y hy => ?_⟩
  obtain ⟨z, hz, rfl⟩ := List.mem_map.1 hy
  have := h.2 z hz
  exact ⟨this.1, this.2⟩
 ·unfold ledger_Decay
  rw [hc]
  exact ⟨Nat.zero_le _, fun y hy => (nomatch hy)⟩
theorem ticked_sz {s : State} (h : s.sz) : (ticked s).sz := by
 obtain ⟨h1, h2, h3, h4, h5, h6, h7⟩ := h
 have hl := fold_sz s.jobs s.ledger h3 ⟨h6, h7⟩
 refine ⟨h1, by show (s.jobs.map chgJ).length <= _; rw [List.length_map]; exact h2, fun y hy => ?_, h4, ?_, ?_⟩
 ·obtain ⟨z, hz, rfl⟩ := List.mem_map.1 hy
  exact chgJ_sz (h3 z hz)
 ·show (book_Past s.books (s.now + 1)).length <= _
  cases hb : (book_Check s.books != 0) with
  | true => unfold book_Past; rw [hb]; exact Nat.zero_le _
  | false => rw [past_val _ h5 (by simpa using hb)]; exact Nat.le_trans (List.length_filter_le _ _) h5
 ·show LedSz (bif ((Int.tmod (s.now + 1) 50) == 0) then ledger_Decay (s.jobs.foldl chgL s.ledger) else s.jobs.foldl chgL s.ledger)
  cases ((Int.tmod (s.now + 1) 50) == 0) with
  | true => exact decay_sz hl
  | false => exact hl
theorem clock_sz {s : State} (h : s.sz) : (nag_Clock s).1.sz := by
 cases hc : ((state_Check s) != 0) with
 | true => unfold nag_Clock; rw [hc]; exact State.szz _
 | false =>
  cases ht : (s.now == 1000000) with
  | true => unfold nag_Clock; rw [hc, ht]; exact State.szz _
  | false => rw [clock_val (by simpa using hc) ht]; exact ticked_sz h
theorem clocks_sz {s : State} (hp : s.wf) (hf : (!(law20_Few s)) = false) : s.sz ∧ (nag_Clock s).1.sz ∧ (ref27_Clock s).1.sz := by
 have hw := few_words hp hf
 rw [← clock_eq hw]
 exact ⟨hw.sz, clock_sz hw.sz, clock_sz hw.sz⟩
end Go.Proofs.YtigcpfbpmnppcaaGreatDoor
namespace Go.Proofs.YtigcpfbpmnppcaaGreatDoor
set_option linter.unusedSimpArgs false
set_option linter.unusedVariables false
open Go.Fw
set_option maxRecDepth 20000
set_option maxHeartbeats 4000000
attribute [local irreducible] ACalls AMoves
def law27_NagClocks (s : State) : Bool := bif (!(law20_Few s)) then law27_awake else (((ref25_Same ((nag_Clock s).1) ((ref27_Clock s).1)) && ((nag_Clock s).2 == (ref27_Clock s).2)) && law27_awake)
theorem law27_NagClocks_c (s : State) (hs0 : s.szM) (hp0 : s.wf) : ∀ objs, AGives Tryz.prog 3 [State.a s] objs (Bo (law27_NagClocks s)) := by
 generalize hR : law27_NagClocks s = R; refine ga (.cons (State.low _ _) .nil) lx (kp 7 [9]) Tryz.func3 ?_; have hk0 := hs0; obtain ⟨z3, z4, z5, z6, z7, z8, z9⟩ := hs0; refine us (law20_Few_c s (by first | (have q := clocks_sz hp0 h2; obtain ⟨q0, q1, q2⟩ := q; assumption) | exact szA) _) ?_; refine ai (fun h1 => ?_) (fun h2 => ?_)
 ·refine us (law27_awake_c _) ?_; obtain rfl := foll hR (ct h1 rfl); exact ret_seen lx sr
 ·refine us (nag_Clock_c s (by first | (have q := clocks_sz hp0 h2; obtain ⟨q0, q1, q2⟩ := q; assumption) | exact szA) _) ?_; refine us (ref27_Clock_c s (by first | (have q := clocks_sz hp0 h2; obtain ⟨q0, q1, q2⟩ := q; assumption) | exact szA) _) ?_; refine us (ref25_Same_c ((nag_Clock s).1) ((ref27_Clock s).1) (by first | (have q := clocks_sz hp0 h2; obtain ⟨q0, q1, q2⟩ := q; assumption) | exact szA) (by first | (have q := clocks_sz hp0 h2; obtain ⟨q0, q1, q2⟩ := q; assumption) | exact szA) _) ?_; (first | apply u3g | apply u4g); exact fun hg => law27_awake_c _; obtain rfl := foll hR (cf h2 rfl); exact ret_seen lx sr
end Go.Proofs.YtigcpfbpmnppcaaGreatDoor
namespace Go.Proofs.YtigcpfbpmnppcaaGreatDoor
set_option linter.unusedSimpArgs false
set_option linter.unusedVariables false
open Go.Fw
theorem awake27 : law27_awake = true := by kernel_rfl
end Go.Proofs.YtigcpfbpmnppcaaGreatDoor
namespace Go.Proofs.YtigcpfbpmnppcaaGreatDoor
set_option linter.unusedSimpArgs false
set_option linter.unusedVariables false
open Go.Fw
theorem nagClocks_true (s : State) (h : s.wf) : law27_NagClocks s = true := by
 unfold law27_NagClocks
 cases hf : law20_Few s with
 | false => exact awake27
 | true =>
  have hw := State.wf_words h (law20_Few_sz hf)
  simp only [Bool.not_true, cond_false]
  rw [clock_eq hw, (ref25_same _ _).2 rfl, awake27]
  simp
end Go.Proofs.YtigcpfbpmnppcaaGreatDoor
namespace Go.Proofs.YtigcpfbpmnppcaaGreatDoor
set_option linter.unusedSimpArgs false
set_option linter.unusedVariables false
open Go.Fw Go.RowKit Go.ChangeShapes Go.WideShapes
theorem lawOwn : ownKnob Tryz.prog.godebug = none := by kernel_rfl
theorem lawLaid : laidOutB Tryz.prog = true := by kernel_rfl
theorem lawBool : Tryz.prog.underlying 4 = some .bool := by kernel_rfl
set_option maxRecDepth 100000 in
theorem lawDoor (os : Os) (args : Array Value) : laidMetH Tryz.prog Rows.nagClocksRow.laid ((World.doorLaid Tryz.prog 400 os).forCall (fun _ _ => 0) ⟨#[], args, []⟩).memory :=
 laidMetH_of_parts3 (fuel := 8) (laidMet_of_run' 8 (by kernel_rfl) (by kernel_rfl)) (by kernel_rfl) (by kernel_rfl)
set_option maxRecDepth 100000 in
theorem nagClocks_lifted (law : ∀ (a0 : State), State.wf a0 -> AGives Tryz.prog 3 [State.a a0] [] (.lit (.bool true))) (os : Os) (started : os.Started) (H : Type) (enc : TypeId × Value -> H) :
  ReturnsInHanded {} Tryz.checked os 3 .any (fun w args => (Rows.nagClocksSpec.pre enc Tryz.prog Tryz.f3 [] false w args ∧ laidMetH Tryz.prog Rows.nagClocksRow.laid w) ∧ sizedMet enc Tryz.prog Tryz.f3 (OpenSpec.ofChange Rows.nagClocksSpec) false w args)
   (Rows.nagClocksSpec.post enc Tryz.prog Tryz.f3 false true false false) := by
 refine law_lifted_laid (C := Tryz.checked) (tb := 4) lawOwn started (by kernel_rfl) Tryz.func3
  (ChangeSpec.witness_shaped (enc := enc) (C := Tryz.checked) (os := os) (X := fun w _ => laidMetH Tryz.prog Rows.nagClocksRow.laid w) false (World.doorLaid Tryz.prog 400 os) #[.agg #[.int .i64 0, .slice none 0 0, .slice none 0 0, .slice none 0 0, .slice none 0 0, .slice none 0 0, .int .i64 0, .int .i64 0]] 8 rfl (World.shaped_of_RefB (by kernel_rfl) (by kernel_rfl)) (by kernel_rfl) (by kernel_rfl) (by kernel_rfl) (lawDoor os _)) rfl (by kernel_rfl) lawBool lawLaid (by kernel_rfl) ?_
  (.cons _ _ _ _ _ (ArgAs.struct rfl readState) .nil) ?_
 ·intro ds hd
  match ds, hd with
  | [_], _ => rfl
 ·rintro l ⟨a0, m0, g0, rfl, rfl⟩
  exact law a0 g0
theorem nagClocks_holds0 (law : ∀ (a0 : State), State.wf a0 -> AGives Tryz.prog 3 [State.a a0] [] (.lit (.bool true))) : Rows.NagClocksSaid :=
 OpenClaim.holds_of_wide 3 Tryz.f3 rfl rfl rfl rfl rfl rfl rfl ⟨rfl, rfl, rfl, rfl, rfl⟩ rfl rfl rfl rfl rfl (by kernel_rfl) Tryz.func3 (by kernel_rfl)
  (of_decide_eq_true (by kernel_rfl)) (by unfold Func.isWrapper; first | (rw [if_pos (by decide +kernel)]; kernel_rfl) | (rw [if_neg (by decide +kernel)]; exact ⟨rfl, rfl⟩))
  (fun os started H enc _ => nagClocks_lifted law os started H enc)
theorem nagClocks_card0 (law : ∀ (a0 : State), State.wf a0 -> AGives Tryz.prog 3 [State.a a0] [] (.lit (.bool true))) : Rows.NagClocksCardSaid :=
 Claim7.holds_tied_plain_at .later [] [.data, .data, .data, .sentinel, .sentinel] true (true, "4964f6699f38809c81a54ccce3b2ebc1e47cb2e088c00cbe3e446afb9ed0c671") true
  (nagClocks_holds0 law) (fun _ h => by cases h) (by kernel_rfl) (fun _ h => by cases h) nagClocks_row_tie rfl ⟨rfl, rfl⟩ (by kernel_rfl) rfl
  (fun f fn hf hfn => by
   obtain rfl : f = 3 := Option.some.inj ((show Tryz.prog.funcNamed "muster/musterlaw27.NagClocks" = some 3 by kernel_rfl).symm.trans hf) |>.symm
   obtain rfl : fn = Tryz.f3 := (Option.some.inj (Tryz.func3.symm.trans hfn)).symm
   exact ⟨by kernel_rfl, fun j t ht => by
    rcases j with _ | j
    ·obtain rfl : t = 28 := (Option.some.inj ((show Tryz.f3.params[0]? = some 28 by kernel_rfl).symm.trans ht)).symm
     exact (show Tryz.prog.wantsStandIn 28 = false by kernel_rfl)
    ·exact absurd ht (by rw [show Tryz.f3.params[j + 1]? = none from Array.getElem?_eq_none (by show Tryz.f3.params.size <= j + 1; rw [show Tryz.f3.params.size = 1 by kernel_rfl]; omega)]; exact fun h => nomatch h)⟩)
  (by kernel_rfl)
#print axioms nagClocks_card0
end Go.Proofs.YtigcpfbpmnppcaaGreatDoor
namespace Go.Proofs.YtigcpfbpmnppcaaGreatDoor
set_option linter.unusedSimpArgs false
set_option linter.unusedVariables false
open Go.Fw
theorem nagClocks_gives (a : State) (ha : a.wf) : AGives Tryz.prog 3 [State.a a] [] (.lit (.bool true)) := by
 have h := law27_NagClocks_c a (State.wf_szM ha) ha []
 rw [nagClocks_true a ha] at h
 exact h
theorem nagClocks_card : Rows.NagClocksCardSaid := nagClocks_card0 nagClocks_gives
#print axioms nagClocks_card
end Go.Proofs.YtigcpfbpmnppcaaGreatDoor
