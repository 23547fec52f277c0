/-
  Contracts of functions, printed by a program of this repo (wip/dec). No condition beyond those that stand in each.
  Words as sets of bits: what and, or, and-not, a power, a sum of powers say of each bit. Program-independent; no condition but that a number is a word's.
  The program's and the document's sets of nodes: which bits they have. No condition beyond those that stand in each.
  How many bits a word has: the sum that is made in parallel is the number of its bits. Program-independent.
  What the program's and the document's 'same' say of states: that they are one and the same. No condition.
  Tables of jobs: what a table that may be is like; what the check of a state shows of its jobs. Conditions stand in each lemma.
  The program's checks and the document's are the same, first part: nodes, books, the ledger, shapes. Conditions stand in each lemma.
  The program's checks and the document's are the same, second part: the ledger, shapes and their options, names, what is waited for. Conditions stand in each lemma.
  The program's checks and the document's are the same, third part: how many nodes a set has. Conditions stand in each lemma.
  The program's checks and the document's are the same, fourth part: a shape's options, names, what is waited for. Conditions stand in each lemma.
  The program's checks and the document's are the same, fifth part: what is a word. Conditions stand in each lemma.
  The program's checks and the document's are the same, sixth part: a text is a word for the program if it is one for the document. Conditions stand in each lemma.
  The program's checks and the document's are the same, seventh part: a text is a word for the document if it is one for the program. Conditions stand in each lemma.
  The program's checks and the document's are the same, eighth part: submissions, jobs, tables of jobs, what a plan asks of a state. Condition: sets of nodes are words; texts and rows are of a size that a machine holds.
  The program's checks and the document's are the same, ninth part: sets of nodes as the document makes them; what runs; what is resized. Conditions stand in each lemma.
  The program's checks and the document's are the same, tenth part: one change of size. Conditions stand in each lemma.
  The program's checks and the document's are the same, eleventh part: a change of size may be for the program if it may be for the document. Conditions stand in each lemma.
  The program's checks and the document's are the same, twelfth part: what state may be. Condition: sets of nodes are words; texts and rows are of a size that a machine holds.
  The program's checks and the document's are the same, last part: what state may be; a job's nodes; its resize; a new state. Condition: sets of nodes are words; texts and rows are of a size that a machine holds.
  The same for a row that lists package variables: from a law's contract to the row's statement: the arguments are read, the law is called, they read as they did. Program-independent.
  How arguments are read: structs of the program, with what is known of them. No condition.
  What is read is of a size that a machine holds. No condition.
  What is read has words for sets. No condition.
  What is few is of a size that a machine holds. No condition.
  Nag, first part: what a state that may be shows of its nodes and its changes of size; what is late, stale and over. Conditions stand in each lemma.
  Nag, second part: what is not answered is sent again as the document says; NagTells. Conditions stand in each lemma.
  Nag, third part: the order of the ledger's entries; what a ledger that may be is like; usages added up and halved. Conditions stand in each lemma.
-/
import Derived.Test.YtigcpfbpmnppcaaGreatDoorH11
import Derived.Test.YtigcpfbpmnppcaaGreatDoorProg
import Derived.Test.YtigcpfbpmnppcaaGreatDoorH7
import Derived.Test.YtigcpfbpmnppcaaGreatDoorH6
import Derived.LaidMore
import Derived.Stop.Joined
import Derived.JoinedOf
import Derived.Handed
import Derived.OpenShut
import Derived.KernelRfl
namespace Go.Proofs.YtigcpfbpmnppcaaGreatDoor
set_option linter.unusedSimpArgs false
set_option linter.unusedVariables false
open Go.Fw
set_option maxRecDepth 20000
set_option maxHeartbeats 4000000
attribute [local irreducible] ACalls AMoves
def nag_Clock_g1  : List Job -> Nat -> List Job -> State -> (List Job) × State
 | [], _, _, c2 => (c2.jobs, c2)
 | _ :: r, i, _, c2 => bif ((c2.jobs.getD i Job.zero).state != 2) then nag_Clock_g1 r (i + 1) c2.jobs c2 else bif ((job_Charge (c2.jobs.getD i Job.zero) (nodeset_Count ((c2.jobs.getD i Job.zero).nodes))).2 == 0) then bif ((ledger_Charge c2.ledger ((c2.jobs.getD i Job.zero).user) ((c2.jobs.getD i Job.zero).account) (nodeset_Count ((c2.jobs.getD i Job.zero).nodes))).2 == 0) then nag_Clock_g1 r (i + 1) (c2.jobs.set i ((job_Charge (c2.jobs.getD i Job.zero) (nodeset_Count ((c2.jobs.getD i Job.zero).nodes))).1)) { c2 with jobs := (c2.jobs.set i ((job_Charge (c2.jobs.getD i Job.zero) (nodeset_Count ((c2.jobs.getD i Job.zero).nodes))).1)), ledger := (ledger_Charge c2.ledger ((c2.jobs.getD i Job.zero).user) ((c2.jobs.getD i Job.zero).account) (nodeset_Count ((c2.jobs.getD i Job.zero).nodes))).1 } else nag_Clock_g1 r (i + 1) (c2.jobs.set i ((job_Charge (c2.jobs.getD i Job.zero) (nodeset_Count ((c2.jobs.getD i Job.zero).nodes))).1)) { c2 with jobs := (c2.jobs.set i ((job_Charge (c2.jobs.getD i Job.zero) (nodeset_Count ((c2.jobs.getD i Job.zero).nodes))).1)) } else bif ((ledger_Charge c2.ledger ((c2.jobs.getD i Job.zero).user) ((c2.jobs.getD i Job.zero).account) (nodeset_Count ((c2.jobs.getD i Job.zero).nodes))).2 == 0) then nag_Clock_g1 r (i + 1) c2.jobs { c2 with ledger := (ledger_Charge c2.ledger ((c2.jobs.getD i Job.zero).user) ((c2.jobs.getD i Job.zero).account) (nodeset_Count ((c2.jobs.getD i Job.zero).nodes))).1 } else nag_Clock_g1 r (i + 1) c2.jobs c2
def nag_Clock_k1 (c : List Job) (c2 : State) : State × Int := bif ((Int.tmod (w64 (c2.now + 1)) 50) == 0) then ({ c2 with now := (w64 (c2.now + 1)), books := (book_Past c2.books (w64 (c2.now + 1))), ledger := (ledger_Decay c2.ledger) }, 0) else ({ c2 with now := (w64 (c2.now + 1)), books := (book_Past c2.books (w64 (c2.now + 1))) }, 0)
def nag_Clock (s : State) : State × Int := bif ((state_Check s) != 0) then (State.zero, (state_Check s)) else bif (s.now == 1000000) then (State.zero, 153) else nag_Clock_k1 ((nag_Clock_g1 s.jobs 0 s.jobs s).1) ((nag_Clock_g1 s.jobs 0 s.jobs s).2)
theorem nag_Clock_c (s : State) (hs0 : s.sz) : ∀ objs, AGives Tryz.prog 9 [State.a s] objs (AVal.tup [State.a ((nag_Clock s).1), I ((nag_Clock s).2)]) := by
 generalize hR : nag_Clock s = R; refine ga (.cons (State.low _ _) .nil) (Low.tup' (.cons (State.low _ _) (l1 .nil))) (kp 6 [9, 14, 26]) Tryz.func9 ?_; have hk0 := hs0; obtain ⟨z22, z23, z24, z25, z26, z27, z28⟩ := hs0; refine us (state_Check_c s (by first | (exact getD_sz hx.2.2.2.1 (Job.szz _)) | first | (exact (getD_sz hx.2.2.2.1 (Job.szz _)).2.1) | first | (exact (getD_sz hx.2.2.2.1 (Job.szz _)).2.2.1) | first | (exact hx.2.2.2.2.2.2) | first | (exact hx.2.2.2.2.2.1) | exact szA) _) ?_; refine ai (fun h1 => ?_) (fun h2 => ?_)
 ·obtain rfl := foll hR (ct h1 rfl); exact ret_seen (Low.tup' (.cons (State.low _ _) (l1 .nil))) (Seen.tup (ev (Seen.agg (e1 (ev (seen_nil) (ev (seen_nil) (ev (seen_nil) (ev (seen_nil) (ev (seen_nil) (e1 (e1 .nil))))))))) (e1 .nil)))
 ·refine ai (fun h3 => ?_) (fun h4 => ?_)
  ·obtain rfl := foll hR (cf h2 (ct h3 rfl)); exact ret_seen (Low.tup' (.cons (State.low _ _) (l1 .nil))) (Seen.tup (ev (Seen.agg (e1 (ev (seen_nil) (ev (seen_nil) (ev (seen_nil) (ev (seen_nil) (ev (seen_nil) (e1 (e1 .nil))))))))) (e1 .nil)))
  ·refine us (mv [] (state_Copy_p s (by first | (exact getD_sz hx.2.2.2.1 (Job.szz _)) | first | (exact (getD_sz hx.2.2.2.1 (Job.szz _)).2.1) | first | (exact (getD_sz hx.2.2.2.1 (Job.szz _)).2.2.1) | first | (exact hx.2.2.2.2.2.2) | first | (exact hx.2.2.2.2.2.1) | exact szA)) .nil (dv (dn_low (Low.agg' (State.lo))) .nil) (rO rr .nil) (ren_agg (r1 (rv (Ren.low _ lw) (.cons _ _ _ _ (rw_ 2 0 rfl) (rv (Ren.low _ lw) (rv (Ren.low _ lw) (rv (Ren.low _ lw) (r1 (r1 .nil)))))))))) ?_; refine ACalls.of_cwp (fun _ => true) Tryz.func33 rfl rfl ?_; refine loop_start3 (fun (i : Nat) (c : List Job) (c2 : State) => nag_Clock_k1 (nag_Clock_g1 (List.drop i s.jobs) i c c2).1 (nag_Clock_g1 (List.drop i s.jobs) i c c2).2 = R ∧ i <= s.jobs.length ∧ c2.jobs.length = s.jobs.length ∧ c2.sz) (fun i c c2 => s.jobs.length - i) (fun i c c2 => [(1, AVal.ptr 3 0 8 0 0), (2, AVal.ptr 4 0 8 0 0), (11, AVal.own 2 0 20 0 c2.jobs.length), (12, I (s.jobs.length : Int)), (13, I (i : Int))]) (fun i c c2 => [(0, AObj.row 28 8 [[I s.now, nodeL s.nodes, jobL s.jobs, resizeL s.resizes, bookL s.books, usageL s.ledger, I s.nextJob, I s.nextBook]]), (0, AObj.row 28 8 [[I 0, AVal.lit (.slice none 0 0), AVal.lit (.slice none 0 0), AVal.lit (.slice none 0 0), AVal.lit (.slice none 0 0), AVal.lit (.slice none 0 0), I 0, I 0]]), (0, AObj.row 52 20 (c2.jobs.map Job.cells)), (0, AObj.row 28 8 [[I c2.now, nodeL c2.nodes, AVal.own 2 0 20 0 c2.jobs.length, resizeL c2.resizes, bookL c2.books, usageL c2.ledger, I c2.nextJob, I c2.nextBook]]), (0, AObj.row 28 8 [[I 0, AVal.lit (.slice none 0 0), AVal.lit (.slice none 0 0), AVal.lit (.slice none 0 0), AVal.lit (.slice none 0 0), AVal.lit (.slice none 0 0), I 0, I 0]])]) 0 s.jobs s (wk [0, 1, 2, 3, 4] (tO rfl (ts State.lo) (tO rfl (ts (l1 (l1 (l1 (l1 (l1 (l1 (l1 (l1 LowL.nil))))))))) (tO rfl (tl eqA) (tO rfl (turn_row1 (c1 (cv (turn_low lw) (cv (to 2 lnA) (cv (turn_low lw) (cv (turn_low lw) (cv (turn_low lw) (c1 (c1 .nil))))))))) (tO rfl (ts (l1 (l1 (l1 (l1 (l1 (l1 (l1 (l1 LowL.nil))))))))) .nil))))) (sv (turn_ptr 3 rfl rfl) (sv (turn_ptr 4 rfl rfl) (sv (to 2 lnA) (s1 (s1 .nil)))))) ⟨foll hR (cf h2 (cf h4 rfl)), by exact omA, by first | (exact ⟨rfl, hk0⟩) | first | (exact hx) | first | (exact ⟨(List.length_set ..).trans hx.1, tick_led (tick_jobs hx.2 i _) (getD_sz hx.2.2.2.1 (Job.szz _)).2.1 (getD_sz hx.2.2.2.1 (Job.szz _)).2.2.1 (by assumption)⟩) | first | (exact ⟨(List.length_set ..).trans hx.1, tick_jobs hx.2 i _⟩) | first | (exact ⟨hx.1, tick_led hx.2 (getD_sz hx.2.2.2.1 (Job.szz _)).2.1 (getD_sz hx.2.2.2.1 (Job.szz _)).2.2.1 (by assumption)⟩) | exact exA⟩ ?_; clear hR; rintro i c c2 ⟨hR, hj, hx⟩; (try dsimp only at hR hj hx); refine ai (fun h5 => ?_) (fun h6 => ?_)
   ·have hlt := ltA h5; rw [drop_getD Job.zero hlt] at hR; have hxz : (s.jobs.getD i Job.zero).sz := getD_sz (by first | assumption | grind) (Job.szz _); have hkz := hxz; obtain ⟨z7, z8, z9, z10, z11⟩ : ((s.jobs.getD i Job.zero).name).size <= 4294967296 ∧ ((s.jobs.getD i Job.zero).user).size <= 4294967296 ∧ ((s.jobs.getD i Job.zero).account).size <= 4294967296 ∧ ((((s.jobs.getD i Job.zero).shape).alts).length <= 4294967296) ∧ ((s.jobs.getD i Job.zero).after).length <= 4294967296 := hxz; refine ai gkA ?_; refine ⟨_, evalOp_load rfl rfl rfl (elemI_at Job.zero i roA ckA) rfl, ?_⟩; refine ai (fun h12 => ?_) (fun h13 => ?_)
    ·exact loop_next3 (i + 1) c2.jobs c2 (wk [0, 1, 2, 3, 4] (tO rfl (ts State.lo) (tO rfl (ts (l1 (l1 (l1 (l1 (l1 (l1 (l1 (l1 LowL.nil))))))))) (tO rfl (tl eqA) (tO rfl (turn_row1 (c1 (cv (turn_low lw) (cv (to 2 lnA) (cv (turn_low lw) (cv (turn_low lw) (cv (turn_low lw) (c1 (c1 .nil))))))))) (tO rfl (ts (l1 (l1 (l1 (l1 (l1 (l1 (l1 (l1 LowL.nil))))))))) .nil))))) (sv (turn_ptr 3 rfl rfl) (sv (turn_ptr 4 rfl rfl) (sv (to 2 lnA) (s1 (sv (turn_eq (I_eq (wr omA)) lx) .nil)))))) omA ⟨foll hR (congrArg (fun p : (List Job) × State => nag_Clock_k1 p.1 p.2) (ct h12 rfl)), by exact omA, by first | (exact ⟨rfl, hk0⟩) | first | (exact hx) | first | (exact ⟨(List.length_set ..).trans hx.1, tick_led (tick_jobs hx.2 i _) (getD_sz hx.2.2.2.1 (Job.szz _)).2.1 (getD_sz hx.2.2.2.1 (Job.szz _)).2.2.1 (by assumption)⟩) | first | (exact ⟨(List.length_set ..).trans hx.1, tick_jobs hx.2 i _⟩) | first | (exact ⟨hx.1, tick_led hx.2 (getD_sz hx.2.2.2.1 (Job.szz _)).2.1 (getD_sz hx.2.2.2.1 (Job.szz _)).2.2.1 (by assumption)⟩) | exact exA⟩
    ·refine us (nodeset_Count_c ((c2.jobs.getD i Job.zero).nodes) _) ?_; refine us (job_Charge_c (c2.jobs.getD i Job.zero) (nodeset_Count ((c2.jobs.getD i Job.zero).nodes)) (by first | (exact getD_sz hx.2.2.2.1 (Job.szz _)) | first | (exact (getD_sz hx.2.2.2.1 (Job.szz _)).2.1) | first | (exact (getD_sz hx.2.2.2.1 (Job.szz _)).2.2.1) | first | (exact hx.2.2.2.2.2.2) | first | (exact hx.2.2.2.2.2.1) | exact szA) _) ?_; refine ai (fun h14 => ?_) (fun h15 => ?_)
     ·refine ai gkA ?_; refine ⟨_, evalOp_store rfl rfl rfl rfl (elemI_at Job.zero i roA ckA) rfl rfl (set_map i ((job_Charge (c2.jobs.getD i Job.zero) (nodeset_Count ((c2.jobs.getD i Job.zero).nodes))).1) roA rfl), ?_⟩; refine us (ledger_Charge_c c2.ledger ((c2.jobs.getD i Job.zero).user) ((c2.jobs.getD i Job.zero).account) (nodeset_Count ((c2.jobs.getD i Job.zero).nodes)) (by first | (exact getD_sz hx.2.2.2.1 (Job.szz _)) | first | (exact (getD_sz hx.2.2.2.1 (Job.szz _)).2.1) | first | (exact (getD_sz hx.2.2.2.1 (Job.szz _)).2.2.1) | first | (exact hx.2.2.2.2.2.2) | first | (exact hx.2.2.2.2.2.1) | exact szA) (by first | (exact getD_sz hx.2.2.2.1 (Job.szz _)) | first | (exact (getD_sz hx.2.2.2.1 (Job.szz _)).2.1) | first | (exact (getD_sz hx.2.2.2.1 (Job.szz _)).2.2.1) | first | (exact hx.2.2.2.2.2.2) | first | (exact hx.2.2.2.2.2.1) | exact szA) (by first | (exact getD_sz hx.2.2.2.1 (Job.szz _)) | first | (exact (getD_sz hx.2.2.2.1 (Job.szz _)).2.1) | first | (exact (getD_sz hx.2.2.2.1 (Job.szz _)).2.2.1) | first | (exact hx.2.2.2.2.2.2) | first | (exact hx.2.2.2.2.2.1) | exact szA) _) ?_; refine ai (fun h16 => ?_) (fun h17 => ?_)
      ·exact loop_next3 (i + 1) (c2.jobs.set i ((job_Charge (c2.jobs.getD i Job.zero) (nodeset_Count ((c2.jobs.getD i Job.zero).nodes))).1)) { c2 with jobs := (c2.jobs.set i ((job_Charge (c2.jobs.getD i Job.zero) (nodeset_Count ((c2.jobs.getD i Job.zero).nodes))).1)), ledger := (ledger_Charge c2.ledger ((c2.jobs.getD i Job.zero).user) ((c2.jobs.getD i Job.zero).account) (nodeset_Count ((c2.jobs.getD i Job.zero).nodes))).1 } (wk [0, 1, 2, 3, 4] (tO rfl (ts State.lo) (tO rfl (ts (l1 (l1 (l1 (l1 (l1 (l1 (l1 (l1 LowL.nil))))))))) (tO rfl (tl eqA) (tO rfl (turn_row1 (c1 (cv (turn_low lw) (cv (to 2 lnA) (cv (turn_low lw) (cv (turn_low lw) (cv (turn_low lw) (c1 (c1 .nil))))))))) (tO rfl (ts (l1 (l1 (l1 (l1 (l1 (l1 (l1 (l1 LowL.nil))))))))) .nil))))) (sv (turn_ptr 3 rfl rfl) (sv (turn_ptr 4 rfl rfl) (sv (to 2 lnA) (s1 (sv (turn_eq (I_eq (wr omA)) lx) .nil)))))) omA ⟨foll hR (congrArg (fun p : (List Job) × State => nag_Clock_k1 p.1 p.2) (cf h13 (ct h14 (ct h16 rfl)))), by exact omA, by first | (exact ⟨rfl, hk0⟩) | first | (exact hx) | first | (exact ⟨(List.length_set ..).trans hx.1, tick_led (tick_jobs hx.2 i _) (getD_sz hx.2.2.2.1 (Job.szz _)).2.1 (getD_sz hx.2.2.2.1 (Job.szz _)).2.2.1 (by assumption)⟩) | first | (exact ⟨(List.length_set ..).trans hx.1, tick_jobs hx.2 i _⟩) | first | (exact ⟨hx.1, tick_led hx.2 (getD_sz hx.2.2.2.1 (Job.szz _)).2.1 (getD_sz hx.2.2.2.1 (Job.szz _)).2.2.1 (by assumption)⟩) | exact exA⟩
      ·exact loop_next3 (i + 1) (c2.jobs.set i ((job_Charge (c2.jobs.getD i Job.zero) (nodeset_Count ((c2.jobs.getD i Job.zero).nodes))).1)) { c2 with jobs := (c2.jobs.set i ((job_Charge (c2.jobs.getD i Job.zero) (nodeset_Count ((c2.jobs.getD i Job.zero).nodes))).1)) } (wk [0, 1, 2, 3, 4] (tO rfl (ts State.lo) (tO rfl (ts (l1 (l1 (l1 (l1 (l1 (l1 (l1 (l1 LowL.nil))))))))) (tO rfl (tl eqA) (tO rfl (turn_row1 (c1 (cv (turn_low lw) (cv (to 2 lnA) (cv (turn_low lw) (cv (turn_low lw) (cv (turn_low lw) (c1 (c1 .nil))))))))) (tO rfl (ts (l1 (l1 (l1 (l1 (l1 (l1 (l1 (l1 LowL.nil))))))))) .nil))))) (sv (turn_ptr 3 rfl rfl) (sv (turn_ptr 4 rfl rfl) (sv (to 2 lnA) (s1 (sv (turn_eq (I_eq (wr omA)) lx) .nil)))))) omA ⟨foll hR (congrArg (fun p : (List Job) × State => nag_Clock_k1 p.1 p.2) (cf h13 (ct h14 (cf h17 rfl)))), by exact omA, by first | (exact ⟨rfl, hk0⟩) | first | (exact hx) | first | (exact ⟨(List.length_set ..).trans hx.1, tick_led (tick_jobs hx.2 i _) (getD_sz hx.2.2.2.1 (Job.szz _)).2.1 (getD_sz hx.2.2.2.1 (Job.szz _)).2.2.1 (by assumption)⟩) | first | (exact ⟨(List.length_set ..).trans hx.1, tick_jobs hx.2 i _⟩) | first | (exact ⟨hx.1, tick_led hx.2 (getD_sz hx.2.2.2.1 (Job.szz _)).2.1 (getD_sz hx.2.2.2.1 (Job.szz _)).2.2.1 (by assumption)⟩) | exact exA⟩
     ·refine us (ledger_Charge_c c2.ledger ((c2.jobs.getD i Job.zero).user) ((c2.jobs.getD i Job.zero).account) (nodeset_Count ((c2.jobs.getD i Job.zero).nodes)) (by first | (exact getD_sz hx.2.2.2.1 (Job.szz _)) | first | (exact (getD_sz hx.2.2.2.1 (Job.szz _)).2.1) | first | (exact (getD_sz hx.2.2.2.1 (Job.szz _)).2.2.1) | first | (exact hx.2.2.2.2.2.2) | first | (exact hx.2.2.2.2.2.1) | exact szA) (by first | (exact getD_sz hx.2.2.2.1 (Job.szz _)) | first | (exact (getD_sz hx.2.2.2.1 (Job.szz _)).2.1) | first | (exact (getD_sz hx.2.2.2.1 (Job.szz _)).2.2.1) | first | (exact hx.2.2.2.2.2.2) | first | (exact hx.2.2.2.2.2.1) | exact szA) (by first | (exact getD_sz hx.2.2.2.1 (Job.szz _)) | first | (exact (getD_sz hx.2.2.2.1 (Job.szz _)).2.1) | first | (exact (getD_sz hx.2.2.2.1 (Job.szz _)).2.2.1) | first | (exact hx.2.2.2.2.2.2) | first | (exact hx.2.2.2.2.2.1) | exact szA) _) ?_; refine ai (fun h18 => ?_) (fun h19 => ?_)
      ·exact loop_next3 (i + 1) c2.jobs { c2 with ledger := (ledger_Charge c2.ledger ((c2.jobs.getD i Job.zero).user) ((c2.jobs.getD i Job.zero).account) (nodeset_Count ((c2.jobs.getD i Job.zero).nodes))).1 } (wk [0, 1, 2, 3, 4] (tO rfl (ts State.lo) (tO rfl (ts (l1 (l1 (l1 (l1 (l1 (l1 (l1 (l1 LowL.nil))))))))) (tO rfl (tl eqA) (tO rfl (turn_row1 (c1 (cv (turn_low lw) (cv (to 2 lnA) (cv (turn_low lw) (cv (turn_low lw) (cv (turn_low lw) (c1 (c1 .nil))))))))) (tO rfl (ts (l1 (l1 (l1 (l1 (l1 (l1 (l1 (l1 LowL.nil))))))))) .nil))))) (sv (turn_ptr 3 rfl rfl) (sv (turn_ptr 4 rfl rfl) (sv (to 2 lnA) (s1 (sv (turn_eq (I_eq (wr omA)) lx) .nil)))))) omA ⟨foll hR (congrArg (fun p : (List Job) × State => nag_Clock_k1 p.1 p.2) (cf h13 (cf h15 (ct h18 rfl)))), by exact omA, by first | (exact ⟨rfl, hk0⟩) | first | (exact hx) | first | (exact ⟨(List.length_set ..).trans hx.1, tick_led (tick_jobs hx.2 i _) (getD_sz hx.2.2.2.1 (Job.szz _)).2.1 (getD_sz hx.2.2.2.1 (Job.szz _)).2.2.1 (by assumption)⟩) | first | (exact ⟨(List.length_set ..).trans hx.1, tick_jobs hx.2 i _⟩) | first | (exact ⟨hx.1, tick_led hx.2 (getD_sz hx.2.2.2.1 (Job.szz _)).2.1 (getD_sz hx.2.2.2.1 (Job.szz _)).2.2.1 (by assumption)⟩) | exact exA⟩
      ·exact loop_next3 (i + 1) c2.jobs c2 (wk [0, 1, 2, 3, 4] (tO rfl (ts State.lo) (tO rfl (ts (l1 (l1 (l1 (l1 (l1 (l1 (l1 (l1 LowL.nil))))))))) (tO rfl (tl eqA) (tO rfl (turn_row1 (c1 (cv (turn_low lw) (cv (to 2 lnA) (cv (turn_low lw) (cv (turn_low lw) (cv (turn_low lw) (c1 (c1 .nil))))))))) (tO rfl (ts (l1 (l1 (l1 (l1 (l1 (l1 (l1 (l1 LowL.nil))))))))) .nil))))) (sv (turn_ptr 3 rfl rfl) (sv (turn_ptr 4 rfl rfl) (sv (to 2 lnA) (s1 (sv (turn_eq (I_eq (wr omA)) lx) .nil)))))) omA ⟨foll hR (congrArg (fun p : (List Job) × State => nag_Clock_k1 p.1 p.2) (cf h13 (cf h15 (cf h19 rfl)))), by exact omA, by first | (exact ⟨rfl, hk0⟩) | first | (exact hx) | first | (exact ⟨(List.length_set ..).trans hx.1, tick_led (tick_jobs hx.2 i _) (getD_sz hx.2.2.2.1 (Job.szz _)).2.1 (getD_sz hx.2.2.2.1 (Job.szz _)).2.2.1 (by assumption)⟩) | first | (exact ⟨(List.length_set ..).trans hx.1, tick_jobs hx.2 i _⟩) | first | (exact ⟨hx.1, tick_led hx.2 (getD_sz hx.2.2.2.1 (Job.szz _)).2.1 (getD_sz hx.2.2.2.1 (Job.szz _)).2.2.1 (by assumption)⟩) | exact exA⟩
   ·rw [drop_none (l := s.jobs) (j := i) (geA h6)] at hR; replace hR : nag_Clock_k1 c2.jobs c2 = R := fo2 (fun p : (List Job) × State => nag_Clock_k1 p.1 p.2) (c2.jobs, c2) hR rfl; refine ⟨_, _, Told.refl, ?_⟩; refine ai gkA ?_; refine ai (fun h20 => ?_) (fun h21 => ?_)
    ·refine us (ledger_Decay_c c2.ledger (by first | (exact getD_sz hx.2.2.2.1 (Job.szz _)) | first | (exact (getD_sz hx.2.2.2.1 (Job.szz _)).2.1) | first | (exact (getD_sz hx.2.2.2.1 (Job.szz _)).2.2.1) | first | (exact hx.2.2.2.2.2.2) | first | (exact hx.2.2.2.2.2.1) | exact szA) _) ?_; refine us (book_Past_c c2.books (w64 (c2.now + 1)) (by first | (exact getD_sz hx.2.2.2.1 (Job.szz _)) | first | (exact (getD_sz hx.2.2.2.1 (Job.szz _)).2.1) | first | (exact (getD_sz hx.2.2.2.1 (Job.szz _)).2.2.1) | first | (exact hx.2.2.2.2.2.2) | first | (exact hx.2.2.2.2.2.1) | exact szA) _) ?_; obtain rfl := foll hR (ct h20 rfl); exact ret_seen (Low.tup' (.cons (State.low _ _) (l1 .nil))) (Seen.tup (ev (Seen.agg (e1 (e1 (ev (seen_list Job.zero _ rfl eqA lnA) (e1 (e1 (e1 (e1 (e1 .nil))))))))) (e1 .nil)))
    ·refine us (book_Past_c c2.books (w64 (c2.now + 1)) (by first | (exact getD_sz hx.2.2.2.1 (Job.szz _)) | first | (exact (getD_sz hx.2.2.2.1 (Job.szz _)).2.1) | first | (exact (getD_sz hx.2.2.2.1 (Job.szz _)).2.2.1) | first | (exact hx.2.2.2.2.2.2) | first | (exact hx.2.2.2.2.2.1) | exact szA) _) ?_; obtain rfl := foll hR (cf h21 rfl); exact ret_seen (Low.tup' (.cons (State.low _ _) (l1 .nil))) (Seen.tup (ev (Seen.agg (e1 (e1 (ev (seen_list Job.zero _ rfl eqA lnA) (e1 (e1 (e1 (e1 (e1 .nil))))))))) (e1 .nil)))
def nag_Resend_g1 (s : State) : List Node -> List Int -> Nat -> (List Int)
 | [], out, _ => out
 | _ :: r, out, i => bif (nag_at_again s.now (s.nodes.getD i Node.zero)) then nag_Resend_g1 s r (out ++ ([(i : Int)] : List Int)) (i + 1) else nag_Resend_g1 s r out (i + 1)
def nag_Resend_k2 (l : List Int) (c : State) : State × (List Note) := (c, (alloc_Notes c.nodes l))
def nag_Resend_g3 (s : State) (out : List Int) : List Int -> Nat -> List Node -> (List Node)
 | [], _, c2 => c2
 | _ :: r, i1, c2 => nag_Resend_g3 s out r (i1 + 1) (c2.set (Int.toNat (out.getD i1 0)) { (c2.getD (Int.toNat (out.getD i1 0)) Node.zero) with asked := s.now })
def nag_Resend_k3 (s : State) (out : List Int) (c2 : List Node) : State × (List Note) := nag_Resend_k2 out { s with nodes := c2 }
def nag_Resend_k1 (s : State) (out : List Int) : State × (List Note) := nag_Resend_k3 s out (nag_Resend_g3 s out out 0 s.nodes)
def nag_Resend (s : State) : State × (List Note) := bif ((state_Check s) != 0) then (State.zero, []) else nag_Resend_k1 s (nag_Resend_g1 s s.nodes [] 0)
theorem nag_Resend_c (s : State) (hs0 : s.sz) : ∀ objs, AGives Tryz.prog 12 [State.a s] objs (AVal.tup [State.a ((nag_Resend s).1), noteL ((nag_Resend s).2)]) := by
 generalize hR : nag_Resend s = R; refine ga (.cons (State.low _ _) .nil) (Low.tup' (.cons (State.low _ _) (.cons lw .nil))) (kj [1000010] 8 [10, 20, 21, 22, 23]) Tryz.func12 ?_; have hk0 := hs0; obtain ⟨z9, z10, z11, z12, z13, z14, z15⟩ := hs0; refine us (state_Check_c s szA _) ?_; refine ai (fun h1 => ?_) (fun h2 => ?_)
 ·obtain rfl := foll hR (ct h1 rfl); exact ret_seen (Low.tup' (.cons (State.low _ _) (.cons lw .nil))) (Seen.tup (ev (Seen.agg (e1 (ev (seen_nil) (ev (seen_nil) (ev (seen_nil) (ev (seen_nil) (ev (seen_nil) (e1 (e1 .nil))))))))) (ev (seen_nil) .nil)))
 ·refine us (mv [] (state_Copy_o s szA) .nil (dv (dn_low (Low.agg' (State.lo))) .nil) (rO rr (rO rr (rO rr (rO rr (rO rr .nil))))) (ren_agg (r1 (.cons _ _ _ _ (rw_ 2 0 rfl) (.cons _ _ _ _ (rw_ 3 0 rfl) (.cons _ _ _ _ (rw_ 4 0 rfl) (.cons _ _ _ _ (rw_ 5 0 rfl) (.cons _ _ _ _ (rw_ 6 0 rfl) (r1 (r1 .nil)))))))))) ?_; refine ACalls.of_cwp (fun _ => true) Tryz.func47 rfl rfl ?_; refine loop_start2 (fun (out : List Int) (i : Nat) => nag_Resend_k1 s (nag_Resend_g1 s (List.drop i s.nodes) out i) = R ∧ i <= s.nodes.length ∧ (∀ y ∈ out, 0 <= y ∧ y < (i : Int)) ∧ out.length <= i) (fun out i => s.nodes.length - i) (fun out i => [(1, AVal.fn (.func 48) [I s.now] []), (4, AVal.lit (.slice none 0 0)), (5, AVal.own 8 0 1 0 out.length), (8, AVal.own 2 0 7 0 s.nodes.length), (9, I (s.nodes.length : Int)), (10, I (i : Int))]) (fun out i => [(0, AObj.row 28 8 [[I s.now, nodeL s.nodes, jobL s.jobs, resizeL s.resizes, bookL s.books, usageL s.ledger, I s.nextJob, I s.nextBook]]), (0, AObj.row 28 8 [[I 0, AVal.lit (.slice none 0 0), AVal.lit (.slice none 0 0), AVal.lit (.slice none 0 0), AVal.lit (.slice none 0 0), AVal.lit (.slice none 0 0), I 0, I 0]]), (0, AObj.row 57 7 (s.nodes.map Node.cells)), (0, AObj.row 52 20 (s.jobs.map Job.cells)), (0, AObj.row 88 5 (s.resizes.map Resize.cells)), (0, AObj.row 90 4 (s.books.map Book.cells)), (0, AObj.row 67 4 (s.ledger.map Usage.cells)), (0, AObj.row 28 8 [[I s.now, AVal.own 2 0 7 0 s.nodes.length, AVal.own 3 0 20 0 s.jobs.length, AVal.own 4 0 5 0 s.resizes.length, AVal.own 5 0 4 0 s.books.length, AVal.own 6 0 4 0 s.ledger.length, I s.nextJob, I s.nextBook]]), (0, AObj.row 3 1 (out.map (fun q_ => [I q_])))]) [] 0 ((weaker_none 3 1).trans (wk [0, 1, 2, 3, 4, 5, 6, 7, 8] (tO rfl (ts State.lo) (tO rfl (ts (l1 (l1 (l1 (l1 (l1 (l1 (l1 (l1 LowL.nil))))))))) (tO rfl (tl eqA) (tO rfl (tl eqA) (tO rfl (tl eqA) (tO rfl (tl eqA) (tO rfl (tl eqA) (tO rfl (turn_row1 (c1 (cv (to 2 lnA) (cv (to 3 lnA) (cv (to 4 lnA) (cv (to 5 lnA) (cv (to 6 lnA) (c1 (c1 .nil))))))))) (tO rfl (tl eqA) .nil))))))))) (sv (turn_low (Low.fn _ _ _ (l1 LowL.nil) LowL.nil)) (s1 (sv (turn_nilown 8 rfl) (sv (to 2 lnA) (s1 (s1 .nil)))))))) ⟨foll hR (cf h2 rfl), by exact omA, by first | (exact ⟨fun y hy => absurd hy List.not_mem_nil, Nat.le_refl _⟩) | first | (refine ⟨fun y hy => ?_, by simp; omega⟩; rcases List.mem_append.1 hy with hy | hy; have := hx.1 y hy; omega; rw [List.mem_singleton.1 hy]; omega) | first | (exact ⟨fun y hy => by have := hx.1 y hy; omega, by omega⟩) | first | (exact ⟨fun y hy => by have := hx.1 y hy; omega, by omega, rfl⟩) | first | (exact ⟨hx.1, hx.2.1, (List.length_set ..).trans hx.2.2⟩) | first | (exact ⟨by show c2.length <= _; omega, by omega⟩) | exact exA⟩ ?_; clear hR; rintro out i ⟨hR, hj, hx⟩; (try dsimp only at hR hj hx); refine ai (fun h3 => ?_) (fun h4 => ?_)
  ·have hlt := ltA h3; rw [drop_getD Node.zero hlt] at hR; refine And.intro (by first | exact fun hg => decide_eq_true (by first | (have hq := hx.1 (out.getD i1 0) (by rw [List.getD_eq_getElem?_getD, List.getElem?_eq_getElem hlt]; exact List.getElem_mem hlt); omega) | exact ckA) | exact gkA) ?_; refine ⟨_, evalOp_load rfl rfl rfl (elemI_at Node.zero i roA (by first | (have hq := hx.1 (out.getD i1 0) (by rw [List.getD_eq_getElem?_getD, List.getElem?_eq_getElem hlt]; exact List.getElem_mem hlt); omega) | exact ckA)) rfl, ?_⟩; refine us (nag_at_again_c s.now (s.nodes.getD i Node.zero) _) ?_; refine ai (fun h5 => ?_) (fun h6 => ?_)
   ·refine Or.inl ?_; (first | refine ⟨app_ok 8 rfl lnA apA, ?_⟩ | refine ⟨app_nil 8 rfl apA, ?_⟩); exact loop_next2 (out ++ ([(i : Int)] : List Int)) (i + 1) (wk [0, 1, 2, 3, 4, 5, 6, 7, 8] (tO rfl (ts State.lo) (tO rfl (ts (l1 (l1 (l1 (l1 (l1 (l1 (l1 (l1 LowL.nil))))))))) (tO rfl (tl eqA) (tO rfl (tl eqA) (tO rfl (tl eqA) (tO rfl (tl eqA) (tO rfl (tl eqA) (tO rfl (turn_row1 (c1 (cv (to 2 lnA) (cv (to 3 lnA) (cv (to 4 lnA) (cv (to 5 lnA) (cv (to 6 lnA) (c1 (c1 .nil))))))))) (tO rfl (tl eqA) .nil))))))))) (sv (turn_low (Low.fn _ _ _ (l1 LowL.nil) LowL.nil)) (s1 (sv (to 8 lnA) (sv (to 2 lnA) (s1 (sv (turn_eq (I_eq (wr omA)) lx) .nil))))))) omA ⟨foll hR (congrArg (fun p : (List Int) => nag_Resend_k1 s p) (ct h5 rfl)), by exact omA, by first | (exact ⟨fun y hy => absurd hy List.not_mem_nil, Nat.le_refl _⟩) | first | (refine ⟨fun y hy => ?_, by simp; omega⟩; rcases List.mem_append.1 hy with hy | hy; have := hx.1 y hy; omega; rw [List.mem_singleton.1 hy]; omega) | first | (exact ⟨fun y hy => by have := hx.1 y hy; omega, by omega⟩) | first | (exact ⟨fun y hy => by have := hx.1 y hy; omega, by omega, rfl⟩) | first | (exact ⟨hx.1, hx.2.1, (List.length_set ..).trans hx.2.2⟩) | first | (exact ⟨by show c2.length <= _; omega, by omega⟩) | exact exA⟩
   ·exact loop_next2 out (i + 1) (wk [0, 1, 2, 3, 4, 5, 6, 7, 8] (tO rfl (ts State.lo) (tO rfl (ts (l1 (l1 (l1 (l1 (l1 (l1 (l1 (l1 LowL.nil))))))))) (tO rfl (tl eqA) (tO rfl (tl eqA) (tO rfl (tl eqA) (tO rfl (tl eqA) (tO rfl (tl eqA) (tO rfl (turn_row1 (c1 (cv (to 2 lnA) (cv (to 3 lnA) (cv (to 4 lnA) (cv (to 5 lnA) (cv (to 6 lnA) (c1 (c1 .nil))))))))) (tO rfl (tl eqA) .nil))))))))) (sv (turn_low (Low.fn _ _ _ (l1 LowL.nil) LowL.nil)) (s1 (sv (to 8 lnA) (sv (to 2 lnA) (s1 (sv (turn_eq (I_eq (wr omA)) lx) .nil))))))) omA ⟨foll hR (congrArg (fun p : (List Int) => nag_Resend_k1 s p) (cf h6 rfl)), by exact omA, by first | (exact ⟨fun y hy => absurd hy List.not_mem_nil, Nat.le_refl _⟩) | first | (refine ⟨fun y hy => ?_, by simp; omega⟩; rcases List.mem_append.1 hy with hy | hy; have := hx.1 y hy; omega; rw [List.mem_singleton.1 hy]; omega) | first | (exact ⟨fun y hy => by have := hx.1 y hy; omega, by omega⟩) | first | (exact ⟨fun y hy => by have := hx.1 y hy; omega, by omega, rfl⟩) | first | (exact ⟨hx.1, hx.2.1, (List.length_set ..).trans hx.2.2⟩) | first | (exact ⟨by show c2.length <= _; omega, by omega⟩) | exact exA⟩
  ·rw [drop_none (l := s.nodes) (j := i) (geA h4)] at hR; replace hR : nag_Resend_k1 s out = R := fo2 (fun p : (List Int) => nag_Resend_k1 s p) (out) hR rfl; refine ⟨_, _, Told.refl, ?_⟩; refine join_start2 (fun (l : List Int) (c : State) => nag_Resend_k2 l c = R ∧ c.nodes.length <= 4294967296 ∧ l.length <= 4294967296) (fun l c => [(2, AVal.ptr 0 0 8 0 0), (3, AVal.lit (.slice none 0 0)), (4, AVal.ptr 1 0 8 0 0), (5, ints l)]) (fun l c => [(0, AObj.row 28 8 [[I 0, AVal.lit (.slice none 0 0), AVal.lit (.slice none 0 0), AVal.lit (.slice none 0 0), AVal.lit (.slice none 0 0), AVal.lit (.slice none 0 0), I 0, I 0]]), (0, AObj.row 28 8 [[I c.now, nodeL c.nodes, jobL c.jobs, resizeL c.resizes, bookL c.books, usageL c.ledger, I c.nextJob, I c.nextBook]])]) ?_ ?_
   ·clear hR; rintro l c ⟨hR, hx⟩; (try dsimp only at hR hx); refine dchk (by kernel_rfl) ?_; (first | apply u2 | apply u3 | apply u4 | apply us); exact alloc_Notes_c c.nodes l szA szA _; (repeat ((first | refine ai rfl ?_ | refine ai (fun _ => rfl) ?_ | refine ai (fun _ => alloc_Notes_c c.nodes l szA szA _) ?_))); obtain rfl := foll hR rfl; exact ret_seen (Low.tup' (.cons (State.low _ _) (.cons lw .nil))) (Seen.tup (e1 (e1 .nil)))
   ·refine loop_start2 (fun (i1 : Nat) (c2 : List Node) => nag_Resend_k3 s out (nag_Resend_g3 s out (List.drop i1 out) i1 c2) = R ∧ i1 <= out.length ∧ (∀ y ∈ out, 0 <= y ∧ y < (s.nodes.length : Int)) ∧ out.length <= s.nodes.length ∧ c2.length = s.nodes.length) (fun i1 c2 => out.length - i1) (fun i1 c2 => [(2, AVal.ptr 0 0 8 0 0), (3, AVal.lit (.slice none 0 0)), (4, AVal.ptr 6 0 8 0 0), (5, AVal.own 7 0 1 0 out.length), (20, AVal.own 7 0 1 0 out.length), (21, I (out.length : Int)), (22, I (i1 : Int))]) (fun i1 c2 => [(0, AObj.row 28 8 [[I 0, AVal.lit (.slice none 0 0), AVal.lit (.slice none 0 0), AVal.lit (.slice none 0 0), AVal.lit (.slice none 0 0), AVal.lit (.slice none 0 0), I 0, I 0]]), (0, AObj.row 57 7 (c2.map Node.cells)), (0, AObj.row 52 20 (s.jobs.map Job.cells)), (0, AObj.row 88 5 (s.resizes.map Resize.cells)), (0, AObj.row 90 4 (s.books.map Book.cells)), (0, AObj.row 67 4 (s.ledger.map Usage.cells)), (0, AObj.row 28 8 [[I s.now, AVal.own 1 0 7 0 c2.length, AVal.own 2 0 20 0 s.jobs.length, AVal.own 3 0 5 0 s.resizes.length, AVal.own 4 0 4 0 s.books.length, AVal.own 5 0 4 0 s.ledger.length, I s.nextJob, I s.nextBook]]), (0, AObj.row 3 1 (out.map (fun q_ => [I q_])))]) 0 s.nodes (wk [1, 2, 3, 4, 5, 6, 7, 8] (tO rfl (ts (l1 (l1 (l1 (l1 (l1 (l1 (l1 (l1 LowL.nil))))))))) (tO rfl (tl eqA) (tO rfl (tl eqA) (tO rfl (tl eqA) (tO rfl (tl eqA) (tO rfl (tl eqA) (tO rfl (turn_row1 (c1 (cv (to 1 lnA) (cv (to 2 lnA) (cv (to 3 lnA) (cv (to 4 lnA) (cv (to 5 lnA) (c1 (c1 .nil))))))))) (tO rfl (tl eqA) .nil)))))))) (sv (turn_ptr 0 rfl rfl) (s1 (sv (turn_ptr 6 rfl rfl) (sv (to 7 lnA) (sv (to 7 lnA) (s1 (s1 .nil)))))))) ⟨foll hR rfl, by exact omA, by first | (exact ⟨fun y hy => absurd hy List.not_mem_nil, Nat.le_refl _⟩) | first | (refine ⟨fun y hy => ?_, by simp; omega⟩; rcases List.mem_append.1 hy with hy | hy; have := hx.1 y hy; omega; rw [List.mem_singleton.1 hy]; omega) | first | (exact ⟨fun y hy => by have := hx.1 y hy; omega, by omega⟩) | first | (exact ⟨fun y hy => by have := hx.1 y hy; omega, by omega, rfl⟩) | first | (exact ⟨hx.1, hx.2.1, (List.length_set ..).trans hx.2.2⟩) | first | (exact ⟨by show c2.length <= _; omega, by omega⟩) | exact exA⟩ ?_; clear hR; rintro i1 c2 ⟨hR, hj, hx⟩; (try dsimp only at hR hj hx); refine ai (fun h7 => ?_) (fun h8 => ?_)
    ·have hlt := ltA h7; rw [drop_getD 0 hlt] at hR; refine And.intro (by first | exact fun hg => decide_eq_true (by first | (have hq := hx.1 (out.getD i1 0) (by rw [List.getD_eq_getElem?_getD, List.getElem?_eq_getElem hlt]; exact List.getElem_mem hlt); omega) | exact ckA) | exact gkA) ?_; refine ⟨_, evalOp_load rfl rfl rfl (elemI_at 0 i1 roA (by first | (have hq := hx.1 (out.getD i1 0) (by rw [List.getD_eq_getElem?_getD, List.getElem?_eq_getElem hlt]; exact List.getElem_mem hlt); omega) | exact ckA)) rfl, ?_⟩; refine And.intro (by first | exact fun hg => decide_eq_true (by first | (have hq := hx.1 (out.getD i1 0) (by rw [List.getD_eq_getElem?_getD, List.getElem?_eq_getElem hlt]; exact List.getElem_mem hlt); omega) | exact ckA) | exact gkA) ?_; refine ⟨_, evalOp_store rfl rfl rfl rfl (elemI_at Node.zero (Int.toNat (out.getD i1 0)) roA (by first | (have hq := hx.1 (out.getD i1 0) (by rw [List.getD_eq_getElem?_getD, List.getElem?_eq_getElem hlt]; exact List.getElem_mem hlt); omega) | exact ckA)) rfl rfl (set_map (Int.toNat (out.getD i1 0)) { (c2.getD (Int.toNat (out.getD i1 0)) Node.zero) with asked := s.now } roA rfl), ?_⟩; exact loop_next2 (i1 + 1) (c2.set (Int.toNat (out.getD i1 0)) { (c2.getD (Int.toNat (out.getD i1 0)) Node.zero) with asked := s.now }) (wk [0, 1, 2, 3, 4, 5, 6, 7] (tO rfl (ts (l1 (l1 (l1 (l1 (l1 (l1 (l1 (l1 LowL.nil))))))))) (tO rfl (tl eqA) (tO rfl (tl eqA) (tO rfl (tl eqA) (tO rfl (tl eqA) (tO rfl (tl eqA) (tO rfl (turn_row1 (c1 (cv (to 1 lnA) (cv (to 2 lnA) (cv (to 3 lnA) (cv (to 4 lnA) (cv (to 5 lnA) (c1 (c1 .nil))))))))) (tO rfl (tl eqA) .nil)))))))) (sv (turn_ptr 0 rfl rfl) (s1 (sv (turn_ptr 6 rfl rfl) (sv (to 7 lnA) (sv (to 7 lnA) (s1 (sv (turn_eq (I_eq (wr omA)) lx) .nil)))))))) omA ⟨foll hR (congrArg (fun p : (List Node) => nag_Resend_k3 s out p) rfl), by exact omA, by first | (exact ⟨fun y hy => absurd hy List.not_mem_nil, Nat.le_refl _⟩) | first | (refine ⟨fun y hy => ?_, by simp; omega⟩; rcases List.mem_append.1 hy with hy | hy; have := hx.1 y hy; omega; rw [List.mem_singleton.1 hy]; omega) | first | (exact ⟨fun y hy => by have := hx.1 y hy; omega, by omega⟩) | first | (exact ⟨fun y hy => by have := hx.1 y hy; omega, by omega, rfl⟩) | first | (exact ⟨hx.1, hx.2.1, (List.length_set ..).trans hx.2.2⟩) | first | (exact ⟨by show c2.length <= _; omega, by omega⟩) | exact exA⟩
    ·rw [drop_none (l := out) (j := i1) (geA h8)] at hR; replace hR : nag_Resend_k3 s out c2 = R := fo2 (fun p : (List Node) => nag_Resend_k3 s out p) (c2) hR rfl; exact join_here2 out { s with nodes := c2 } (wk [0, 6] (tO rfl (ts (l1 (l1 (l1 (l1 (l1 (l1 (l1 (l1 LowL.nil))))))))) (tO rfl (turn_row1 (c1 (cv (turn_listL _ _ rfl (Nat.zero_le _) (by decide) eqA (fun _ => Node.lowc _ _) lnA) (cv (turn_listL _ _ rfl (Nat.zero_le _) (by decide) eqA (fun _ => Job.lowc _ _) lnA) (cv (turn_listL _ _ rfl (Nat.zero_le _) (by decide) eqA (fun _ => Resize.lowc _ _) lnA) (cv (turn_listL _ _ rfl (Nat.zero_le _) (by decide) eqA (fun _ => Book.lowc _ _) lnA) (cv (turn_listL _ _ rfl (Nat.zero_le _) (by decide) eqA (fun _ => Usage.lowc _ _) lnA) (c1 (c1 .nil))))))))) .nil)) (sv (turn_ptr 0 rfl rfl) (s1 (sv (turn_ptr 1 rfl rfl) (sv (turn_listL _ _ rfl (Nat.zero_le _) (by decide) eqA (fun _ => lowL1 rfl) lnA) .nil))))) (⟨foll hR rfl, by first | (exact ⟨fun y hy => absurd hy List.not_mem_nil, Nat.le_refl _⟩) | first | (refine ⟨fun y hy => ?_, by simp; omega⟩; rcases List.mem_append.1 hy with hy | hy; have := hx.1 y hy; omega; rw [List.mem_singleton.1 hy]; omega) | first | (exact ⟨fun y hy => by have := hx.1 y hy; omega, by omega⟩) | first | (exact ⟨fun y hy => by have := hx.1 y hy; omega, by omega, rfl⟩) | first | (exact ⟨hx.1, hx.2.1, (List.length_set ..).trans hx.2.2⟩) | first | (exact ⟨by show c2.length <= _; omega, by omega⟩) | exact exA⟩)
def nag_Late_k1 (s : State) (y : Node) (i : Bool) : Bool := bif i then (decide ((w64 (s.now - y.since)) >= 12)) else false
abbrev nag_Late_t1 (s : State) := fun (y : Node) => (bif (y.want == 1) then nag_Late_k1 s y (y.want == 1) else bif (y.want == 3) then nag_Late_k1 s y (y.want == 3) else nag_Late_k1 s y (y.want == 5))
def nag_Late (s : State) : (List Int) := bif ((state_Check s) != 0) then [] else (nag_meant s.nodes (nag_Late_t1 s))
theorem nag_Late_c (s : State) (hs0 : s.sz) : ∀ objs, AGives Tryz.prog 16 [State.a s] objs (ints (nag_Late s)) := by
 generalize hR : nag_Late s = R; refine ga (.cons (State.low _ _) .nil) lw (kp 3 [5]) Tryz.func16 ?_; have hk0 := hs0; obtain ⟨z13, z14, z15, z16, z17, z18, z19⟩ := hs0; refine us (state_Check_c s szA _) ?_; refine ai (fun h1 => ?_) (fun h2 => ?_)
 ·obtain rfl := foll hR (ct h1 rfl); exact ret_seen lw (seen_nil)
 ·have cl1 : ∀ (y1 : Node), AMoves Tryz.prog 51 [I s.now, Node.a y1] [] 0 (Bo ((nag_Late_t1 s) y1)) [] := by
   intro y1; have hR : (nag_Late_t1 s) y1 = (nag_Late_t1 s) y1 := rfl; refine mo (kj [1000005] 5 [6, 7]) Tryz.func51 ?_; refine join_start1 (fun (i : Bool) => nag_Late_k1 s y1 i = (nag_Late_t1 s) y1) (fun i => [(0, I s.now), (3, AVal.ptr 0 0 7 0 0), (4, Bo false), (7, Bo i)]) (fun i => [(0, AObj.row 57 7 [[I y1.state, I y1.job, I y1.epoch, Bo y1.drain, I y1.want, I y1.since, I y1.asked]])]) ?_ ?_
   ·clear hR; rintro i hR; (try dsimp only at hR); refine ai (fun h3 => ?_) (fun h4 => ?_)
    ·refine ret_moves (fun r : Bool => Bo r) (fun _ => []) (leaf := (decide ((w64 (s.now - y1.since)) >= 12))) (foll hR (ct h3 rfl)) ?_; exact tt [] .nil t1
    ·refine ret_moves (fun r : Bool => Bo r) (fun _ => []) (leaf := false) (foll hR (cf h4 rfl)) ?_; exact tt [] .nil t1
   ·refine ai (fun h5 => ?_) (fun h6 => ?_)
    ·exact join_here1 (y1.want == 1) (wk [0] (tO rfl (ts Node.lo) .nil) (s1 (sv (turn_ptr 0 rfl rfl) (s1 (s1 .nil))))) (foll hR (ct h5 rfl))
    ·refine ai (fun h7 => ?_) (fun h8 => ?_)
     ·exact join_here1 (y1.want == 3) (wk [0] (tO rfl (ts Node.lo) .nil) (s1 (sv (turn_ptr 0 rfl rfl) (s1 (s1 .nil))))) (foll hR (cf h6 (ct h7 rfl)))
     ·exact join_here1 (y1.want == 5) (wk [0] (tO rfl (ts Node.lo) .nil) (s1 (sv (turn_ptr 0 rfl rfl) (s1 (s1 .nil))))) (foll hR (cf h6 (cf h8 rfl)))
  have hof1 : AMoves Tryz.prog 47 [nodeL s.nodes, AVal.fn (.func 51) [I s.now] []] [] 0 (ints (nag_meant s.nodes (nag_Late_t1 s))) [] := by
   have hR : nag_meant s.nodes (nag_Late_t1 s) = nag_meant s.nodes (nag_Late_t1 s) := rfl; refine mo (kp 8 [8, 9, 10, 11, 17]) Tryz.func47 ?_; refine loop_start2 (fun (out : List Int) (i : Nat) => nag_meant_k1 (nag_meant_g1 (nag_Late_t1 s) (List.drop i s.nodes) out i) = nag_meant s.nodes (nag_Late_t1 s) ∧ i <= s.nodes.length ∧ out.length <= i) (fun out i => s.nodes.length - i) (fun out i => [(1, AVal.fn (.func 51) [I s.now] []), (4, AVal.lit (.slice none 0 0)), (5, AVal.own 0 0 1 0 out.length), (8, nodeL s.nodes), (9, I (s.nodes.length : Int)), (10, I (i : Int))]) (fun out i => [(0, AObj.row 3 1 (out.map (fun q_ => [I q_])))]) [] 0 ((weaker_none 3 1).trans (wk [0] (tO rfl (tl eqA) .nil) (sv (turn_low (Low.fn _ _ _ (l1 LowL.nil) LowL.nil)) (s1 (sv (turn_nilown 0 rfl) (sl lw (s1 (s1 .nil)))))))) ⟨foll hR rfl, by exact omA, by exact exA⟩ ?_; clear hR; rintro out i ⟨hR, hj, hx⟩; (try dsimp only at hR hj hx); refine ai (fun h9 => ?_) (fun h10 => ?_)
   ·have hlt := ltA h9; rw [drop_getD Node.zero hlt] at hR; refine ai gkA ?_; refine us (mv [] (cl1 (s.nodes.getD i Node.zero)) .nil (d1 (dl (Node.low _ _) .nil)) .nil rx) ?_; refine ai (fun h11 => ?_) (fun h12 => ?_)
    ·refine Or.inl ?_; (first | refine ⟨app_ok 8 rfl lnA apA, ?_⟩ | refine ⟨app_nil 8 rfl apA, ?_⟩); exact loop_next2 (out ++ ([(i : Int)] : List Int)) (i + 1) (wk [0] (tO rfl (tl eqA) .nil) (sv (turn_low (Low.fn _ _ _ (l1 LowL.nil) LowL.nil)) (s1 (sv (to 0 lnA) (sl lw (s1 (sv (turn_eq (I_eq (wr omA)) lx) .nil))))))) omA ⟨foll hR (congrArg (fun p : (List Int) => nag_meant_k1 p) (ct h11 rfl)), by exact omA, by exact exA⟩
    ·exact loop_next2 out (i + 1) (wk [0] (tO rfl (tl eqA) .nil) (sv (turn_low (Low.fn _ _ _ (l1 LowL.nil) LowL.nil)) (s1 (sv (to 0 lnA) (sl lw (s1 (sv (turn_eq (I_eq (wr omA)) lx) .nil))))))) omA ⟨foll hR (congrArg (fun p : (List Int) => nag_meant_k1 p) (cf h12 rfl)), by exact omA, by exact exA⟩
   ·rw [drop_none (l := s.nodes) (j := i) (geA h10)] at hR; replace hR : nag_meant_k1 out = nag_meant s.nodes (nag_Late_t1 s) := fo2 (fun p : (List Int) => nag_meant_k1 p) (out) hR rfl; refine ret_moves (fun r : (List Int) => ints r) (fun r : (List Int) => []) (leaf := out) (foll hR rfl) ?_; exact tt [] .nil (turn_listL _ _ rfl (Nat.zero_le _) (by decide) eqA (fun _ => lowL1 rfl) lnA)
  refine us (mv [] (hof1) .nil (dl lw (dv (dn_low (Low.fn _ _ _ (l1 LowL.nil) LowL.nil)) .nil)) .nil (Ren.low _ lw)) ?_; obtain rfl := foll hR (cf h2 rfl); exact ret_seen lw sr
def nag_Stale_g1 (s : State) : List Resize -> List Int -> Nat -> (List Int)
 | [], out, _ => out
 | x_ :: r, out, i => bif (decide ((w64 (s.now - x_.since)) >= 12)) then nag_Stale_g1 s r (out ++ ([x_.job] : List Int)) (i + 1) else nag_Stale_g1 s r out (i + 1)
def nag_Stale_k1 (out : List Int) : (List Int) := out
def nag_Stale (s : State) : (List Int) := bif ((state_Check s) != 0) then [] else nag_Stale_k1 (nag_Stale_g1 s s.resizes [] 0)
theorem nag_Stale_c (s : State) (hs0 : s.sz) : ∀ objs, AGives Tryz.prog 18 [State.a s] objs (ints (nag_Stale s)) := by
 generalize hR : nag_Stale s = R; refine ga (.cons (State.low _ _) .nil) lw (kp 6 [8, 10, 11, 12, 13, 21]) Tryz.func18 ?_; have hk0 := hs0; obtain ⟨z7, z8, z9, z10, z11, z12, z13⟩ := hs0; refine us (state_Check_c s szA _) ?_; refine ai (fun h1 => ?_) (fun h2 => ?_)
 ·obtain rfl := foll hR (ct h1 rfl); exact ret_seen lw (seen_nil)
 ·refine loop_start2 (fun (out : List Int) (i : Nat) => nag_Stale_k1 (nag_Stale_g1 s (List.drop i s.resizes) out i) = R ∧ i <= s.resizes.length ∧ out.length <= i) (fun out i => s.resizes.length - i) (fun out i => [(1, AVal.ptr 0 0 8 0 0), (2, AVal.lit (.slice none 0 0)), (3, AVal.own 1 0 1 0 out.length), (10, resizeL s.resizes), (11, I (s.resizes.length : Int)), (12, I (i : Int))]) (fun out i => [(0, AObj.row 28 8 [[I s.now, nodeL s.nodes, jobL s.jobs, resizeL s.resizes, bookL s.books, usageL s.ledger, I s.nextJob, I s.nextBook]]), (0, AObj.row 3 1 (out.map (fun q_ => [I q_])))]) [] 0 ((weaker_none 3 1).trans (wk [0, 1] (tO rfl (ts State.lo) (tO rfl (tl eqA) .nil)) (sv (turn_ptr 0 rfl rfl) (s1 (sv (turn_nilown 1 rfl) (sl lw (s1 (s1 .nil)))))))) ⟨foll hR (cf h2 rfl), by exact omA, by exact exA⟩ ?_; clear hR; rintro out i ⟨hR, hj, hx⟩; (try dsimp only at hR hj hx); refine ai (fun h3 => ?_) (fun h4 => ?_)
  ·have hlt := ltA h3; rw [drop_getD Resize.zero hlt] at hR; refine ai gkA ?_; refine ai (fun h5 => ?_) (fun h6 => ?_)
   ·have qh5 := of_decide_eq_true h5; refine Or.inl ?_; (first | refine ⟨app_ok 8 rfl lnA apA, ?_⟩ | refine ⟨app_nil 8 rfl apA, ?_⟩); exact loop_next2 (out ++ ([(s.resizes.getD i Resize.zero).job] : List Int)) (i + 1) (wk [0, 1] (tO rfl (ts State.lo) (tO rfl (tl eqA) .nil)) (sv (turn_ptr 0 rfl rfl) (s1 (sv (to 1 lnA) (sl lw (s1 (sv (turn_eq (I_eq (wr omA)) lx) .nil))))))) omA ⟨foll hR (congrArg (fun p : (List Int) => nag_Stale_k1 p) (ct h5 rfl)), by exact omA, by exact exA⟩
   ·have qh6 := of_decide_eq_false h6; exact loop_next2 out (i + 1) (wk [0, 1] (tO rfl (ts State.lo) (tO rfl (tl eqA) .nil)) (sv (turn_ptr 0 rfl rfl) (s1 (sv (to 1 lnA) (sl lw (s1 (sv (turn_eq (I_eq (wr omA)) lx) .nil))))))) omA ⟨foll hR (congrArg (fun p : (List Int) => nag_Stale_k1 p) (cf h6 rfl)), by exact omA, by exact exA⟩
  ·rw [drop_none (l := s.resizes) (j := i) (geA h4)] at hR; replace hR : nag_Stale_k1 out = R := fo2 (fun p : (List Int) => nag_Stale_k1 p) (out) hR rfl; obtain rfl := foll hR rfl; exact ret_seen lw (seen_list 0 _ rfl eqA lnA)
def nag_Over_g1 (s : State) : List Job -> List Int -> Nat -> (List Int)
 | [], out, _ => out
 | x_ :: r, out, i => bif ((x_.state == 2) && (decide (x_.limit <= s.now))) then nag_Over_g1 s r (out ++ ([x_.id] : List Int)) (i + 1) else nag_Over_g1 s r out (i + 1)
def nag_Over_k1 (out : List Int) : (List Int) := out
def nag_Over (s : State) : (List Int) := bif ((state_Check s) != 0) then [] else nag_Over_k1 (nag_Over_g1 s s.jobs [] 0)
theorem nag_Over_c (s : State) (hs0 : s.sz) : ∀ objs, AGives Tryz.prog 20 [State.a s] objs (ints (nag_Over s)) := by
 generalize hR : nag_Over s = R; refine ga (.cons (State.low _ _) .nil) lw (kp 6 [8, 10, 11, 12, 13, 25]) Tryz.func20 ?_; have hk0 := hs0; obtain ⟨z12, z13, z14, z15, z16, z17, z18⟩ := hs0; refine us (state_Check_c s szA _) ?_; refine ai (fun h1 => ?_) (fun h2 => ?_)
 ·obtain rfl := foll hR (ct h1 rfl); exact ret_seen lw (seen_nil)
 ·refine loop_start2 (fun (out : List Int) (i : Nat) => nag_Over_k1 (nag_Over_g1 s (List.drop i s.jobs) out i) = R ∧ i <= s.jobs.length ∧ out.length <= i) (fun out i => s.jobs.length - i) (fun out i => [(1, AVal.ptr 0 0 8 0 0), (2, AVal.lit (.slice none 0 0)), (3, AVal.own 1 0 1 0 out.length), (10, jobL s.jobs), (11, I (s.jobs.length : Int)), (12, I (i : Int))]) (fun out i => [(0, AObj.row 28 8 [[I s.now, nodeL s.nodes, jobL s.jobs, resizeL s.resizes, bookL s.books, usageL s.ledger, I s.nextJob, I s.nextBook]]), (0, AObj.row 3 1 (out.map (fun q_ => [I q_])))]) [] 0 ((weaker_none 3 1).trans (wk [0, 1] (tO rfl (ts State.lo) (tO rfl (tl eqA) .nil)) (sv (turn_ptr 0 rfl rfl) (s1 (sv (turn_nilown 1 rfl) (sl lw (s1 (s1 .nil)))))))) ⟨foll hR (cf h2 rfl), by exact omA, by exact exA⟩ ?_; clear hR; rintro out i ⟨hR, hj, hx⟩; (try dsimp only at hR hj hx); refine ai (fun h3 => ?_) (fun h4 => ?_)
  ·have hlt := ltA h3; rw [drop_getD Job.zero hlt] at hR; have hxz : (s.jobs.getD i Job.zero).sz := getD_sz (by first | assumption | grind) (Job.szz _); have hkz := hxz; obtain ⟨z5, z6, z7, z8, z9⟩ : ((s.jobs.getD i Job.zero).name).size <= 4294967296 ∧ ((s.jobs.getD i Job.zero).user).size <= 4294967296 ∧ ((s.jobs.getD i Job.zero).account).size <= 4294967296 ∧ ((((s.jobs.getD i Job.zero).shape).alts).length <= 4294967296) ∧ ((s.jobs.getD i Job.zero).after).length <= 4294967296 := hxz; refine ai gkA ?_; refine ai (fun h10 => ?_) (fun h11 => ?_)
   ·refine Or.inl ?_; (first | refine ⟨app_ok 8 rfl lnA apA, ?_⟩ | refine ⟨app_nil 8 rfl apA, ?_⟩); exact loop_next2 (out ++ ([(s.jobs.getD i Job.zero).id] : List Int)) (i + 1) (wk [0, 1] (tO rfl (ts State.lo) (tO rfl (tl eqA) .nil)) (sv (turn_ptr 0 rfl rfl) (s1 (sv (to 1 lnA) (sl lw (s1 (sv (turn_eq (I_eq (wr omA)) lx) .nil))))))) omA ⟨foll hR (congrArg (fun p : (List Int) => nag_Over_k1 p) (ct h10 rfl)), by exact omA, by exact exA⟩
   ·exact loop_next2 out (i + 1) (wk [0, 1] (tO rfl (ts State.lo) (tO rfl (tl eqA) .nil)) (sv (turn_ptr 0 rfl rfl) (s1 (sv (to 1 lnA) (sl lw (s1 (sv (turn_eq (I_eq (wr omA)) lx) .nil))))))) omA ⟨foll hR (congrArg (fun p : (List Int) => nag_Over_k1 p) (cf h11 rfl)), by exact omA, by exact exA⟩
  ·rw [drop_none (l := s.jobs) (j := i) (geA h4)] at hR; replace hR : nag_Over_k1 out = R := fo2 (fun p : (List Int) => nag_Over_k1 p) (out) hR rfl; obtain rfl := foll hR rfl; exact ret_seen lw (seen_list 0 _ rfl eqA lnA)
end Go.Proofs.YtigcpfbpmnppcaaGreatDoor
namespace Go.Proofs.YtigcpfbpmnppcaaGreatDoor
set_option linter.unusedSimpArgs false
set_option linter.unusedVariables false
open Go.Fw
set_option maxRecDepth 20000
set_option maxHeartbeats 4000000
attribute [local irreducible] ACalls AMoves
def law27_awake  : Bool := ((((((((((((((((nag_Clock (law27_one 6)).2 == 0) && ((nag_Clock State.zero).2 == 141)) && ((nag_Clock (law27_one 6)).1.now == 7)) && ((((nag_Clock (law27_one 6)).1.jobs).length : Int) == 1)) && ((((nag_Clock (law27_one 6)).1.jobs).getD 0 Job.zero).used == 2)) && ((((nag_Clock (law27_one 6)).1.ledger).length : Int) == 1)) && ((((nag_Clock (law27_one 6)).1.ledger).getD 0 Usage.zero).used == 2)) && ((((nag_Resend (law27_one 6)).2).length : Int) == 0)) && ((((nag_Resend (law27_one 7)).2).length : Int) == 1)) && ((((nag_Resend (law27_one 7)).2).getD 0 Note.zero).node == 1)) && ((((nag_Resend (law27_one 7)).1.nodes).getD 1 Node.zero).asked == 7)) && (((nag_Late (law27_one 16)).length : Int) == 1)) && (((nag_Late (law27_one 15)).length : Int) == 0)) && (((nag_Over (law27_one 64)).length : Int) == 1)) && (((nag_Stale (law27_one 64)).length : Int) == 0))
theorem law27_awake_c  : ∀ objs, AGives Tryz.prog 8 [] objs (Bo law27_awake) := by
 generalize hR : law27_awake = R; refine ga .nil lx (kp 11 []) Tryz.func8 ?_; (have hl : (nag_Resend (law27_one 7)).1.nodes.length = 2 := by kernel_rfl); refine us (law27_one_c 6 _) ?_; refine us (nag_Clock_c (law27_one 6) (by first | (exact law27_one_sz _) | exact szA) _) ?_; refine us (law27_one_c 6 _) ?_; refine us (nag_Resend_c (law27_one 6) (by first | (exact law27_one_sz _) | exact szA) _) ?_; refine us (law27_one_c 7 _) ?_; refine us (nag_Resend_c (law27_one 7) (by first | (exact law27_one_sz _) | exact szA) _) ?_; refine us (law27_one_c 16 _) ?_; refine us (nag_Late_c (law27_one 16) (by first | (exact law27_one_sz _) | exact szA) _) ?_; refine us (law27_one_c 64 _) ?_; refine us (nag_Over_c (law27_one 64) (by first | (exact law27_one_sz _) | exact szA) _) ?_; refine us (AGives.as2 (nag_Clock_c State.zero (by first | (exact law27_one_sz _) | exact szA) _) (av (as_agg (a1 (av (as_nil) (av (as_nil) (av (as_nil) (av (as_nil) (av (as_nil) (a1 (a1 .nil))))))))) .nil)) ?_; refine ai gkA ?_; refine ai gkA ?_; refine ai gkA ?_; refine ai gkA ?_; (first | apply u2 | apply u3 | apply u4 | apply us); exact law27_one_c 15 _; (first | apply u2 | apply u3 | apply u4 | apply us); exact nag_Late_c (law27_one 15) (by first | (exact law27_one_sz _) | exact szA) _; (first | apply u2 | apply u3 | apply u4 | apply us); exact law27_one_c 64 _; (first | apply u2 | apply u3 | apply u4 | apply us); exact nag_Stale_c (law27_one 64) (by first | (exact law27_one_sz _) | exact szA) _; obtain rfl := foll hR rfl; exact ret_seen lx sr
end Go.Proofs.YtigcpfbpmnppcaaGreatDoor
namespace Go.Fw
set_option linter.unusedSimpArgs false
set_option linter.unusedVariables false
theorem w6 {n : Int} (h : -9223372036854775808 <= n ∧ n <= 9223372036854775807) : w64 n = n := wr h
theorem or_f {a b : Bool} (h : (a || b) = false) : a = false ∧ b = false := by simpa using h
def U64 (x : Int) : Prop := 0 <= x ∧ x < 18446744073709551616
theorem wu64_eq (n : Int) : wu64 n = n % 18446744073709551616 := by simp [IntKind.wrap, IntKind.bits, IntKind.signed]
theorem wu64_id {n : Int} (h : U64 n) : wu64 n = n := by rw [wu64_eq]; unfold U64 at h; omega
theorem wu64_bv (b : BitVec 64) : wu64 (b.toNat : Int) = (b.toNat : Int) := wu64_id ⟨by omega, by have := b.isLt; omega⟩
end Go.Fw
namespace Go.Proofs.YtigcpfbpmnppcaaGreatDoor
set_option linter.unusedSimpArgs false
set_option linter.unusedVariables false
open Go.Fw
end Go.Proofs.YtigcpfbpmnppcaaGreatDoor
namespace Go.Fw
set_option linter.unusedSimpArgs false
set_option linter.unusedVariables false
theorem nat_and {n c : Nat} (hn : n < 18446744073709551616) (hc : c < 18446744073709551616) : wu64 ((BitVec.ofInt 64 (n : Int) &&& BitVec.ofInt 64 (c : Int)).toNat : Int) = ((n &&& c : Nat) : Int) := by
 have e : ∀ m : Nat, m < 18446744073709551616 -> (BitVec.ofInt 64 (m : Int)).toNat = m := fun m hm => by
  rw [BitVec.toNat_ofInt]
  omega
 rw [BitVec.toNat_and, e n hn, e c hc, wu64_id]
 have := Nat.and_le_left (n := n) (m := c)
 unfold U64
 omega
theorem nat_shr (n k : Nat) (hk : k <= 64) : Int.fdiv (n : Int) (2 ^ (min (Int.toNat (k : Int)) 64)) = ((n / 2 ^ k : Nat) : Int) := by
 rw [Int.toNat_natCast, Nat.min_eq_left hk, Int.fdiv_eq_ediv_of_nonneg _ (by have := Int.pow_pos (n := 2) (m := k) (by decide); omega)]
 simp
theorem nat_sum {a b : Nat} (h : a + b < 18446744073709551616) : wu64 ((a : Int) + (b : Int)) = ((a + b : Nat) : Int) := by
 rw [wu64_id]
 ·simp
 ·unfold U64; omega
theorem and_byte {a c y m : Nat} (ha : a < 256) (hc : c < 256) : (256 * y + a) &&& (256 * m + c) = 256 * (y &&& m) + (a &&& c) := by
 refine Nat.eq_of_testBit_eq fun k => ?_
 have e : ∀ q r k, r < 256 -> (256 * q + r).testBit k = if k < 8 then r.testBit k else q.testBit (k - 8) := fun q r k hr => Nat.testBit_two_pow_mul_add (i := 8) q hr k
 have hac : a &&& c < 256 := Nat.lt_of_le_of_lt Nat.and_le_left ha
 rw [Nat.testBit_and, e y a k ha, e m c k hc, e _ _ k hac]
 split <;> simp [Nat.testBit_and]
def by8 (a b c d e f g h : Nat) : Nat := 256 * (256 * (256 * (256 * (256 * (256 * (256 * h + g) + f) + e) + d) + c) + b) + a
theorem and8 {a b c d e f g h : Nat} (k : Nat) (hk : k < 256) (ha : a < 256) (hb : b < 256) (hc : c < 256) (hd : d < 256) (he : e < 256) (hf : f < 256) (hg : g < 256) :
  by8 a b c d e f g h &&& by8 k k k k k k k k = by8 (a &&& k) (b &&& k) (c &&& k) (d &&& k) (e &&& k) (f &&& k) (g &&& k) (h &&& k) := by
 unfold by8
 rw [and_byte ha hk, and_byte hb hk, and_byte hc hk, and_byte hd hk, and_byte he hk, and_byte hf hk, and_byte hg hk]
def st1 (y : Nat) : Nat := (y &&& 170) / 2 + (y &&& 85)
def st2 (y : Nat) : Nat := (y &&& 204) / 4 + (y &&& 51)
def st3 (y : Nat) : Nat := (y + y / 16) % 16
def popN : Nat -> Nat -> Nat
 | 0, _ => 0
 | k + 1, n => n % 2 + popN k (n / 2)
theorem pop8 : ∀ y, y < 256 -> st3 (st2 (st1 y)) = popN 8 y ∧ (y &&& 170) % 2 = 0 ∧ (st1 y &&& 204) % 4 = 0 ∧ st1 y < 256 ∧ st2 (st1 y) <= 68 := by decide +kernel
theorem popN_add : ∀ (j k n : Nat), popN (j + k) n = popN j n + popN k (n / 2 ^ j)
 | 0, k, n => by simp [popN]
 | j + 1, k, n => by
  rw [show j + 1 + k = (j + k) + 1 by omega, popN, popN_add j k, popN, Nat.pow_succ, Nat.mul_comm (2 ^ j) 2, Nat.div_div_eq_div_mul]
  omega
theorem popN_low (q : Nat) : ∀ (j r : Nat), r < 2 ^ j -> popN j (2 ^ j * q + r) = popN j r
 | 0, r, _ => rfl
 | j + 1, r, h => by
  rw [popN, popN, Nat.pow_succ]
  rw [Nat.pow_succ] at h
  have e1 : (2 ^ j * 2 * q + r) % 2 = r % 2 := by rw [Nat.mul_right_comm, Nat.mul_comm _ 2, Nat.mul_add_mod]
  have e2 : (2 ^ j * 2 * q + r) / 2 = 2 ^ j * q + r / 2 := by rw [Nat.mul_right_comm, Nat.mul_comm _ 2, Nat.mul_add_div (by decide)]
  rw [e1, e2, popN_low q j (r / 2) (by omega)]
theorem pop_by8 {a b c d e f g h : Nat} (ha : a < 256) (hb : b < 256) (hc : c < 256) (hd : d < 256) (he : e < 256) (hf : f < 256) (hg : g < 256) (hh : h < 256) :
  popN 64 (by8 a b c d e f g h) = popN 8 a + (popN 8 b + (popN 8 c + (popN 8 d + (popN 8 e + (popN 8 f + (popN 8 g + popN 8 h)))))) := by
 have step : ∀ k q r, r < 256 -> popN (8 + k) (256 * q + r) = popN 8 r + popN k q := fun k q r hr => by
  rw [popN_add, popN_low q 8 r hr]
  congr 2
  show (256 * q + r) / 256 = q
  omega
 unfold by8
 rw [show 64 = 8 + (8 + (8 + (8 + (8 + (8 + (8 + 8)))))) from rfl, step _ _ _ ha, step _ _ _ hb, step _ _ _ hc, step _ _ _ hd, step _ _ _ he, step _ _ _ hf, step _ _ _ hg]
theorem exists_by8 {n : Nat} (h : n < 18446744073709551616) : ∃ a b c d e f g h, n = by8 a b c d e f g h ∧ a < 256 ∧ b < 256 ∧ c < 256 ∧ d < 256 ∧ e < 256 ∧ f < 256 ∧ g < 256 ∧ h < 256 := by
 refine ⟨n % 256, n / 256 % 256, n / 65536 % 256, n / 16777216 % 256, n / 4294967296 % 256, n / 1099511627776 % 256, n / 281474976710656 % 256, n / 72057594037927936 % 256, ?_, ?_, ?_, ?_, ?_, ?_, ?_, ?_, ?_⟩
 ·unfold by8; omega
 all_goals omega
theorem shr_and (x m k : Nat) : (x / 2 ^ k) &&& m = (x &&& (m * 2 ^ k)) / 2 ^ k := by
 rw [← Nat.shiftRight_eq_div_pow, ← Nat.shiftRight_eq_div_pow, Nat.shiftRight_and_distrib, Nat.shiftRight_eq_div_pow (m * 2 ^ k), Nat.mul_div_cancel _ (Nat.pow_pos (by decide))]
def sw1 (x : Nat) : Nat := ((x / 2 ^ 1) &&& 6148914691236517205) + (x &&& 6148914691236517205)
def sw2 (x : Nat) : Nat := ((x / 2 ^ 2) &&& 3689348814741910323) + (x &&& 3689348814741910323)
def sw3 (x : Nat) : Nat := (x / 2 ^ 4 + x) &&& 1085102592571150095
theorem sw1_by8 {a b c d e f g h : Nat} (ha : a < 256) (hb : b < 256) (hc : c < 256) (hd : d < 256) (he : e < 256) (hf : f < 256) (hg : g < 256) (hh : h < 256) :
  sw1 (by8 a b c d e f g h) = by8 (st1 a) (st1 b) (st1 c) (st1 d) (st1 e) (st1 f) (st1 g) (st1 h) := by
 unfold sw1
 rw [shr_and, show 6148914691236517205 * 2 ^ 1 = by8 170 170 170 170 170 170 170 170 from rfl, show 6148914691236517205 = by8 85 85 85 85 85 85 85 85 from rfl, and8 170 (by decide) ha hb hc hd he hf hg, and8 85 (by decide) ha hb hc hd he hf hg]
 have pa := (pop8 a ha).2.1; have pb := (pop8 b hb).2.1; have pc := (pop8 c hc).2.1; have pd := (pop8 d hd).2.1; have pe := (pop8 e he).2.1; have pf := (pop8 f hf).2.1; have pg := (pop8 g hg).2.1; have ph := (pop8 h hh).2.1
 unfold by8 st1
 omega
theorem sw2_by8 {a b c d e f g h : Nat} (ha : a < 256) (hb : b < 256) (hc : c < 256) (hd : d < 256) (he : e < 256) (hf : f < 256) (hg : g < 256) (ma : (a &&& 204) % 4 = 0) (mb : (b &&& 204) % 4 = 0) (mc : (c &&& 204) % 4 = 0) (md : (d &&& 204) % 4 = 0) (me : (e &&& 204) % 4 = 0) (mf : (f &&& 204) % 4 = 0) (mg : (g &&& 204) % 4 = 0) (mh : (h &&& 204) % 4 = 0) :
  sw2 (by8 a b c d e f g h) = by8 (st2 a) (st2 b) (st2 c) (st2 d) (st2 e) (st2 f) (st2 g) (st2 h) := by
 unfold sw2
 rw [shr_and, show 3689348814741910323 * 2 ^ 2 = by8 204 204 204 204 204 204 204 204 from rfl, show 3689348814741910323 = by8 51 51 51 51 51 51 51 51 from rfl, and8 204 (by decide) ha hb hc hd he hf hg, and8 51 (by decide) ha hb hc hd he hf hg]
 unfold by8 st2
 omega
theorem and15 (z : Nat) : z &&& 15 = z % 16 := Nat.and_two_pow_sub_one_eq_mod z 4
theorem sw3_by8 {a b c d e f g h : Nat} (ha : a <= 68) (hb : b <= 68) (hc : c <= 68) (hd : d <= 68) (he : e <= 68) (hf : f <= 68) (hg : g <= 68) (hh : h <= 68) (na : a % 16 <= 4) (nb : b % 16 <= 4) (nc : c % 16 <= 4) (nd : d % 16 <= 4) (ne : e % 16 <= 4) (nf : f % 16 <= 4) (ng : g % 16 <= 4) (nh : h % 16 <= 4) :
  sw3 (by8 a b c d e f g h) = by8 (st3 a) (st3 b) (st3 c) (st3 d) (st3 e) (st3 f) (st3 g) (st3 h) := by
 unfold sw3
 have e0 : by8 a b c d e f g h / 2 ^ 4 + by8 a b c d e f g h = by8 (a + a / 16 + 16 * (b % 16)) (b + b / 16 + 16 * (c % 16)) (c + c / 16 + 16 * (d % 16)) (d + d / 16 + 16 * (e % 16)) (e + e / 16 + 16 * (f % 16)) (f + f / 16 + 16 * (g % 16)) (g + g / 16 + 16 * (h % 16)) (h + h / 16) := by
  unfold by8
  omega
 rw [e0, show 1085102592571150095 = by8 15 15 15 15 15 15 15 15 from rfl, and8 15 (by decide) (by omega) (by omega) (by omega) (by omega) (by omega) (by omega) (by omega)]
 simp only [and15]
 unfold st3
 congr 1 <;> omega
theorem pop8_low : ∀ y, y < 256 -> st2 (st1 y) % 16 <= 4 ∧ st3 (st2 (st1 y)) <= 8 ∧ st2 (st1 y) < 256 ∧ st1 y < 256 := by decide +kernel
theorem sw_pop {n : Nat} (hn : n < 18446744073709551616) : ∃ a b c d e f g h, sw3 (sw2 (sw1 n)) = by8 a b c d e f g h ∧ a <= 8 ∧ b <= 8 ∧ c <= 8 ∧ d <= 8 ∧ e <= 8 ∧ f <= 8 ∧ g <= 8 ∧ h <= 8 ∧ popN 64 n = a + (b + (c + (d + (e + (f + (g + h)))))) := by
 obtain ⟨a, b, c, d, e, f, g, h, rfl, ha, hb, hc, hd, he, hf, hg, hh⟩ := exists_by8 hn
 have A := pop8 a ha; have B := pop8 b hb; have C := pop8 c hc; have D := pop8 d hd; have E := pop8 e he; have F := pop8 f hf; have G := pop8 g hg; have H := pop8 h hh
 have A' := pop8_low a ha; have B' := pop8_low b hb; have C' := pop8_low c hc; have D' := pop8_low d hd; have E' := pop8_low e he; have F' := pop8_low f hf; have G' := pop8_low g hg; have H' := pop8_low h hh
 rw [sw1_by8 ha hb hc hd he hf hg hh, sw2_by8 A'.2.2.2 B'.2.2.2 C'.2.2.2 D'.2.2.2 E'.2.2.2 F'.2.2.2 G'.2.2.2 A.2.2.1 B.2.2.1 C.2.2.1 D.2.2.1 E.2.2.1 F.2.2.1 G.2.2.1 H.2.2.1,
  sw3_by8 A.2.2.2.2 B.2.2.2.2 C.2.2.2.2 D.2.2.2.2 E.2.2.2.2 F.2.2.2.2 G.2.2.2.2 H.2.2.2.2 A'.1 B'.1 C'.1 D'.1 E'.1 F'.1 G'.1 H'.1, pop_by8 ha hb hc hd he hf hg hh]
 refine ⟨_, _, _, _, _, _, _, _, rfl, A'.2.1, B'.2.1, C'.2.1, D'.2.1, E'.2.1, F'.2.1, G'.2.1, H'.2.1, ?_⟩
 rw [A.1, B.1, C.1, D.1, E.1, F.1, G.1, H.1]
theorem by8_div {a b c d e f g h : Nat} (ha : a < 256) : by8 a b c d e f g h / 256 = by8 b c d e f g h 0 := by
 unfold by8
 omega
theorem by8_add (a b c d e f g h a' b' c' d' e' f' g' h' : Nat) : by8 a b c d e f g h + by8 a' b' c' d' e' f' g' h' = by8 (a + a') (b + b') (c + c') (d + d') (e + e') (f + f') (g + g') (h + h') := by
 unfold by8
 omega
theorem by8_lt {a b c d e f g h : Nat} (ha : a <= 64) (hb : b <= 64) (hc : c <= 64) (hd : d <= 64) (he : e <= 64) (hf : f <= 64) (hg : g <= 64) (hh : h <= 64) : by8 a b c d e f g h < 9223372036854775808 := by
 unfold by8
 omega
theorem by8_mod {a b c d e f g h : Nat} (ha : a < 128) : by8 a b c d e f g h % 128 = a := by
 unfold by8
 generalize 256 * (256 * (256 * (256 * (256 * (256 * h + g) + f) + e) + d) + c) + b = q
 omega
theorem sum_low {a b c d e f g h : Nat} (ha : a <= 8) (hb : b <= 8) (hc : c <= 8) (hd : d <= 8) (he : e <= 8) (hf : f <= 8) (hg : g <= 8) (hh : h <= 8) (x4 x5 x6 : Nat) (h4 : x4 = by8 a b c d e f g h + by8 a b c d e f g h / 256) (h5 : x5 = x4 + x4 / 65536) (h6 : x6 = x5 + x5 / 4294967296) :
  x6 % 128 = a + (b + (c + (d + (e + (f + (g + h)))))) ∧ x4 < 9223372036854775808 ∧ x5 < 9223372036854775808 ∧ x6 < 9223372036854775808 := by
 have d2 : ∀ x, x / 65536 = x / 256 / 256 := fun x => by omega
 have d4 : ∀ x, x / 4294967296 = x / 256 / 256 / 256 / 256 := fun x => by omega
 have e4 : x4 = by8 (a + b) (b + c) (c + d) (d + e) (e + f) (f + g) (g + h) (h + 0) := by rw [h4, by8_div (by omega), by8_add]
 have e5 : x5 = by8 (a + b + (c + d)) (b + c + (d + e)) (c + d + (e + f)) (d + e + (f + g)) (e + f + (g + h)) (f + g + (h + 0)) (g + h + 0) (h + 0 + 0) := by
  rw [h5, d2, e4, by8_div (by omega), by8_div (by omega), by8_add]
 have e6 : x6 = by8 (a + b + (c + d) + (e + f + (g + h))) (b + c + (d + e) + (f + g + (h + 0))) (c + d + (e + f) + (g + h + 0)) (d + e + (f + g) + (h + 0 + 0)) (e + f + (g + h) + 0) (f + g + (h + 0) + 0) (g + h + 0 + 0) (h + 0 + 0 + 0) := by
  rw [h6, d4, e5, by8_div (by omega), by8_div (by omega), by8_div (by omega), by8_div (by omega), by8_add]
 refine ⟨?_, ?_, ?_, ?_⟩
 ·rw [e6, by8_mod (by omega)]; omega
 ·rw [e4]; exact by8_lt (by omega) (by omega) (by omega) (by omega) (by omega) (by omega) (by omega) (by omega)
 ·rw [e5]; exact by8_lt (by omega) (by omega) (by omega) (by omega) (by omega) (by omega) (by omega) (by omega)
 ·rw [e6]; exact by8_lt (by omega) (by omega) (by omega) (by omega) (by omega) (by omega) (by omega) (by omega)
end Go.Fw
namespace Go.Proofs.YtigcpfbpmnppcaaGreatDoor
set_option linter.unusedSimpArgs false
set_option linter.unusedVariables false
open Go.Fw
theorem same_go {α : Type} (d : α) (b : List α) (e : α -> α -> Bool) (he : ∀ x y, e x y = true ↔ x = y) (G : List α -> Nat -> Bool) (h0 : ∀ i, G [] i = true) (h1 : ∀ x r i, G (x :: r) i = bif !(e x (b.getD i d)) then false else G r (i + 1)) :
  ∀ (l : List α) (i : Nat), i + l.length = b.length -> (G l i = true ↔ l = b.drop i)
 | [], i, h => by
  rw [h0, drop_none (by simp at h; omega)]
  simp
 | x :: r, i, h => by
  have hi : i < b.length := by simp at h; omega
  rw [h1, drop_getD d hi]
  cases hx : e x (b.getD i d) with
  | false =>
   have hne : x ≠ b.getD i d := fun hq => by rw [(he _ _).2 hq] at hx; cases hx
   simp only [Bool.not_false, cond_true]
   exact ⟨fun h => (nomatch h), fun h => absurd (List.cons.inj h).1 hne⟩
  | true =>
   have hq := (he _ _).1 hx
   have := same_go d b e he G h0 h1 r (i + 1) (by simp at h ⊢; omega)
   simp only [Bool.not_true, cond_false]
   rw [this, hq]
   simp
theorem same_list {α : Type} (d : α) (a b : List α) (e : α -> α -> Bool) (he : ∀ x y, e x y = true ↔ x = y) (G : List α -> Nat -> Bool) (h0 : ∀ i, G [] i = true) (h1 : ∀ x r i, G (x :: r) i = bif !(e x (b.getD i d)) then false else G r (i + 1)) :
  (bif ((a.length : Int) != (b.length : Int)) then false else G a 0) = true ↔ a = b := by
 cases hl : ((a.length : Int) != (b.length : Int)) with
 | true =>
  have : (a.length : Int) ≠ (b.length : Int) := by simpa using hl
  simp only [cond_true]
  refine ⟨fun h => (nomatch h), fun h => ?_⟩
  subst h
  exact absurd rfl this
 | false =>
  have h : (a.length : Int) = (b.length : Int) := by simpa using hl
  simp only [cond_false]
  have := same_go d b e he G h0 h1 a 0 (by omega)
  simpa using this
theorem bytes_inj (a b : ByteArray) : (ByteArray.toList a == ByteArray.toList b) = true ↔ a = b := by
 rw [beq_iff_eq, ByteArray.toList_eq, ByteArray.toList_eq]
 refine ⟨fun h => ?_, fun h => by rw [h]⟩
 exact ByteArray.ext (Array.toList_inj.1 h)
theorem ref12_same (a b : List Node) : ref12_Same a b = true ↔ a = b :=
 same_list Node.zero a b (fun x y => ((x.state == y.state) && ((x.job == y.job) && ((x.epoch == y.epoch) && ((x.drain == y.drain) && ((x.want == y.want) && ((x.since == y.since) && (x.asked == y.asked)))))))) (fun x y => by cases x; cases y; simp) (ref12_Same_g1 b) (fun _ => rfl) (fun _ _ _ => rfl)
end Go.Proofs.YtigcpfbpmnppcaaGreatDoor
namespace Go.Proofs.YtigcpfbpmnppcaaGreatDoor
set_option linter.unusedSimpArgs false
set_option linter.unusedVariables false
open Go.Fw
theorem plan_Check_parts {s : State} (h : plan_Check s = 0) : fleet_Check s.nodes = 0 ∧ table_Check s.jobs = 0 := by
 unfold plan_Check at h
 cases h1 : (room_Check s != 0) with
 | true => rw [h1] at h; cases h
 | false =>
  have hr : room_Check s = 0 := by simpa using h1
  unfold room_Check at hr
  cases h2 : (((((decide (s.now < 0)) || (decide (s.now > 1000000))) || ((fleet_Check s.nodes) != 0)) || ((table_Check s.jobs) != 0)) || ((book_Check s.books) != 0)) with
  | true => rw [h2] at hr; cases hr
  | false =>
   obtain ⟨h3, _⟩ := or_f h2
   obtain ⟨h4, h5⟩ := or_f h3
   obtain ⟨_, h6⟩ := or_f h4
   exact ⟨by simpa using h6, by simpa using h5⟩
theorem check_held (s : State) (a b : Int) (c : List (Int × Job)) : ∀ (l : List Resize) (i : Nat) (c2 : List (Int × Resize)), state_Check_g4 s a b c l i c2 = 0 ->
  c.all (fun (en : Int × Job) => (bif ((alloc_Held s.nodes en.1) != en.2.nodes) then false else true)) = true
 | [], i, c2, h => by
  rw [state_Check_g4] at h
  cases h1 : ((((!true) || (!(state_next s.nextJob a))) || (!(state_next s.nextBook b))) || (!(state_nodes s c c2))) with
  | true => rw [h1] at h; cases h
  | false =>
   rw [h1] at h
   simp only [cond_false] at h
   cases h2 : c.all (fun (en : Int × Job) => (bif ((alloc_Held s.nodes en.1) != en.2.nodes) then false else true)) with
   | true => rfl
   | false => rw [h2] at h; cases h
 | x :: r, i, c2, h => by
  rw [state_Check_g4] at h
  cases h1 : (((!(getM x.job c).isSome) || ((decide ((i : Int) > 0)) && (decide ((s.resizes.getD (Int.toNat (w64 ((i : Int) - 1))) Resize.zero).job >= x.job)))) || (!(state_resize s x ((getM x.job c).getD Job.zero)))) with
  | true => rw [h1] at h; cases h
  | false =>
   rw [h1] at h
   exact check_held s a b c r (i + 1) _ h
theorem setM_mem {α β : Type} [BEq α] [LawfulBEq α] (k : α) (v : β) : ∀ l : List (α × β), (k, v) ∈ setM k v l
 | [] => by simp [setM]
 | p :: r => by
  rw [setM]
  cases hk : k == p.1 with
  | true => simp
  | false => simp [setM_mem k v r]
theorem setM_keep {α β : Type} [BEq α] [LawfulBEq α] (k k' : α) (v v' : β) (hne : k ≠ k') : ∀ l : List (α × β), (k, v) ∈ l -> (k, v) ∈ setM k' v' l
 | [], h => nomatch h
 | p :: r, h => by
  rw [setM]
  cases hk : k' == p.1 with
  | true =>
   have e := eq_of_beq hk
   rcases List.mem_cons.1 h with h | h
   ·exact absurd (by rw [e, ← h]) hne
   ·exact List.mem_cons_of_mem _ h
  | false =>
   rcases List.mem_cons.1 h with h | h
   ·rw [← h]; exact List.mem_cons_self ..
   ·exact List.mem_cons_of_mem _ (setM_keep k k' v v' hne r h)
theorem running_mem (x : Job) : ∀ (l : List Job) (i : Nat) (c : List (Int × Job)), ((x.id, x) ∈ c ∧ (∀ y ∈ l, y.id ≠ x.id)) ∨ (x ∈ l ∧ x.state = 2 ∧ l.Pairwise (fun a b => a.id < b.id)) -> (x.id, x) ∈ state_Check_g3 l i c
 | [], i, c, h => by
  rcases h with ⟨h, _⟩ | ⟨h, _⟩
  ·exact h
  ·exact nomatch h
 | y :: r, i, c, h => by
  rw [state_Check_g3]
  rcases h with ⟨h, hn⟩ | ⟨h, hs, hp⟩
  ·have hy := hn y (List.mem_cons_self ..)
   cases (y.state == 2) with
   | true => exact running_mem x r (i + 1) _ (.inl ⟨setM_keep _ _ _ _ (Ne.symm hy) c h, fun z hz => hn z (List.mem_cons_of_mem _ hz)⟩)
   | false => exact running_mem x r (i + 1) _ (.inl ⟨h, fun z hz => hn z (List.mem_cons_of_mem _ hz)⟩)
  ·obtain ⟨h1, h2⟩ := List.pairwise_cons.1 hp
   rcases List.mem_cons.1 h with rfl | h
   ·rw [beq_iff_eq.2 hs]
    exact running_mem x r (i + 1) _ (.inl ⟨setM_mem _ _ c, fun z hz => by have := h1 z hz; omega⟩)
   ·cases (y.state == 2) with
    | true => exact running_mem x r (i + 1) _ (.inr ⟨h, hs, h2⟩)
    | false => exact running_mem x r (i + 1) _ (.inr ⟨h, hs, h2⟩)
theorem table_rows (l : List Job) (hn : l.length <= 40) : ∀ (r : List Job) (i : Nat), r = l.drop i -> i + r.length = l.length -> table_Check_g1 l r i = 0 ->
  (∀ x ∈ r, job_Check x = 0) ∧ r.Pairwise (fun a b => a.id < b.id) ∧ (∀ y, 0 < i -> l[i - 1]? = some y -> ∀ x ∈ r, y.id < x.id)
 | [], i, _, _, _ => ⟨fun x hx => (nomatch hx), .nil, fun _ _ _ x hx => (nomatch hx)⟩
 | x :: r, i, hr, hlen, h => by
  simp only [List.length_cons] at hlen
  rw [table_Check_g1] at h
  cases h1 : (((job_Check x) != 0) || ((decide ((i : Int) > 0)) && (decide ((l.getD (Int.toNat (w64 ((i : Int) - 1))) Job.zero).id >= x.id)))) with
  | true => rw [h1] at h; cases h
  | false =>
   rw [h1] at h
   obtain ⟨h2, h3⟩ := or_f h1
   have hx : job_Check x = 0 := by simpa using h2
   have hi : l[i]? = some x := by
    have := congrArg (fun q => q[0]?) hr
    simpa [List.getElem?_drop] using this.symm
   have hr' : r = l.drop (i + 1) := by rw [← List.drop_drop, ← hr]; rfl
   obtain ⟨ih1, ih2, ih3⟩ := table_rows l hn r (i + 1) hr' (by omega) h
   have hxr : ∀ z ∈ r, x.id < z.id := ih3 x (by omega) hi
   refine ⟨fun z hz => ?_, List.pairwise_cons.2 ⟨hxr, ih2⟩, fun y hi0 hy z hz => ?_⟩
   ·rcases List.mem_cons.1 hz with rfl | hz
    ·exact hx
    ·exact ih1 z hz
   ·have hyx : y.id < x.id := by
     have hw : w64 ((i : Int) - 1) = (i : Int) - 1 := wr (by omega)
     have ht : Int.toNat ((i : Int) - 1) = i - 1 := by omega
     have hg : l.getD (i - 1) Job.zero = y := by simp [List.getD, hy]
     rw [hw, ht, hg] at h3
     simp at h3
     omega
    rcases List.mem_cons.1 hz with rfl | hz
    ·exact hyx
    ·exact Int.lt_trans hyx (hxr z hz)
theorem table_parts {l : List Job} (h : table_Check l = 0) : l.length <= 40 ∧ (∀ x ∈ l, job_Check x = 0) ∧ l.Pairwise (fun a b => a.id < b.id) := by
 unfold table_Check at h
 cases h1 : (decide ((l.length : Int) > 40)) with
 | true => rw [h1] at h; cases h
 | false =>
  rw [h1] at h
  have h2 := of_decide_eq_false h1
  obtain ⟨a, b, _⟩ := table_rows l (by omega) l 0 (by simp) (by omega) h
  exact ⟨by omega, a, b⟩
section
variable {s : State}
theorem check_parts (h : state_Check s = 0) : plan_Check s = 0 ∧ ∀ x ∈ s.jobs, x.state = 2 -> alloc_Held s.nodes x.id = x.nodes := by
 have h0 := h
 unfold state_Check at h
 cases h1 : (plan_Check s != 0) with
 | true => rw [h1] at h; cases h
 | false =>
  rw [h1] at h
  have hp : plan_Check s = 0 := by simpa using h1
  refine ⟨hp, fun x hx hs => ?_⟩
  obtain ⟨_, _, ho⟩ := table_parts (plan_Check_parts hp).2
  have hall := check_held s _ _ _ _ _ _ h
  have hm := running_mem x s.jobs 0 [] (.inr ⟨hx, hs, ho⟩)
  have := List.all_eq_true.1 hall _ hm
  simp only at this
  cases hq : (alloc_Held s.nodes x.id != x.nodes) with
  | false => simpa using hq
  | true => rw [hq] at this; cases this
end
end Go.Proofs.YtigcpfbpmnppcaaGreatDoor
namespace Go.Proofs.YtigcpfbpmnppcaaGreatDoor
set_option linter.unusedSimpArgs false
set_option linter.unusedVariables false
open Go.Fw
end Go.Proofs.YtigcpfbpmnppcaaGreatDoor
namespace Go.Proofs.YtigcpfbpmnppcaaGreatDoor
set_option linter.unusedSimpArgs false
set_option linter.unusedVariables false
open Go.Fw
theorem order_eq (a b : Usage) : decide (ledger_order a b >= 0) = !(ref17_ahead a b) := by
 unfold ledger_order ref17_ahead cmp_Or_int cmp_Compare_string cmp_isNaN_string
 simp only [beq_self_eq_true, Bool.not_true, cond_false]
 generalize Op.bytesLess (ByteArray.toList a.user) (ByteArray.toList b.user) = lu
 generalize (ByteArray.toList a.user == ByteArray.toList b.user) = eu
 generalize Op.bytesLess (ByteArray.toList a.account) (ByteArray.toList b.account) = la
 generalize (ByteArray.toList a.account == ByteArray.toList b.account) = ea
 revert lu eu la ea
 decide
end Go.Proofs.YtigcpfbpmnppcaaGreatDoor
namespace Go.Proofs.YtigcpfbpmnppcaaGreatDoor
set_option linter.unusedSimpArgs false
set_option linter.unusedVariables false
open Go.Fw
theorem cnt1 (n : Nat) (hn : n < 18446744073709551616) : wu64 ((wu64 (BitVec.ofInt 64 (Int.fdiv (n : Int) (2 ^ (min (Int.toNat 1) 64))) &&& BitVec.ofInt 64 6148914691236517205).toNat) + (wu64 (BitVec.ofInt 64 (n : Int) &&& BitVec.ofInt 64 6148914691236517205).toNat)) = ((sw1 n : Nat) : Int) := by
 have e1 : Int.fdiv (n : Int) (2 ^ (min (Int.toNat 1) 64)) = ((n / 2 ^ 1 : Nat) : Int) := nat_shr n 1 (by decide)
 have h1 : n / 2 ^ 1 < 18446744073709551616 := by omega
 have e2 : wu64 (BitVec.ofInt 64 ((n / 2 ^ 1 : Nat) : Int) &&& BitVec.ofInt 64 6148914691236517205).toNat = (((n / 2 ^ 1) &&& 6148914691236517205 : Nat) : Int) := nat_and (c := 6148914691236517205) h1 (by decide)
 have e3 : wu64 (BitVec.ofInt 64 (n : Int) &&& BitVec.ofInt 64 6148914691236517205).toNat = ((n &&& 6148914691236517205 : Nat) : Int) := nat_and (c := 6148914691236517205) hn (by decide)
 have l1 := Nat.and_le_right (n := n / 2 ^ 1) (m := 6148914691236517205)
 have l2 := Nat.and_le_right (n := n) (m := 6148914691236517205)
 rw [e1, e2, e3]
 exact nat_sum (by omega)
theorem cnt2 (n : Nat) (hn : n < 18446744073709551616) : wu64 ((wu64 (BitVec.ofInt 64 (Int.fdiv (n : Int) (2 ^ (min (Int.toNat 2) 64))) &&& BitVec.ofInt 64 3689348814741910323).toNat) + (wu64 (BitVec.ofInt 64 (n : Int) &&& BitVec.ofInt 64 3689348814741910323).toNat)) = ((sw2 n : Nat) : Int) := by
 have e1 : Int.fdiv (n : Int) (2 ^ (min (Int.toNat 2) 64)) = ((n / 2 ^ 2 : Nat) : Int) := nat_shr n 2 (by decide)
 have h1 : n / 2 ^ 2 < 18446744073709551616 := by omega
 have e2 : wu64 (BitVec.ofInt 64 ((n / 2 ^ 2 : Nat) : Int) &&& BitVec.ofInt 64 3689348814741910323).toNat = (((n / 2 ^ 2) &&& 3689348814741910323 : Nat) : Int) := nat_and (c := 3689348814741910323) h1 (by decide)
 have e3 : wu64 (BitVec.ofInt 64 (n : Int) &&& BitVec.ofInt 64 3689348814741910323).toNat = ((n &&& 3689348814741910323 : Nat) : Int) := nat_and (c := 3689348814741910323) hn (by decide)
 have l1 := Nat.and_le_right (n := n / 2 ^ 2) (m := 3689348814741910323)
 have l2 := Nat.and_le_right (n := n) (m := 3689348814741910323)
 rw [e1, e2, e3]
 exact nat_sum (by omega)
theorem cnt3 (n : Nat) (hn : n <= 7378697629483820646) : wu64 (BitVec.ofInt 64 (wu64 ((Int.fdiv (n : Int) (2 ^ (min (Int.toNat 4) 64))) + (n : Int))) &&& BitVec.ofInt 64 1085102592571150095).toNat = ((sw3 n : Nat) : Int) := by
 have e1 : Int.fdiv (n : Int) (2 ^ (min (Int.toNat 4) 64)) = ((n / 2 ^ 4 : Nat) : Int) := nat_shr n 4 (by decide)
 rw [e1, nat_sum (by omega)]
 exact nat_and (c := 1085102592571150095) (by omega) (by decide)
theorem count_eq {s : Int} (hs : U64 s) : nodeset_Count s = ((popN 64 s.toNat : Nat) : Int) := by
 obtain ⟨n, rfl⟩ : ∃ n : Nat, s = (n : Int) := ⟨s.toNat, by unfold U64 at hs; omega⟩
 have hn : n < 18446744073709551616 := by unfold U64 at hs; omega
 have b1 : sw1 n < 18446744073709551616 := by
  unfold sw1
  have l1 := Nat.and_le_right (n := n / 2 ^ 1) (m := 6148914691236517205)
  have l2 := Nat.and_le_right (n := n) (m := 6148914691236517205)
  omega
 have b2 : sw2 (sw1 n) <= 7378697629483820646 := by
  unfold sw2
  have l1 := Nat.and_le_right (n := sw1 n / 2 ^ 2) (m := 3689348814741910323)
  have l2 := Nat.and_le_right (n := sw1 n) (m := 3689348814741910323)
  omega
 obtain ⟨a, b, c, d, e, f, g, h, hx, ha, hb, hc, hd, he, hf, hg, hh, hp⟩ := sw_pop hn
 unfold nodeset_Count bits_OnesCount64 oc3 oc2 oc1
 rw [cnt1 n hn, cnt2 (sw1 n) b1, cnt3 (sw2 (sw1 n)) b2, hx, Int.toNat_natCast, hp]
 obtain ⟨q0, q1, q2, q3⟩ := sum_low ha hb hc hd he hf hg hh _ _ _ rfl rfl rfl
 generalize hX : by8 a b c d e f g h = X at *
 have hXlt : X < 9223372036854775808 := by omega
 have s8 : Int.fdiv (X : Int) (2 ^ (min (Int.toNat 8) 64)) = ((X / 256 : Nat) : Int) := nat_shr X 8 (by decide)
 rw [s8, nat_sum (by omega)]
 generalize hY : X + X / 256 = Y at *
 have s16 : Int.fdiv (Y : Int) (2 ^ (min (Int.toNat 16) 64)) = ((Y / 65536 : Nat) : Int) := nat_shr Y 16 (by decide)
 rw [s16, nat_sum (by omega)]
 generalize hZ : Y + Y / 65536 = Z at *
 have s32 : Int.fdiv (Z : Int) (2 ^ (min (Int.toNat 32) 64)) = ((Z / 4294967296 : Nat) : Int) := nat_shr Z 32 (by decide)
 rw [s32, nat_sum (by omega)]
 generalize hW : Z + Z / 4294967296 = W at *
 have hw : w64 (W : Int) = (W : Int) := wr (by omega)
 rw [hw]
 have hm : ((BitVec.ofInt 64 (W : Int) &&& BitVec.ofInt 64 127).toNat : Int) = ((W &&& 127 : Nat) : Int) := by
  have := nat_and (n := W) (c := 127) (by omega) (by decide)
  rw [wu64_bv] at this
  exact this
 rw [hm, Nat.and_two_pow_sub_one_eq_mod W 7]
 show w64 (((W % 128 : Nat)) : Int) = _
 rw [q0]
 exact wr (by omega)
end Go.Proofs.YtigcpfbpmnppcaaGreatDoor
namespace Go.Proofs.YtigcpfbpmnppcaaGreatDoor
set_option linter.unusedSimpArgs false
set_option linter.unusedVariables false
open Go.Fw
end Go.Proofs.YtigcpfbpmnppcaaGreatDoor
namespace Go.Proofs.YtigcpfbpmnppcaaGreatDoor
set_option linter.unusedSimpArgs false
set_option linter.unusedVariables false
open Go.Fw
end Go.Proofs.YtigcpfbpmnppcaaGreatDoor
namespace Go.Proofs.YtigcpfbpmnppcaaGreatDoor
set_option linter.unusedSimpArgs false
set_option linter.unusedVariables false
open Go.Fw
end Go.Proofs.YtigcpfbpmnppcaaGreatDoor
namespace Go.Proofs.YtigcpfbpmnppcaaGreatDoor
set_option linter.unusedSimpArgs false
set_option linter.unusedVariables false
open Go.Fw
section
variable (s : ByteArray)
end
end Go.Proofs.YtigcpfbpmnppcaaGreatDoor
namespace Go.Proofs.YtigcpfbpmnppcaaGreatDoor
set_option linter.unusedSimpArgs false
set_option linter.unusedVariables false
open Go.Fw
end Go.Proofs.YtigcpfbpmnppcaaGreatDoor
namespace Go.Proofs.YtigcpfbpmnppcaaGreatDoor
set_option linter.unusedSimpArgs false
set_option linter.unusedVariables false
open Go.Fw
end Go.Proofs.YtigcpfbpmnppcaaGreatDoor
namespace Go.Proofs.YtigcpfbpmnppcaaGreatDoor
set_option linter.unusedSimpArgs false
set_option linter.unusedVariables false
open Go.Fw
end Go.Proofs.YtigcpfbpmnppcaaGreatDoor
namespace Go.Proofs.YtigcpfbpmnppcaaGreatDoor
set_option linter.unusedSimpArgs false
set_option linter.unusedVariables false
open Go.Fw
section
variable (s : State) (r : Resize) (j : Job)
end
end Go.Proofs.YtigcpfbpmnppcaaGreatDoor
namespace Go.Proofs.YtigcpfbpmnppcaaGreatDoor
set_option linter.unusedSimpArgs false
set_option linter.unusedVariables false
open Go.Fw
section
variable (s : State)
end
end Go.Proofs.YtigcpfbpmnppcaaGreatDoor
namespace Go.Proofs.YtigcpfbpmnppcaaGreatDoor
set_option linter.unusedSimpArgs false
set_option linter.unusedVariables false
open Go.Fw
structure Words (s : State) : Prop where
 sz : s.sz
 jobs : ∀ x ∈ s.jobs, U64 x.nodes
 nodes : ∀ r ∈ s.resizes, U64 r.nodes
 said : ∀ r ∈ s.resizes, U64 r.said
section
variable {s : State}
end
end Go.Proofs.YtigcpfbpmnppcaaGreatDoor
namespace Go.Fw
set_option linter.unusedSimpArgs false
set_option linter.unusedVariables false
open Go.RowKit Go.ChangeShapes Go.WideShapes Go.Deep
theorem law_lifted_laid {C : Checked} {os : Os} {f : FuncId} {fn : Func} {s : ChangeSpec} {laid0 : List (String × DataW Unit)} {conds : List PathCond} {apart fresh handsOn again : Bool} {H : Type} {enc : TypeId × Value -> H} {Q : List AVal -> Prop} {tb : TypeId}
  (own : ownKnob C.prog.godebug = none) (started : os.Started) (noInit : C.prog.inits.idxOf? f = none) (hfn : C.prog.funcs[f]? = some fn)
  (witness : ∃ (w : World) (tape : Tape) (i : Input), w.os = os ∧ (w.forCall tape i).Shaped C.prog ∧ i.vars = [] ∧ Input.okWide C.prog (w.forCall tape i) .any w.heap.size f i ∧
   ((s.pre enc C.prog fn conds apart (w.forCall tape i).memory i.args ∧ laidMetH C.prog laid0 (w.forCall tape i).memory) ∧ sizedMet enc C.prog fn (OpenSpec.ofChange s) apart (w.forCall tape i).memory i.args) ∧ ({} : Assume).holds C.prog (lone (Frame.enter C.prog f i.args .normal) [] (w.forCall tape i)))
  (hvars : s.vars = []) (hres : fn.resultTypes = #[tb]) (hbool : C.prog.underlying tb = some .bool) (laid : laidOutB C.prog = true)
  (hts : fn.params.toList.all (fun t => C.prog.readableRec t && decide (t < C.prog.types.size)) = true)
  (hspec : ∀ ds : List (DataW H), ds.length = fn.params.size -> s.fn H ds = { results := [.lit (.bool true)], args := ds })
  (hargs : ArgsAs C.prog fn.params.toList Q) (hlaw : ∀ l, Q l -> AGives C.prog f l [] (.lit (.bool true))) :
  ReturnsInHanded {} C os f .any (fun w args => (s.pre enc C.prog fn conds apart w args ∧ laidMetH C.prog laid0 w) ∧ sizedMet enc C.prog fn (OpenSpec.ofChange s) apart w args) (s.post enc C.prog fn apart fresh handsOn again) := by
 refine returnsInHanded_of_change_and (X := fun w _ => laidMetH C.prog laid0 w) (fun _ _ _ hh h => h.of_heap hh) own started noInit hfn witness ?_
 intro W base args ds gs before hval hW hcnd _ _ _
 have hW' := hW
 obtain ⟨p, q, hA, hV, hpq, hfz, hnd⟩ := hW
 rw [hvars] at hV
 obtain ⟨rfl, rfl⟩ := trodVars_none hV
 rw [List.append_nil] at hpq
 subst hpq
 obtain ⟨l, hQ, hreps⟩ := hargs.read (base := base) (vs := args.toList) (fun j t v hj hv => hval j t v (by simpa using hj) (by simpa using hv)) hA
 have hc := law_calls (hlaw l hQ) hreps
 rw [show args.toList.toArray = args by simp] at hc
 refine hc.mono fun e W' ⟨he, hb⟩ => ?_
 subst he
 have hlen : ds.length = fn.params.size := by
  have : ∀ {ts : List TypeId} {vs : List Value} {ds : List (DataW H)} {ps : List MemPlace}, DataW.TrodAll enc C.prog W 0 (fun _ => true) true ts vs ds ps -> ds.length = ts.length := by
   intro ts
   induction ts with
   | nil => intro vs ds ps h; obtain ⟨rfl, rfl, rfl⟩ := trodAll_nil h; rfl
   | cons t ts ih => intro vs ds ps h; obtain ⟨v, vs', d, ds', p, q, rfl, rfl, rfl, hd, hrest⟩ := trodAll_cons h; simp [ih hrest]
  simpa using this hA
 have hfn2 := hspec ds hlen
 have hold : ∀ p ∈ before, p.block < W.heap.size := fun p hp => by simpa using hW'.lt p hp
 have hR : ∀ (b : Nat) (sp : Nat -> Bool) (hd : Bool), DataW.TrodAll enc C.prog W' b sp hd fn.resultTypes.toList ((Value.bool true).resultList fn.resultTypes.size) (s.fn H (ds ++ [])).results [] := by
  intro b sp hd
  rw [List.append_nil, hfn2, hres]
  exact trodAll_cons_mk (shut_bool hbool _) trodAll_mk0
 have hAr : ∀ sp : Nat -> Bool, (∀ p ∈ before, sp p.block = true) -> DataW.TrodAll enc C.prog W' 0 sp true fn.params.toList args.toList (s.fn H (ds ++ [])).args before := by
  intro sp hsp
  rw [List.append_nil, hfn2]
  exact trodAll_below laid hb hts hA hold hsp
 have hVr : ∀ sp : Nat -> Bool, DataW.TrodVars enc C.prog W' sp s.vars (s.fn H (ds ++ [])).vars [] := by
  intro sp
  rw [List.append_nil, hfn2, hvars]
  rfl
 refine ⟨_, rfl, ds, [], before, [], before, [], hW', hR _ _ _, hAr _ (fun p hp => by simpa using hold p hp), hVr _, hb.frame _, fun _ => ⟨ok_one hres rfl (okWide_bool_mk hbool _), _, _, ([] ++ before) ++ [], ⟨[] ++ before, [], trodAll_append (hAr _ (fun _ _ => rfl)) (hR _ _ _), hVr _, rfl, ?_, ?_⟩, ?_⟩⟩
 ·intro b off hp
  have hp : MemPlace.cell b off ∈ before := by simpa using hp
  rw [hb.frozen (p := ⟨b, off, none⟩) (hold _ hp)]
  exact hfz b off (by simpa using hp)
 ·intro ha
  simpa using hnd ha
 ·intro p hp _
  simpa using hp
end Go.Fw
namespace Go.Proofs.YtigcpfbpmnppcaaGreatDoor
set_option linter.unusedSimpArgs false
set_option linter.unusedVariables false
open Go.Fw
set_option maxRecDepth 100000
theorem ty3 : Tryz.prog.underlying 50 = some (.int .u64) := by kernel_rfl
theorem ty2 : Tryz.prog.underlying 9 = some (.string) := by kernel_rfl
theorem ty1 : Tryz.prog.underlying 4 = some (.bool) := by kernel_rfl
theorem ty0 : Tryz.prog.underlying 3 = some (.int .i64) := by kernel_rfl
def Node.wf (x : Node) : Prop := (Lit.int .i64 x.state).wf = true ∧ (Lit.int .i64 x.job).wf = true ∧ (Lit.int .i64 x.epoch).wf = true ∧ True ∧ (Lit.int .i64 x.want).wf = true ∧ (Lit.int .i64 x.since).wf = true ∧ (Lit.int .i64 x.asked).wf = true ∧ True
theorem readNode : ReadAs Tryz.prog 57 Node.cells Node.wf := by
 have h := ReadAs.struct (P := Tryz.prog) (t := 57) rfl (by kernel_rfl) (.cons rfl (ReadAs.int ty0) (.cons rfl (ReadAs.int ty0) (.cons rfl (ReadAs.int ty0) (.cons rfl (ReadAs.bool ty1) (.cons rfl (ReadAs.int ty0) (.cons rfl (ReadAs.int ty0) (.cons rfl (ReadAs.int ty0) .nil)))))))
 exact h.map (fun p => (⟨p.1, p.2.1, p.2.2.1, p.2.2.2.1, p.2.2.2.2.1, p.2.2.2.2.2.1, p.2.2.2.2.2.2.1⟩ : Node)) (fun _ => rfl) (fun _ h => h)
theorem readNodes : ReadAs Tryz.prog 22 (fun l => [nodeL l]) fun l => l.length <= maxLen ∧ ∀ a ∈ l, Node.wf a :=
 ReadAs.slice Node.zero rfl (by kernel_rfl) (by decide) readNode (fun _ => rfl)
def Alt.wf (x : Alt) : Prop := (Lit.int .i64 x.nodes).wf = true ∧ (Lit.int .i64 x.wall).wf = true ∧ True
theorem readAlt : ReadAs Tryz.prog 103 Alt.cells Alt.wf := by
 have h := ReadAs.struct (P := Tryz.prog) (t := 103) rfl (by kernel_rfl) (.cons rfl (ReadAs.int ty0) (.cons rfl (ReadAs.int ty0) .nil))
 exact h.map (fun p => (⟨p.1, p.2.1⟩ : Alt)) (fun _ => rfl) (fun _ h => h)
theorem readAlts : ReadAs Tryz.prog 46 (fun l => [altL l]) fun l => l.length <= maxLen ∧ ∀ a ∈ l, Alt.wf a :=
 ReadAs.slice Alt.zero rfl (by kernel_rfl) (by decide) readAlt (fun _ => rfl)
def Shape.wf (x : Shape) : Prop := (Lit.int .i64 x.kind).wf = true ∧ (x.alts.length <= maxLen ∧ ∀ a ∈ x.alts, Alt.wf a) ∧ (Lit.int .i64 x.min).wf = true ∧ (Lit.int .i64 x.max).wf = true ∧ (Lit.int .i64 x.wall).wf = true ∧ True
theorem readShape : ReadAs Tryz.prog 48 Shape.cells Shape.wf := by
 have h := ReadAs.struct (P := Tryz.prog) (t := 48) rfl (by kernel_rfl) (.cons rfl (ReadAs.int ty0) (.cons rfl (readAlts) (.cons rfl (ReadAs.int ty0) (.cons rfl (ReadAs.int ty0) (.cons rfl (ReadAs.int ty0) .nil)))))
 exact h.map (fun p => (⟨p.1, p.2.1, p.2.2.1, p.2.2.2.1, p.2.2.2.2.1⟩ : Shape)) (fun _ => rfl) (fun _ h => h)
def Dep.wf (x : Dep) : Prop := (Lit.int .i64 x.how).wf = true ∧ (Lit.int .i64 x.job).wf = true ∧ True
theorem readDep : ReadAs Tryz.prog 115 Dep.cells Dep.wf := by
 have h := ReadAs.struct (P := Tryz.prog) (t := 115) rfl (by kernel_rfl) (.cons rfl (ReadAs.int ty0) (.cons rfl (ReadAs.int ty0) .nil))
 exact h.map (fun p => (⟨p.1, p.2.1⟩ : Dep)) (fun _ => rfl) (fun _ h => h)
theorem readDeps : ReadAs Tryz.prog 49 (fun l => [depL l]) fun l => l.length <= maxLen ∧ ∀ a ∈ l, Dep.wf a :=
 ReadAs.slice Dep.zero rfl (by kernel_rfl) (by decide) readDep (fun _ => rfl)
def Job.wf (x : Job) : Prop := (Lit.int .i64 x.id).wf = true ∧ x.name.size <= maxLen ∧ x.user.size <= maxLen ∧ x.account.size <= maxLen ∧ Shape.wf x.shape ∧ (Lit.int .i64 x.prio).wf = true ∧ (x.after.length <= maxLen ∧ ∀ a ∈ x.after, Dep.wf a) ∧ (Lit.int .i64 x.state).wf = true ∧ True ∧ (Lit.int .i64 x.born).wf = true ∧ (Lit.int .i64 x.promise).wf = true ∧ (Lit.int .i64 x.choice).wf = true ∧ (Lit.int .i64 x.start).wf = true ∧ (Lit.int .i64 x.limit).wf = true ∧ (Lit.int .u64 x.nodes).wf = true ∧ (Lit.int .i64 x.used).wf = true ∧ True
theorem readJob : ReadAs Tryz.prog 52 Job.cells Job.wf := by
 have h := ReadAs.struct (P := Tryz.prog) (t := 52) rfl (by kernel_rfl) (.cons rfl (ReadAs.int ty0) (.cons rfl (ReadAs.string ty2) (.cons rfl (ReadAs.string ty2) (.cons rfl (ReadAs.string ty2) (.cons rfl (readShape) (.cons rfl (ReadAs.int ty0) (.cons rfl (readDeps) (.cons rfl (ReadAs.int ty0) (.cons rfl (ReadAs.bool ty1) (.cons rfl (ReadAs.int ty0) (.cons rfl (ReadAs.int ty0) (.cons rfl (ReadAs.int ty0) (.cons rfl (ReadAs.int ty0) (.cons rfl (ReadAs.int ty0) (.cons rfl (ReadAs.int ty3) (.cons rfl (ReadAs.int ty0) .nil))))))))))))))))
 exact h.map (fun p => (⟨p.1, p.2.1, p.2.2.1, p.2.2.2.1, p.2.2.2.2.1, p.2.2.2.2.2.1, p.2.2.2.2.2.2.1, p.2.2.2.2.2.2.2.1, p.2.2.2.2.2.2.2.2.1, p.2.2.2.2.2.2.2.2.2.1, p.2.2.2.2.2.2.2.2.2.2.1, p.2.2.2.2.2.2.2.2.2.2.2.1, p.2.2.2.2.2.2.2.2.2.2.2.2.1, p.2.2.2.2.2.2.2.2.2.2.2.2.2.1, p.2.2.2.2.2.2.2.2.2.2.2.2.2.2.1, p.2.2.2.2.2.2.2.2.2.2.2.2.2.2.2.1⟩ : Job)) (fun _ => rfl) (fun _ h => h)
theorem readJobs : ReadAs Tryz.prog 23 (fun l => [jobL l]) fun l => l.length <= maxLen ∧ ∀ a ∈ l, Job.wf a :=
 ReadAs.slice Job.zero rfl (by kernel_rfl) (by decide) readJob (fun _ => rfl)
def Resize.wf (x : Resize) : Prop := (Lit.int .i64 x.job).wf = true ∧ True ∧ (Lit.int .u64 x.nodes).wf = true ∧ (Lit.int .u64 x.said).wf = true ∧ (Lit.int .i64 x.since).wf = true ∧ True
theorem readResize : ReadAs Tryz.prog 88 Resize.cells Resize.wf := by
 have h := ReadAs.struct (P := Tryz.prog) (t := 88) rfl (by kernel_rfl) (.cons rfl (ReadAs.int ty0) (.cons rfl (ReadAs.bool ty1) (.cons rfl (ReadAs.int ty3) (.cons rfl (ReadAs.int ty3) (.cons rfl (ReadAs.int ty0) .nil)))))
 exact h.map (fun p => (⟨p.1, p.2.1, p.2.2.1, p.2.2.2.1, p.2.2.2.2.1⟩ : Resize)) (fun _ => rfl) (fun _ h => h)
theorem readResizes : ReadAs Tryz.prog 24 (fun l => [resizeL l]) fun l => l.length <= maxLen ∧ ∀ a ∈ l, Resize.wf a :=
 ReadAs.slice Resize.zero rfl (by kernel_rfl) (by decide) readResize (fun _ => rfl)
def Book.wf (x : Book) : Prop := (Lit.int .i64 x.id).wf = true ∧ (Lit.int .i64 x.from_).wf = true ∧ (Lit.int .i64 x.to).wf = true ∧ (Lit.int .i64 x.nodes).wf = true ∧ True
theorem readBook : ReadAs Tryz.prog 90 Book.cells Book.wf := by
 have h := ReadAs.struct (P := Tryz.prog) (t := 90) rfl (by kernel_rfl) (.cons rfl (ReadAs.int ty0) (.cons rfl (ReadAs.int ty0) (.cons rfl (ReadAs.int ty0) (.cons rfl (ReadAs.int ty0) .nil))))
 exact h.map (fun p => (⟨p.1, p.2.1, p.2.2.1, p.2.2.2.1⟩ : Book)) (fun _ => rfl) (fun _ h => h)
theorem readBooks : ReadAs Tryz.prog 25 (fun l => [bookL l]) fun l => l.length <= maxLen ∧ ∀ a ∈ l, Book.wf a :=
 ReadAs.slice Book.zero rfl (by kernel_rfl) (by decide) readBook (fun _ => rfl)
def Usage.wf (x : Usage) : Prop := x.user.size <= maxLen ∧ x.account.size <= maxLen ∧ (Lit.int .i64 x.used).wf = true ∧ (Lit.int .i64 x.share).wf = true ∧ True
theorem readUsage : ReadAs Tryz.prog 67 Usage.cells Usage.wf := by
 have h := ReadAs.struct (P := Tryz.prog) (t := 67) rfl (by kernel_rfl) (.cons rfl (ReadAs.string ty2) (.cons rfl (ReadAs.string ty2) (.cons rfl (ReadAs.int ty0) (.cons rfl (ReadAs.int ty0) .nil))))
 exact h.map (fun p => (⟨p.1, p.2.1, p.2.2.1, p.2.2.2.1⟩ : Usage)) (fun _ => rfl) (fun _ h => h)
theorem readUsages : ReadAs Tryz.prog 26 (fun l => [usageL l]) fun l => l.length <= maxLen ∧ ∀ a ∈ l, Usage.wf a :=
 ReadAs.slice Usage.zero rfl (by kernel_rfl) (by decide) readUsage (fun _ => rfl)
def State.wf (x : State) : Prop := (Lit.int .i64 x.now).wf = true ∧ (x.nodes.length <= maxLen ∧ ∀ a ∈ x.nodes, Node.wf a) ∧ (x.jobs.length <= maxLen ∧ ∀ a ∈ x.jobs, Job.wf a) ∧ (x.resizes.length <= maxLen ∧ ∀ a ∈ x.resizes, Resize.wf a) ∧ (x.books.length <= maxLen ∧ ∀ a ∈ x.books, Book.wf a) ∧ (x.ledger.length <= maxLen ∧ ∀ a ∈ x.ledger, Usage.wf a) ∧ (Lit.int .i64 x.nextJob).wf = true ∧ (Lit.int .i64 x.nextBook).wf = true ∧ True
theorem readState : ReadAs Tryz.prog 28 State.cells State.wf := by
 have h := ReadAs.struct (P := Tryz.prog) (t := 28) rfl (by kernel_rfl) (.cons rfl (ReadAs.int ty0) (.cons rfl (readNodes) (.cons rfl (readJobs) (.cons rfl (readResizes) (.cons rfl (readBooks) (.cons rfl (readUsages) (.cons rfl (ReadAs.int ty0) (.cons rfl (ReadAs.int ty0) .nil))))))))
 exact h.map (fun p => (⟨p.1, p.2.1, p.2.2.1, p.2.2.2.1, p.2.2.2.2.1, p.2.2.2.2.2.1, p.2.2.2.2.2.2.1, p.2.2.2.2.2.2.2.1⟩ : State)) (fun _ => rfl) (fun _ h => h)
end Go.Proofs.YtigcpfbpmnppcaaGreatDoor
namespace Go.Proofs.YtigcpfbpmnppcaaGreatDoor
set_option linter.unusedSimpArgs false
set_option linter.unusedVariables false
open Go.Fw
theorem Shape.wf_szM {x : Shape} (h : x.wf) : x.szM := h.2.1.1
theorem Job.wf_szM {x : Job} (h : x.wf) : x.szM := ⟨h.2.1, h.2.2.1, h.2.2.2.1, Shape.wf_szM h.2.2.2.2.1, h.2.2.2.2.2.2.1.1⟩
theorem Usage.wf_szM {x : Usage} (h : x.wf) : x.szM := ⟨h.1, h.2.1⟩
theorem State.wf_szM {x : State} (h : x.wf) : x.szM :=
 ⟨h.2.1.1, h.2.2.1.1, fun y hy => Job.wf_szM (h.2.2.1.2 y hy), h.2.2.2.1.1, h.2.2.2.2.1.1, h.2.2.2.2.2.1.1, fun y hy => Usage.wf_szM (h.2.2.2.2.2.1.2 y hy)⟩
end Go.Proofs.YtigcpfbpmnppcaaGreatDoor
namespace Go.Proofs.YtigcpfbpmnppcaaGreatDoor
set_option linter.unusedSimpArgs false
set_option linter.unusedVariables false
open Go.Fw
end Go.Proofs.YtigcpfbpmnppcaaGreatDoor
namespace Go.Proofs.YtigcpfbpmnppcaaGreatDoor
set_option linter.unusedSimpArgs false
set_option linter.unusedVariables false
open Go.Fw
theorem law17_Few_ok : ∀ (l : List Usage) (i : Nat), law17_Few_g1 l i = true -> ∀ y ∈ l, y.sz
 | [], _, _, y, hy => nomatch hy
 | x :: r, i, h, y, hy => by
  rw [law17_Few_g1] at h
  cases hc : ((decide ((ByteArray.size x.user : Int) > 1000)) || (decide ((ByteArray.size x.account : Int) > 1000))) with
  | true => rw [hc] at h; cases h
  | false =>
   rw [hc] at h
   rcases List.mem_cons.1 hy with rfl | hy
   ·simp only [Bool.or_eq_false_iff, decide_eq_false_iff_not] at hc
    exact ⟨by omega, by omega⟩
   ·exact law17_Few_ok r (i + 1) h y hy
theorem law14_Few_sz {j : Job} (h : law14_Few j = true) : j.sz := by
 simp only [law14_Few, law07_Few, Bool.and_eq_true, decide_eq_true_eq] at h
 exact ⟨by omega, by omega, by omega, by show j.shape.alts.length <= _; omega, by omega⟩
theorem law15_Few_ok : ∀ (l : List Job) (i : Nat), law15_Few_g1 l i = true -> ∀ y ∈ l, y.sz
 | [], _, _, y, hy => nomatch hy
 | x :: r, i, h, y, hy => by
  rw [law15_Few_g1] at h
  cases hc : law14_Few x with
  | false => rw [hc] at h; cases h
  | true =>
   rw [hc] at h
   rcases List.mem_cons.1 hy with rfl | hy
   ·exact law14_Few_sz hc
   ·exact law15_Few_ok r (i + 1) h y hy
theorem law20_Few_sz {s : State} (h : law20_Few s = true) : s.sz := by
 simp only [law20_Few, law12_Few, law15_Few, law19_Few, law17_Few, Bool.and_eq_true, decide_eq_true_eq] at h
 obtain ⟨⟨⟨⟨h1, h2⟩, h3⟩, h4⟩, h5⟩ := h
 cases hj : decide ((s.jobs.length : Int) > 60) with
 | true => rw [hj] at h2; cases h2
 | false =>
  cases hl : decide ((s.ledger.length : Int) > 300) with
  | true => rw [hl] at h4; cases h4
  | false =>
   rw [hj] at h2
   rw [hl] at h4
   have qj := of_decide_eq_false hj
   have ql := of_decide_eq_false hl
   exact ⟨by omega, by omega, law15_Few_ok _ _ h2, by omega, by omega, by omega, law17_Few_ok _ _ h4⟩
end Go.Proofs.YtigcpfbpmnppcaaGreatDoor
namespace Go.Proofs.YtigcpfbpmnppcaaGreatDoor
set_option linter.unusedSimpArgs false
set_option linter.unusedVariables false
open Go.Fw
theorem plan_now {s : State} (h : plan_Check s = 0) : 0 <= s.now ∧ s.now <= 1000000 := by
 unfold plan_Check at h
 cases h1 : (room_Check s != 0) with
 | true => rw [h1] at h; cases h
 | false =>
  have hr : room_Check s = 0 := by simpa using h1
  unfold room_Check at hr
  cases h2 : (((((decide (s.now < 0)) || (decide (s.now > 1000000))) || ((fleet_Check s.nodes) != 0)) || ((table_Check s.jobs) != 0)) || ((book_Check s.books) != 0)) with
  | true => rw [h2] at hr; cases hr
  | false =>
   have h3 := (or_f (or_f (or_f h2).1).1).1
   simp only [Bool.or_eq_false_iff, decide_eq_false_iff_not] at h3
   omega
section
variable {s : State}
end
end Go.Proofs.YtigcpfbpmnppcaaGreatDoor
namespace Go.Proofs.YtigcpfbpmnppcaaGreatDoor
set_option linter.unusedSimpArgs false
set_option linter.unusedVariables false
open Go.Fw
theorem set_mid {α : Type} (p : List α) (x y : α) (r : List α) : (p ++ x :: r).set p.length y = p ++ y :: r := by
 induction p with
 | nil => rfl
 | cons a p ih => simp [ih]
theorem getD_mid {α : Type} (d : α) (p : List α) (x : α) (r : List α) : (p ++ x :: r).getD p.length d = x := by simp [List.getD]
end Go.Proofs.YtigcpfbpmnppcaaGreatDoor
namespace Go.Proofs.YtigcpfbpmnppcaaGreatDoor
set_option linter.unusedSimpArgs false
set_option linter.unusedVariables false
open Go.Fw
theorem bl_irr : ∀ x : List UInt8, Op.bytesLess x x = false
 | [] => rfl
 | a :: x => by
  rw [Op.bytesLess, bl_irr x]
  simp
theorem bl_trans : ∀ x y z : List UInt8, Op.bytesLess x y = true -> Op.bytesLess y z = true -> Op.bytesLess x z = true
 | _, [], _, h, _ => by simp [Op.bytesLess] at h
 | _, _ :: _, [], _, h => by simp [Op.bytesLess] at h
 | [], _ :: _, _ :: _, _, _ => rfl
 | a :: x, b :: y, c :: z, h, g => by
  simp only [Op.bytesLess, Bool.or_eq_true, Bool.and_eq_true, decide_eq_true_eq, beq_iff_eq] at h g ⊢
  rcases h with h | ⟨rfl, h⟩ <;> rcases g with g | ⟨rfl, g⟩
  ·exact .inl (UInt8.lt_trans h g)
  ·exact .inl h
  ·exact .inl g
  ·exact .inr ⟨rfl, bl_trans x y z h g⟩
theorem bl_tri : ∀ x y : List UInt8, Op.bytesLess x y = false -> Op.bytesLess y x = false -> x = y
 | [], [], _, _ => rfl
 | [], _ :: _, h, _ => by simp [Op.bytesLess] at h
 | _ :: _, [], _, h => by simp [Op.bytesLess] at h
 | a :: x, b :: y, h, g => by
  simp only [Op.bytesLess, Bool.or_eq_false_iff, decide_eq_false_iff_not, Bool.and_eq_false_iff, beq_eq_false_iff_ne] at h g
  have e : a = b := by
   rcases UInt8.lt_or_lt_of_ne (a := a) (b := b) |> fun q => (Classical.em (a = b)).imp id q with e | e | e
   ·exact e
   ·exact absurd e h.1
   ·exact absurd e g.1
  subst e
  rw [bl_tri x y (h.2.resolve_left fun q => q rfl) (g.2.resolve_left fun q => q rfl)]
theorem ahead_irr (a : Usage) : ref17_ahead a a = false := by
 unfold ref17_ahead
 rw [bl_irr, bl_irr]
 simp
theorem ahead_trans {a b c : Usage} (h : ref17_ahead a b = true) (g : ref17_ahead b c = true) : ref17_ahead a c = true := by
 unfold ref17_ahead at *
 simp only [Bool.or_eq_true, Bool.and_eq_true, beq_iff_eq] at *
 rcases h with h | ⟨h1, h2⟩ <;> rcases g with g | ⟨g1, g2⟩
 ·exact .inl (bl_trans _ _ _ h g)
 ·exact .inl (by rw [← g1]; exact h)
 ·exact .inl (by rw [h1]; exact g)
 ·exact .inr ⟨h1.trans g1, bl_trans _ _ _ h2 g2⟩
theorem ahead_tri {a b : Usage} (h : ref17_ahead a b = false) (g : ref17_ahead b a = false) : a.user = b.user ∧ a.account = b.account := by
 unfold ref17_ahead at *
 simp only [Bool.or_eq_false_iff, Bool.and_eq_false_iff, beq_eq_false_iff_ne] at *
 have h1 := bl_tri _ _ h.1 g.1
 have h2 := bl_tri _ _ (h.2.resolve_left fun q => q h1) (g.2.resolve_left fun q => q h1.symm)
 simp only [ByteArray.toList_eq] at h1 h2
 exact ⟨ByteArray.ext (Array.toList_inj.1 h1), ByteArray.ext (Array.toList_inj.1 h2)⟩
theorem order_lt (a b : Usage) : decide (ledger_order a b < 0) = ref17_ahead a b := by
 have h := order_eq a b
 rw [← Bool.not_inj_iff, ← h, ← decide_not]
 exact decide_eq_decide.2 (by omega)
theorem order_zero (a b : Usage) : (ledger_order a b == 0) = ((ByteArray.toList a.user == ByteArray.toList b.user) && (ByteArray.toList a.account == ByteArray.toList b.account)) := by
 have i1 : (ByteArray.toList a.user == ByteArray.toList b.user) = true -> Op.bytesLess (ByteArray.toList a.user) (ByteArray.toList b.user) = false := fun h => by rw [beq_iff_eq] at h; rw [h]; exact bl_irr _
 have i2 : (ByteArray.toList a.account == ByteArray.toList b.account) = true -> Op.bytesLess (ByteArray.toList a.account) (ByteArray.toList b.account) = false := fun h => by rw [beq_iff_eq] at h; rw [h]; exact bl_irr _
 unfold ledger_order cmp_Or_int cmp_Compare_string cmp_isNaN_string
 simp only [beq_self_eq_true, Bool.not_true, cond_false]
 revert i1 i2
 generalize Op.bytesLess (ByteArray.toList a.user) (ByteArray.toList b.user) = lu
 generalize (ByteArray.toList a.user == ByteArray.toList b.user) = eu
 generalize Op.bytesLess (ByteArray.toList a.account) (ByteArray.toList b.account) = la
 generalize (ByteArray.toList a.account == ByteArray.toList b.account) = ea
 revert lu eu la ea
 decide
def okU (x : Usage) : Bool := !(((((!(ledger_name x.user)) || (!(ledger_name x.account))) || (x.used != (sat_Usage x.used))) || (decide (x.share < 0))) || (decide (x.share > x.used)))
def aheadP (a b : Usage) : Prop := ref17_ahead a b = true
theorem ledger_rows (l : List Usage) (hn : l.length <= 200) : ∀ (r : List Usage) (i : Nat), r = l.drop i -> i + r.length = l.length ->
  (ledger_Check_g1 l r i = 0 ↔ (∀ x ∈ r, okU x = true) ∧ r.Pairwise aheadP ∧ (∀ y, 0 < i -> l[i - 1]? = some y -> ∀ x ∈ r, aheadP y x)) ∧ (ledger_Check_g1 l r i = 0 ∨ ledger_Check_g1 l r i = 2)
 | [], i, _, _ => ⟨⟨fun _ => ⟨fun x hx => (nomatch hx), .nil, fun _ _ _ x hx => (nomatch hx)⟩, fun _ => rfl⟩, .inl rfl⟩
 | x :: r, i, hr, hlen => by
  simp only [List.length_cons] at hlen
  have hi : l[i]? = some x := by
   have := congrArg (fun q => q[0]?) hr
   simpa [List.getElem?_drop] using this.symm
  have hr' : r = l.drop (i + 1) := by rw [← List.drop_drop, ← hr]; rfl
  obtain ⟨ih, ihv⟩ := ledger_rows l hn r (i + 1) hr' (by omega)
  rw [ledger_Check_g1, order_eq]
  have hsplit : ((((((!(ledger_name x.user)) || (!(ledger_name x.account))) || (x.used != (sat_Usage x.used))) || (decide (x.share < 0))) || (decide (x.share > x.used))) || ((decide ((i : Int) > 0)) && (!(ref17_ahead (l.getD (Int.toNat (w64 ((i : Int) - 1))) Usage.zero) x)))) = ((!(okU x)) || ((decide ((i : Int) > 0)) && (!(ref17_ahead (l.getD (i - 1) Usage.zero) x)))) := by
   unfold okU
   rw [Bool.not_not, w6 (n := (i : Int) - 1) (by omega), show Int.toNat ((i : Int) - 1) = i - 1 by omega]
  rw [hsplit]
  cases hok : okU x with
  | false =>
   refine ⟨⟨fun h => (nomatch h), fun h => ?_⟩, .inr rfl⟩
   have := h.1 x (List.mem_cons_self ..)
   rw [hok] at this
   cases this
  | true =>
   have tail : (ledger_Check_g1 l r (i + 1) = 0 ↔ (∀ z ∈ r, okU z = true) ∧ r.Pairwise aheadP ∧ ∀ z ∈ r, aheadP x z) := by
    rw [ih]
    exact ⟨fun h => ⟨h.1, h.2.1, h.2.2 x (by omega) hi⟩, fun h => ⟨h.1, h.2.1, fun y _ hy => by rw [show i + 1 - 1 = i by omega, hi] at hy; cases hy; exact h.2.2⟩⟩
   rcases Nat.eq_zero_or_pos i with h0 | h0
   ·subst h0
    have e : ((!true) || ((decide (((0 : Nat) : Int) > 0)) && (!(ref17_ahead (l.getD (0 - 1) Usage.zero) x)))) = false := rfl
    rw [e]
    refine ⟨?_, ihv⟩
    show ledger_Check_g1 l r 1 = 0 ↔ _
    rw [tail]
    constructor
    ·rintro ⟨h1, h2, h3⟩
     refine ⟨fun z hz => ?_, List.pairwise_cons.2 ⟨h3, h2⟩, fun y hy => absurd hy (by omega)⟩
     rcases List.mem_cons.1 hz with rfl | hz
     ·exact hok
     ·exact h1 z hz
    ·rintro ⟨h1, h2, _⟩
     exact ⟨fun z hz => h1 z (List.mem_cons_of_mem _ hz), (List.pairwise_cons.1 h2).2, (List.pairwise_cons.1 h2).1⟩
   ·obtain ⟨y, hy⟩ : ∃ y, l[i - 1]? = some y := ⟨_, List.getElem?_eq_getElem (by omega)⟩
    have hg : l.getD (i - 1) Usage.zero = y := by simp [List.getD, hy]
    rw [hg, decide_eq_true (show (i : Int) > 0 by omega)]
    cases ha : ref17_ahead y x with
    | false =>
     refine ⟨⟨fun h => (nomatch h), fun h => ?_⟩, .inr rfl⟩
     have := h.2.2 y h0 hy x (List.mem_cons_self ..)
     unfold aheadP at this
     rw [ha] at this
     cases this
    | true =>
     refine ⟨?_, ihv⟩
     show ledger_Check_g1 l r (i + 1) = 0 ↔ _
     rw [tail]
     constructor
     ·rintro ⟨h1, h2, h3⟩
      refine ⟨fun z hz => ?_, List.pairwise_cons.2 ⟨h3, h2⟩, fun w hw0 hw z hz => ?_⟩
      ·rcases List.mem_cons.1 hz with rfl | hz
       ·exact hok
       ·exact h1 z hz
      ·rw [hy] at hw
       cases hw
       rcases List.mem_cons.1 hz with rfl | hz
       ·exact ha
       ·exact ahead_trans ha (h3 z hz)
     ·rintro ⟨h1, h2, _⟩
      exact ⟨fun z hz => h1 z (List.mem_cons_of_mem _ hz), (List.pairwise_cons.1 h2).2, (List.pairwise_cons.1 h2).1⟩
theorem ledger_iff (l : List Usage) : (ledger_Check l = 0 ↔ l.length <= 200 ∧ (∀ x ∈ l, okU x = true) ∧ l.Pairwise aheadP) ∧ (ledger_Check l = 0 ∨ ledger_Check l = 2) := by
 unfold ledger_Check
 cases h : decide ((l.length : Int) > 200) with
 | true =>
  have h' := of_decide_eq_true h
  exact ⟨⟨fun q => (nomatch q), fun q => absurd q.1 (by omega)⟩, .inr rfl⟩
 | false =>
  have h' := of_decide_eq_false h
  obtain ⟨a, b⟩ := ledger_rows l (by omega) l 0 rfl (by omega)
  refine ⟨?_, b⟩
  show ledger_Check_g1 l l 0 = 0 ↔ _
  rw [a]
  exact ⟨fun q => ⟨by omega, q.1, q.2.1⟩, fun q => ⟨q.2.1, q.2.2, fun y hy => absurd hy (by omega)⟩⟩
theorem use_in (n : Int) : 0 <= ref01_Usage n ∧ ref01_Usage n <= 1000000000000 := by
 unfold ref01_Usage ref01_held
 cases h1 : decide (n < 0) with
 | true => simp
 | false =>
  cases h2 : decide (n > 1000000000000) with
  | true => simp
  | false => simp at h1 h2 ⊢; omega
theorem use_id {n : Int} (h : 0 <= n ∧ n <= 1000000000000) : ref01_Usage n = n := by
 unfold ref01_Usage ref01_held
 rw [decide_eq_false (by omega), decide_eq_false (by omega)]
 rfl
theorem plus_sat (a n : Int) : sat_Plus ([a, n] : List Int) = min (ref01_Usage a + ref01_Usage n) 1000000000000 := by
 have ha := use_in a
 have hn := use_in n
 show (bif decide (ref01_Usage a > 1000000000000) then ((1000000000000 : Int), false) else bif decide (ref01_Usage n > w64 (1000000000000 - ref01_Usage a)) then ((1000000000000 : Int), false) else (w64 (1000000000000 - w64 (w64 (1000000000000 - ref01_Usage a) - ref01_Usage n)), true)).1 = _
 have h1 : decide (ref01_Usage a > 1000000000000) = false := decide_eq_false (by omega)
 rw [h1]
 simp only [cond_false]
 rw [w6 (n := 1000000000000 - ref01_Usage a) (by omega)]
 cases h : decide (ref01_Usage n > 1000000000000 - ref01_Usage a) with
 | true =>
  have := of_decide_eq_true h
  show (1000000000000 : Int) = _
  omega
 | false =>
  have := of_decide_eq_false h
  show w64 (1000000000000 - w64 (1000000000000 - ref01_Usage a - ref01_Usage n)) = _
  rw [w6 (n := 1000000000000 - ref01_Usage a - ref01_Usage n) (by omega), w6 (by omega)]
  omega
theorem half_le {n : Int} (h : 0 <= n ∧ n <= 1000000000000) : 0 <= sat_Half n ∧ sat_Half n <= n := by
 unfold sat_Half
 show 0 <= w64 (Int.tdiv (ref01_Usage n) 2) ∧ w64 (Int.tdiv (ref01_Usage n) 2) <= n
 rw [use_id h, Int.tdiv_eq_ediv_of_nonneg h.1, w6 (by omega)]
 omega
end Go.Proofs.YtigcpfbpmnppcaaGreatDoor
