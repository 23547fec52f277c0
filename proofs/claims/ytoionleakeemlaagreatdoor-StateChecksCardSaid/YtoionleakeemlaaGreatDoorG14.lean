/-
  Contracts of functions, printed by a program of this repo (wip/dec). No condition beyond those that stand in each.
  Words as sets of bits: what and, or, and-not, a power, a sum of powers say of each bit. Program-independent; no condition but that a number is a word's.
  The same for a row that lists package variables: from a law's contract to the row's statement: the arguments are read, the law is called, they read as they did. Program-independent.
  How arguments are read: structs of the program, with what is known of them. No condition.
  What is read is of a size that a machine holds. No condition.
  The law's witness: some answers that the document fixes: true. No condition.
-/
import Derived.Test.YtoionleakeemlaaGreatDoorG13
import Derived.Test.YtoionleakeemlaaGreatDoorProg
import Derived.Test.YtoionleakeemlaaGreatDoorG7
import Derived.Test.YtoionleakeemlaaGreatDoorG5
import Derived.LaidMore
import Derived.Stop.Joined
import Derived.JoinedOf
import Derived.Handed
import Derived.OpenShut
import Derived.KernelRfl
namespace Go.Proofs.YtoionleakeemlaaGreatDoor
set_option linter.unusedSimpArgs false
set_option linter.unusedVariables false
open Go.Fw
set_option maxRecDepth 20000
set_option maxHeartbeats 4000000
attribute [local irreducible] ACalls AMoves
def job_Check (j : Job) : Int := bif ((((((decide (j.id < 1)) || (decide (j.id > 99999))) || (!(job_tick j.born))) || (j.used != (sat_Usage j.used))) || ((cmd_Check (job_view_submission j)) != 0)) || (slices_ContainsFunc_Dep j.after (fun (y : Dep) => (decide (y.job ≥ j.id))))) then 140 else bif (j.state == 1) then bif (!(job_view_queued j)) then 140 else 0 else bif (j.state == 2) then bif (!(job_view_running j)) then 140 else 0 else bif (!(job_ended j.state)) then 140 else bif (!(job_view_over j)) then 140 else 0
theorem job_Check_c (j : Job) (hs0 : j.sz) : ∀ objs, AGives Tryz.prog 115 [Job.a j] objs (I (job_Check j)) := by
  generalize hR : job_Check j = R; refine AGives.any' (.cons (Job.low _ _) .nil) lx (ACalls.of_cwp (kp 6 [42, 45, 51, 57, 64]) Tryz.func115 rfl rfl ?_); have hk0 := hs0; obtain ⟨z19, z20, z21, z22, z23⟩ : j.name.size ≤ 4294967296 ∧ j.user.size ≤ 4294967296 ∧ j.account.size ≤ 4294967296 ∧ (j.shape.alts.length ≤ 4294967296) ∧ j.after.length ≤ 4294967296 := hs0; (conv => whnf); refine dchk (by kernel_rfl) ?_; (conv => whnf); (first | apply u2 | apply u3 | apply u4 | apply ACalls.use); exact job_tick_c j.born _; (conv => whnf); (first | apply u2 | apply u3 | apply u4 | apply ACalls.use); exact sat_Usage_c j.used _; (conv => whnf); (first | apply u2 | apply u3 | apply u4 | apply ACalls.use); exact job_view_submission_c j _; (conv => whnf); (first | apply u2 | apply u3 | apply u4 | apply ACalls.use); exact cmd_Check_c (job_view_submission j) szA _; (conv => whnf); have cl1 : ∀ (y1 : Dep), AMoves Tryz.prog 139 [Dep.a y1, AVal.ptr 0 0 20 0 0] [(0, AObj.row 54 20 [[I j.id, Sg j.name, Sg j.user, Sg j.account, I j.shape.kind, altL j.shape.alts, I j.shape.min, I j.shape.max, I j.shape.wall, I j.prio, depL j.after, I j.state, Bo j.held, I j.born, I j.promise, I j.choice, I j.start, I j.limit, U j.nodes, I j.used]])] 1 (Bo ((fun (y : Dep) => (decide (y.job ≥ j.id))) y1)) [(0, AObj.row 54 20 [[I j.id, Sg j.name, Sg j.user, Sg j.account, I j.shape.kind, altL j.shape.alts, I j.shape.min, I j.shape.max, I j.shape.wall, I j.prio, depL j.after, I j.state, Bo j.held, I j.born, I j.promise, I j.choice, I j.start, I j.limit, U j.nodes, I j.used]])] := by
    intro y1; have hR : (fun (y : Dep) => (decide (y.job ≥ j.id))) y1 = (fun (y : Dep) => (decide (y.job ≥ j.id))) y1 := rfl; refine AMoves.of_cwp (kp 4 []) Tryz.func139 rfl rfl rfl ?_; (conv => whnf); refine ret_moves (fun r : Bool => Bo r) (fun _ => [(0, AObj.row 54 20 [[I j.id, Sg j.name, Sg j.user, Sg j.account, I j.shape.kind, altL j.shape.alts, I j.shape.min, I j.shape.max, I j.shape.wall, I j.prio, depL j.after, I j.state, Bo j.held, I j.born, I j.promise, I j.choice, I j.start, I j.limit, U j.nodes, I j.used]])]) (leaf := (decide (y1.job ≥ j.id))) (foll hR rfl) ?_; exact tt [0] (tO rfl (ts Job.lo) .nil) t1
  have hof1 : AMoves Tryz.prog 143 [depL j.after, AVal.fn (.func 139) [] [AVal.ptr 0 0 20 0 0]] [(0, AObj.row 54 20 [[I j.id, Sg j.name, Sg j.user, Sg j.account, I j.shape.kind, altL j.shape.alts, I j.shape.min, I j.shape.max, I j.shape.wall, I j.prio, depL j.after, I j.state, Bo j.held, I j.born, I j.promise, I j.choice, I j.start, I j.limit, U j.nodes, I j.used]])] 1 (Bo (slices_ContainsFunc_Dep j.after (fun (y : Dep) => (decide (y.job ≥ j.id))))) [(0, AObj.row 54 20 [[I j.id, Sg j.name, Sg j.user, Sg j.account, I j.shape.kind, altL j.shape.alts, I j.shape.min, I j.shape.max, I j.shape.wall, I j.prio, depL j.after, I j.state, Bo j.held, I j.born, I j.promise, I j.choice, I j.start, I j.limit, U j.nodes, I j.used]])] := by
    have hR : slices_ContainsFunc_Dep j.after (fun (y : Dep) => (decide (y.job ≥ j.id))) = slices_ContainsFunc_Dep j.after (fun (y : Dep) => (decide (y.job ≥ j.id))) := rfl; refine AMoves.of_cwp (kp 5 []) Tryz.func143 rfl rfl rfl ?_; (conv => whnf); have hof2 : AMoves Tryz.prog 160 [depL j.after, AVal.fn (.func 139) [] [AVal.ptr 0 0 20 0 0]] [(0, AObj.row 54 20 [[I j.id, Sg j.name, Sg j.user, Sg j.account, I j.shape.kind, altL j.shape.alts, I j.shape.min, I j.shape.max, I j.shape.wall, I j.prio, depL j.after, I j.state, Bo j.held, I j.born, I j.promise, I j.choice, I j.start, I j.limit, U j.nodes, I j.used]])] 1 (I (slices_IndexFunc_Dep j.after (fun (y : Dep) => (decide (y.job ≥ j.id))))) [(0, AObj.row 54 20 [[I j.id, Sg j.name, Sg j.user, Sg j.account, I j.shape.kind, altL j.shape.alts, I j.shape.min, I j.shape.max, I j.shape.wall, I j.prio, depL j.after, I j.state, Bo j.held, I j.born, I j.promise, I j.choice, I j.start, I j.limit, U j.nodes, I j.used]])] := by
      have hR : slices_IndexFunc_Dep j.after (fun (y : Dep) => (decide (y.job ≥ j.id))) = slices_IndexFunc_Dep j.after (fun (y : Dep) => (decide (y.job ≥ j.id))) := rfl; refine AMoves.of_cwp (kp 6 [7, 8, 9, 16]) Tryz.func160 rfl rfl rfl ?_; (conv => whnf); refine loop_start1 (fun (i : Nat) => slices_IndexFunc_Dep_g1 (fun (y : Dep) => (decide (y.job ≥ j.id))) (List.drop i j.after) i = slices_IndexFunc_Dep j.after (fun (y : Dep) => (decide (y.job ≥ j.id))) ∧ i ≤ j.after.length) (fun i => j.after.length - i) (fun i => [(0, depL j.after), (1, AVal.fn (.func 139) [] [AVal.ptr 0 0 20 0 0]), (4, I 0), (7, I (j.after.length : Int)), (8, I (i : Int))]) (fun i => [(0, AObj.row 54 20 [[I j.id, Sg j.name, Sg j.user, Sg j.account, I j.shape.kind, altL j.shape.alts, I j.shape.min, I j.shape.max, I j.shape.wall, I j.prio, depL j.after, I j.state, Bo j.held, I j.born, I j.promise, I j.choice, I j.start, I j.limit, U j.nodes, I j.used]])]) 0 (wk [0] (tO rfl (ts Job.lo) .nil) (sl lw (sv (turn_fn .nil (cv (turn_ptr 0 rfl rfl) .nil)) (s1 (s1 (s1 .nil)))))) ⟨foll hR rfl, by exact omA⟩ ?_; clear hR; rintro i ⟨hR, hj⟩; (try dsimp only at hR hj); (conv => whnf); refine And.intro (fun h1 => ?_) (fun h2 => ?_)
      · (have hlt : i < j.after.length := by have := of_decide_eq_true h1; omega); rw [drop_getD Dep.zero hlt] at hR; (conv => whnf); refine And.intro gkA ?_; (conv => whnf); refine ACalls.use (mv [0] (cl1 (j.after.getD i Dep.zero)) (dO (ds Job.lo) .nil) (dl (Dep.low _ _) (dp .nil)) (rO (re Job.lo) .nil) rx) ?_; (conv => whnf); refine And.intro (fun h3 => ?_) (fun h4 => ?_)
        · (conv => whnf); refine ret_moves (fun r : Int => I r) (fun r : Int => [(0, AObj.row 54 20 [[I j.id, Sg j.name, Sg j.user, Sg j.account, I j.shape.kind, altL j.shape.alts, I j.shape.min, I j.shape.max, I j.shape.wall, I j.prio, depL j.after, I j.state, Bo j.held, I j.born, I j.promise, I j.choice, I j.start, I j.limit, U j.nodes, I j.used]])]) (leaf := (i : Int)) (foll hR (ct h3 rfl)) ?_; exact tt [0] (tO rfl (ts Job.lo) .nil) t1
        · (conv => whnf); exact loop_next1 (i + 1) (wk [0] (tO rfl (ts Job.lo) .nil) (sl lw (sv (turn_fn .nil (cv (turn_ptr 0 rfl rfl) .nil)) (s1 (s1 (sv (turn_eq (I_eq (wr omA)) lx) .nil)))))) omA ⟨foll hR (cf h4 rfl), by exact omA⟩
      · rw [drop_none (l := j.after) (j := i) (by have := of_decide_eq_false h2; omega)] at hR; (conv => whnf); refine ret_moves (fun r : Int => I r) (fun r : Int => [(0, AObj.row 54 20 [[I j.id, Sg j.name, Sg j.user, Sg j.account, I j.shape.kind, altL j.shape.alts, I j.shape.min, I j.shape.max, I j.shape.wall, I j.prio, depL j.after, I j.state, Bo j.held, I j.born, I j.promise, I j.choice, I j.start, I j.limit, U j.nodes, I j.used]])]) (leaf := (-1)) (foll hR rfl) ?_; exact tt [0] (tO rfl (ts Job.lo) .nil) t1
    refine ACalls.use (mv [0] (hof2) (dO (ds Job.lo) .nil) (dl lw (dv (dn_fn .nil (dp .nil)) .nil)) (rO (re Job.lo) .nil) rx) ?_; (conv => whnf); refine ret_moves (fun r : Bool => Bo r) (fun r : Bool => [(0, AObj.row 54 20 [[I j.id, Sg j.name, Sg j.user, Sg j.account, I j.shape.kind, altL j.shape.alts, I j.shape.min, I j.shape.max, I j.shape.wall, I j.prio, depL j.after, I j.state, Bo j.held, I j.born, I j.promise, I j.choice, I j.start, I j.limit, U j.nodes, I j.used]])]) (leaf := (decide ((slices_IndexFunc_Dep j.after (fun (y : Dep) => (decide (y.job ≥ j.id)))) ≥ 0))) (foll hR rfl) ?_; exact tt [0] (tO rfl (ts Job.lo) .nil) t1
  (first | apply u2 | apply u3 | apply u4 | apply ACalls.use); exact mv [0] (hof1) (dO (ds Job.lo) .nil) (dl lw (dv (dn_fn .nil (dp .nil)) .nil)) (rO (re Job.lo) .nil) rx; (conv => whnf); (repeat ((first | refine And.intro rfl ?_ | refine And.intro (fun _ => rfl) ?_ | refine And.intro (fun _ => job_tick_c j.born _) ?_ | refine And.intro (fun _ => sat_Usage_c j.used _) ?_ | refine And.intro (fun _ => job_view_submission_c j _) ?_ | refine And.intro (fun _ => cmd_Check_c (job_view_submission j) szA _) ?_); conv => whnf)); refine And.intro (fun h5 => ?_) (fun h6 => ?_)
  · (conv => whnf); obtain rfl := foll hR (ct h5 rfl); exact ret_seen lx sr
  · (conv => whnf); refine And.intro (fun h7 => ?_) (fun h8 => ?_)
    · (conv => whnf); refine ACalls.use (job_view_queued_c j szA _) ?_; (conv => whnf); refine And.intro (fun h9 => ?_) (fun h10 => ?_)
      · (conv => whnf); obtain rfl := foll hR (cf h6 (ct h7 (ct h9 rfl))); exact ret_seen lx sr
      · (conv => whnf); obtain rfl := foll hR (cf h6 (ct h7 (cf h10 rfl))); exact ret_seen lx sr
    · (conv => whnf); refine And.intro (fun h11 => ?_) (fun h12 => ?_)
      · (conv => whnf); refine ACalls.use (job_view_running_c j szA _) ?_; (conv => whnf); refine And.intro (fun h13 => ?_) (fun h14 => ?_)
        · (conv => whnf); obtain rfl := foll hR (cf h6 (cf h8 (ct h11 (ct h13 rfl)))); exact ret_seen lx sr
        · (conv => whnf); obtain rfl := foll hR (cf h6 (cf h8 (ct h11 (cf h14 rfl)))); exact ret_seen lx sr
      · (conv => whnf); refine ACalls.use (job_ended_c j.state _) ?_; (conv => whnf); refine And.intro (fun h15 => ?_) (fun h16 => ?_)
        · (conv => whnf); obtain rfl := foll hR (cf h6 (cf h8 (cf h12 (ct h15 rfl)))); exact ret_seen lx sr
        · (conv => whnf); refine ACalls.use (job_view_over_c j _) ?_; (conv => whnf); refine And.intro (fun h17 => ?_) (fun h18 => ?_)
          · (conv => whnf); obtain rfl := foll hR (cf h6 (cf h8 (cf h12 (cf h16 (ct h17 rfl))))); exact ret_seen lx sr
          · (conv => whnf); obtain rfl := foll hR (cf h6 (cf h8 (cf h12 (cf h16 (cf h18 rfl))))); exact ret_seen lx sr
def ref15_Check_g1  : List Job → Int → Nat → Int
  | [], _, _ => 0
  | x_ :: r, last, i => bif ((((i : Int) == 40) || ((ref14_Check x_) != 0)) || (decide (x_.id ≤ last))) then 140 else ref15_Check_g1 r x_.id (i + 1)
def ref15_Check (l : List Job) : Int := ref15_Check_g1 l 0 0
theorem ref15_Check_c (l : List Job) (hs0 : l.length ≤ 4294967296 ∧ (∀ y ∈ l, y.sz)) : ∀ objs, AGives Tryz.prog 108 [jobL l] objs (I (ref15_Check l)) := by
  generalize hR : ref15_Check l = R; refine AGives.any' (.cons lw .nil) lx (ACalls.of_cwp (kp 5 [8, 29]) Tryz.func108 rfl rfl ?_); have hk0 := hs0; obtain ⟨z10, z11⟩ : l.length ≤ 4294967296 ∧ (∀ y ∈ l, y.sz) := hs0; (conv => whnf); refine loop_start2 (fun (last : Int) (i : Nat) => ref15_Check_g1 (List.drop i l) last i = R ∧ i ≤ l.length) (fun last i => l.length - i) (fun last i => [(0, jobL l), (2, I 0), (3, I last), (4, I (i : Int))]) (fun last i => []) 0 0 (wk [] .nil (sl lw (s1 (s1 (s1 .nil))))) ⟨foll hR rfl, by exact omA⟩ ?_; clear hR; rintro last i ⟨hR, hj⟩; (try dsimp only at hR hj); (conv => whnf); refine And.intro (fun h1 => ?_) (fun h2 => ?_)
  · (have hlt : i < l.length := by have := of_decide_eq_true h1; omega); rw [drop_getD Job.zero hlt] at hR; have hxz : (l.getD i Job.zero).sz := getD_sz (by first | assumption | grind) (Job.szz _); have hkz := hxz; obtain ⟨z3, z4, z5, z6, z7⟩ : ((l.getD i Job.zero).name).size ≤ 4294967296 ∧ ((l.getD i Job.zero).user).size ≤ 4294967296 ∧ ((l.getD i Job.zero).account).size ≤ 4294967296 ∧ ((((l.getD i Job.zero).shape).alts).length ≤ 4294967296) ∧ ((l.getD i Job.zero).after).length ≤ 4294967296 := hxz; (conv => whnf); refine And.intro gkA ?_; (conv => whnf); (first | apply u2 | apply u3 | apply u4 | apply ACalls.use); exact ref14_Check_c (l.getD i Job.zero) szA _; (conv => whnf); refine And.intro gkA ?_; (conv => whnf); refine And.intro (fun h8 => ?_) (fun h9 => ?_)
    · (conv => whnf); obtain rfl := foll hR (ct h8 rfl); exact ret_seen lx sr
    · (conv => whnf); refine And.intro gkA ?_; (conv => whnf); exact loop_next2 ((l.getD i Job.zero).id) (i + 1) (wk [] .nil (sl lw (s1 (s1 (sv (turn_eq (I_eq (wr omA)) lx) .nil))))) omA ⟨foll hR (cf h9 rfl), by exact omA⟩
  · rw [drop_none (l := l) (j := i) (by have := of_decide_eq_false h2; omega)] at hR; (conv => whnf); obtain rfl := foll hR rfl; exact ret_seen lx sr
end Go.Proofs.YtoionleakeemlaaGreatDoor
namespace Go.Proofs.YtoionleakeemlaaGreatDoor
set_option linter.unusedSimpArgs false
set_option linter.unusedVariables false
open Go.Fw
set_option maxRecDepth 20000
set_option maxHeartbeats 4000000
attribute [local irreducible] ACalls AMoves
def table_Check_g1 (l : List Job) : List Job → Nat → Int
  | [], _ => 0
  | x_ :: r, i => bif (((job_Check x_) != 0) || ((decide ((i : Int) > 0)) && (decide ((l.getD (Int.toNat (w64 ((i : Int) - 1))) Job.zero).id ≥ x_.id)))) then 140 else table_Check_g1 l r (i + 1)
def table_Check (l : List Job) : Int := bif (decide ((l.length : Int) > 40)) then 140 else table_Check_g1 l l 0
theorem table_Check_c (l : List Job) (hs0 : l.length ≤ 4294967296 ∧ (∀ y ∈ l, y.sz)) : ∀ objs, AGives Tryz.prog 83 [jobL l] objs (I (table_Check l)) := by
  generalize hR : table_Check l = R; refine AGives.any' (.cons lw .nil) lx (ACalls.of_cwp (kp 5 [7, 8, 9, 10, 11, 32]) Tryz.func83 rfl rfl ?_); have hk0 := hs0; obtain ⟨z12, z13⟩ : l.length ≤ 4294967296 ∧ (∀ y ∈ l, y.sz) := hs0; (conv => whnf); refine And.intro (fun h1 => ?_) (fun h2 => ?_)
  · (conv => whnf); have qh1 := of_decide_eq_true h1; obtain rfl := foll hR (ct h1 rfl); exact ret_seen lx sr
  · (conv => whnf); have qh2 := of_decide_eq_false h2; refine loop_start1 (fun (i : Nat) => table_Check_g1 l (List.drop i l) i = R ∧ i ≤ l.length) (fun i => l.length - i) (fun i => [(0, jobL l), (2, I 0), (8, jobL l), (9, I (l.length : Int)), (10, I (i : Int))]) (fun i => []) 0 (wk [] .nil (sl lw (s1 (sl lw (s1 (s1 .nil)))))) ⟨foll hR (cf h2 rfl), by exact omA⟩ ?_; clear hR; rintro i ⟨hR, hj⟩; (try dsimp only at hR hj); (conv => whnf); refine And.intro (fun h3 => ?_) (fun h4 => ?_)
    · (have hlt : i < l.length := by have := of_decide_eq_true h3; omega); rw [drop_getD Job.zero hlt] at hR; have hxz : (l.getD i Job.zero).sz := getD_sz (by first | assumption | grind) (Job.szz _); have hkz := hxz; obtain ⟨z5, z6, z7, z8, z9⟩ : ((l.getD i Job.zero).name).size ≤ 4294967296 ∧ ((l.getD i Job.zero).user).size ≤ 4294967296 ∧ ((l.getD i Job.zero).account).size ≤ 4294967296 ∧ ((((l.getD i Job.zero).shape).alts).length ≤ 4294967296) ∧ ((l.getD i Job.zero).after).length ≤ 4294967296 := hxz; (conv => whnf); refine And.intro gkA ?_; (conv => whnf); refine dchk (by kernel_rfl) ?_; (conv => whnf); (first | apply u2 | apply u3 | apply u4 | apply ACalls.use); exact job_Check_c (l.getD i Job.zero) szA _; (conv => whnf); refine And.intro gkA ?_; (conv => whnf); (repeat ((first | refine And.intro rfl ?_ | refine And.intro (fun _ => rfl) ?_ | refine And.intro (fun _ => job_Check_c (l.getD i Job.zero) szA _) ?_); conv => whnf)); refine And.intro (fun h10 => ?_) (fun h11 => ?_)
      · (conv => whnf); obtain rfl := foll hR (ct h10 rfl); exact ret_seen lx sr
      · (conv => whnf); exact loop_next1 (i + 1) (wk [] .nil (sl lw (s1 (sl lw (s1 (sv (turn_eq (I_eq (wr omA)) lx) .nil)))))) omA ⟨foll hR (cf h11 rfl), by exact omA⟩
    · rw [drop_none (l := l) (j := i) (by have := of_decide_eq_false h4; omega)] at hR; (conv => whnf); obtain rfl := foll hR rfl; exact ret_seen lx sr
def ref20_Check (s : State) : Int := bif ((((!(ref14_Tick s.now)) || ((ref12_Check s.nodes) != 0)) || ((ref15_Check s.jobs) != 0)) || ((ref19_Check s.books) != 0)) then 141 else 0
theorem ref20_Check_c (s : State) (hs0 : s.sz) : ∀ objs, AGives Tryz.prog 75 [State.a s] objs (I (ref20_Check s)) := by
  generalize hR : ref20_Check s = R; refine AGives.any' (.cons (State.low _ _) .nil) lx (ACalls.of_cwp (kp 3 [24]) Tryz.func75 rfl rfl ?_); have hk0 := hs0; obtain ⟨z3, z4, z5, z6, z7, z8, z9⟩ : s.nodes.length ≤ 4294967296 ∧ s.jobs.length ≤ 4294967296 ∧ (∀ y ∈ s.jobs, y.sz) ∧ s.resizes.length ≤ 4294967296 ∧ s.books.length ≤ 4294967296 ∧ s.ledger.length ≤ 4294967296 ∧ (∀ y ∈ s.ledger, y.sz) := hs0; (conv => whnf); refine ACalls.use (ref14_Tick_c s.now _) ?_; (conv => whnf); (first | apply u2 | apply u3 | apply u4 | apply ACalls.use); exact ref12_Check_c s.nodes szA _; (conv => whnf); (first | apply u2 | apply u3 | apply u4 | apply ACalls.use); exact ref15_Check_c s.jobs szA _; (conv => whnf); (first | apply u2 | apply u3 | apply u4 | apply ACalls.use); exact ref19_Check_c s.books szA _; (conv => whnf); refine And.intro (fun h1 => ?_) (fun h2 => ?_)
  · (conv => whnf); obtain rfl := foll hR (ct h1 rfl); exact ret_seen lx sr
  · (conv => whnf); obtain rfl := foll hR (cf h2 rfl); exact ret_seen lx sr
end Go.Proofs.YtoionleakeemlaaGreatDoor
namespace Go.Proofs.YtoionleakeemlaaGreatDoor
set_option linter.unusedSimpArgs false
set_option linter.unusedVariables false
open Go.Fw
set_option maxRecDepth 20000
set_option maxHeartbeats 4000000
attribute [local irreducible] ACalls AMoves
def room_Check (s : State) : Int := bif (((((decide (s.now < 0)) || (decide (s.now > 1000000))) || ((fleet_Check s.nodes) != 0)) || ((table_Check s.jobs) != 0)) || ((book_Check s.books) != 0)) then 141 else 0
theorem room_Check_c (s : State) (hs0 : s.sz) : ∀ objs, AGives Tryz.prog 70 [State.a s] objs (I (room_Check s)) := by
  generalize hR : room_Check s = R; refine AGives.any' (.cons (State.low _ _) .nil) lx (ACalls.of_cwp (kp 3 [28]) Tryz.func70 rfl rfl ?_); have hk0 := hs0; obtain ⟨z3, z4, z5, z6, z7, z8, z9⟩ : s.nodes.length ≤ 4294967296 ∧ s.jobs.length ≤ 4294967296 ∧ (∀ y ∈ s.jobs, y.sz) ∧ s.resizes.length ≤ 4294967296 ∧ s.books.length ≤ 4294967296 ∧ s.ledger.length ≤ 4294967296 ∧ (∀ y ∈ s.ledger, y.sz) := hs0; (conv => whnf); (first | apply u2 | apply u3 | apply u4 | apply ACalls.use); exact fleet_Check_c s.nodes szA _; (conv => whnf); (first | apply u2 | apply u3 | apply u4 | apply ACalls.use); exact table_Check_c s.jobs szA _; (conv => whnf); (first | apply u2 | apply u3 | apply u4 | apply ACalls.use); exact book_Check_c s.books szA _; (conv => whnf); refine And.intro (fun h1 => ?_) (fun h2 => ?_)
  · (conv => whnf); obtain rfl := foll hR (ct h1 rfl); exact ret_seen lx sr
  · (conv => whnf); obtain rfl := foll hR (cf h2 rfl); exact ret_seen lx sr
def table_Find (l : List Job) (id_ : Int) : Job × Bool := bif (((table_Check l) != 0) || (!(table_known id_))) then (Job.zero, false) else bif (!(table_place l id_).2) then (Job.zero, false) else (((List.drop (Int.toNat ((table_place l id_).1)) (List.take (Int.toNat (w64 ((table_place l id_).1 + 1))) l)).getD 0 Job.zero), true)
theorem table_Find_c (l : List Job) (id_ : Int) (hs0 : l.length ≤ 4294967296 ∧ (∀ y ∈ l, y.sz)) : ∀ objs, AGives Tryz.prog 50 [jobL l, I id_] objs (AVal.tup [Job.a ((table_Find l id_).1), Bo ((table_Find l id_).2)]) := by
  generalize hR : table_Find l id_ = R; refine AGives.any' (.cons lw (l1 .nil)) (Low.tup' (.cons (Job.low _ _) (l1 .nil))) (ACalls.of_cwp (kp 8 [15, 24]) Tryz.func50 rfl rfl ?_); have hk0 := hs0; obtain ⟨z5, z6⟩ : l.length ≤ 4294967296 ∧ (∀ y ∈ l, y.sz) := hs0; (conv => whnf); refine ACalls.use (table_Check_c l szA _) ?_; (conv => whnf); (first | apply u2 | apply u3 | apply u4 | apply ACalls.use); exact table_known_c id_ _; (conv => whnf); refine And.intro (fun h1 => ?_) (fun h2 => ?_)
  · (conv => whnf); obtain rfl := foll hR (ct h1 rfl); exact ret_seen (Low.tup' (.cons (Job.low _ _) (l1 .nil))) (Seen.tup (ev (Seen.agg (e1 (e1 (e1 (e1 (e1 (ev (seen_nil) (e1 (e1 (e1 (e1 (ev (seen_nil) (e1 (e1 (e1 (e1 (e1 (e1 (e1 (e1 (e1 .nil))))))))))))))))))))) (e1 .nil)))
  · (conv => whnf); refine ACalls.use (table_place_c l id_ szA _) ?_; (conv => whnf); refine And.intro (fun h3 => ?_) (fun h4 => ?_)
    · (conv => whnf); obtain rfl := foll hR (cf h2 (ct h3 rfl)); exact ret_seen (Low.tup' (.cons (Job.low _ _) (l1 .nil))) (Seen.tup (ev (Seen.agg (e1 (e1 (e1 (e1 (e1 (ev (seen_nil) (e1 (e1 (e1 (e1 (ev (seen_nil) (e1 (e1 (e1 (e1 (e1 (e1 (e1 (e1 (e1 .nil))))))))))))))))))))) (e1 .nil)))
    · (conv => whnf); refine And.intro (by first | exact fun hg => decide_eq_true (by first | (have hp := table_place_lt l id_ hk0.1 (by assumption); have pw : IntKind.i64.wrap ((table_place l id_).1 + 1) = (table_place l id_).1 + 1 := wr (by omega); simp only [Option.getD_some, pw, List.length_drop, List.length_take]; omega) | exact ckA) | exact gkA) ?_; (conv => whnf); refine ACalls.use (mv [] (table_whole_o (List.drop (Int.toNat ((table_place l id_).1)) (List.take (Int.toNat (w64 ((table_place l id_).1 + 1))) l)) szA) .nil (dv (dn_as (as_cut l (Int.toNat ((table_place l id_).1)) (Int.toNat (w64 ((table_place l id_).1 + 1))) leA (by first | (have hp := table_place_lt l id_ hk0.1 (by assumption); have pw : IntKind.i64.wrap ((table_place l id_).1 + 1) = (table_place l id_).1 + 1 := wr (by omega); simp only [Option.getD_some, pw, List.length_drop, List.length_take]; omega) | exact ckA)) lw) .nil) (rO rr .nil) (rw_ 1 0 rfl)) ?_; (conv => whnf); refine And.intro (by first | exact fun hg => decide_eq_true (by first | (have hp := table_place_lt l id_ hk0.1 (by assumption); have pw : IntKind.i64.wrap ((table_place l id_).1 + 1) = (table_place l id_).1 + 1 := wr (by omega); simp only [Option.getD_some, pw, List.length_drop, List.length_take]; omega) | exact ckA) | exact gkA) ?_; (conv => whnf); refine ⟨_, evalOp_load rfl rfl rfl (elemI_at Job.zero 0 (by first | rfl | omega) (by first | (have hp := table_place_lt l id_ hk0.1 (by assumption); have pw : IntKind.i64.wrap ((table_place l id_).1 + 1) = (table_place l id_).1 + 1 := wr (by omega); simp only [Option.getD_some, pw, List.length_drop, List.length_take]; omega) | exact ckA)) rfl, ?_⟩; (conv => whnf); obtain rfl := foll hR (cf h2 (cf h4 rfl)); exact ret_seen (Low.tup' (.cons (Job.low _ _) (l1 .nil))) (Seen.tup (e1 (e1 .nil)))
def ref21_Check (s : State) : Int := bif (((ref20_Check s) != 0) || ((ref17_Check s.ledger) != 0)) then 141 else 0
theorem ref21_Check_c (s : State) (hs0 : s.sz) : ∀ objs, AGives Tryz.prog 40 [State.a s] objs (I (ref21_Check s)) := by
  generalize hR : ref21_Check s = R; refine AGives.any' (.cons (State.low _ _) .nil) lx (ACalls.of_cwp (kp 3 [11]) Tryz.func40 rfl rfl ?_); have hk0 := hs0; obtain ⟨z3, z4, z5, z6, z7, z8, z9⟩ : s.nodes.length ≤ 4294967296 ∧ s.jobs.length ≤ 4294967296 ∧ (∀ y ∈ s.jobs, y.sz) ∧ s.resizes.length ≤ 4294967296 ∧ s.books.length ≤ 4294967296 ∧ s.ledger.length ≤ 4294967296 ∧ (∀ y ∈ s.ledger, y.sz) := hs0; (conv => whnf); refine ACalls.use (ref20_Check_c s szA _) ?_; (conv => whnf); (first | apply u2 | apply u3 | apply u4 | apply ACalls.use); exact ref17_Check_c s.ledger szA _; (conv => whnf); refine And.intro (fun h1 => ?_) (fun h2 => ?_)
  · (conv => whnf); obtain rfl := foll hR (ct h1 rfl); exact ret_seen lx sr
  · (conv => whnf); obtain rfl := foll hR (cf h2 rfl); exact ret_seen lx sr
end Go.Proofs.YtoionleakeemlaaGreatDoor
namespace Go.Proofs.YtoionleakeemlaaGreatDoor
set_option linter.unusedSimpArgs false
set_option linter.unusedVariables false
open Go.Fw
set_option maxRecDepth 20000
set_option maxHeartbeats 4000000
attribute [local irreducible] ACalls AMoves
def plan_Check (s : State) : Int := bif (((room_Check s) != 0) || ((ledger_Check s.ledger) != 0)) then 141 else 0
theorem plan_Check_c (s : State) (hs0 : s.sz) : ∀ objs, AGives Tryz.prog 34 [State.a s] objs (I (plan_Check s)) := by
  generalize hR : plan_Check s = R; refine AGives.any' (.cons (State.low _ _) .nil) lx (ACalls.of_cwp (kp 3 [11]) Tryz.func34 rfl rfl ?_); have hk0 := hs0; obtain ⟨z3, z4, z5, z6, z7, z8, z9⟩ : s.nodes.length ≤ 4294967296 ∧ s.jobs.length ≤ 4294967296 ∧ (∀ y ∈ s.jobs, y.sz) ∧ s.resizes.length ≤ 4294967296 ∧ s.books.length ≤ 4294967296 ∧ s.ledger.length ≤ 4294967296 ∧ (∀ y ∈ s.ledger, y.sz) := hs0; (conv => whnf); refine ACalls.use (room_Check_c s szA _) ?_; (conv => whnf); (first | apply u2 | apply u3 | apply u4 | apply ACalls.use); exact ledger_Check_c s.ledger szA _; (conv => whnf); refine And.intro (fun h1 => ?_) (fun h2 => ?_)
  · (conv => whnf); obtain rfl := foll hR (ct h1 rfl); exact ret_seen lx sr
  · (conv => whnf); obtain rfl := foll hR (cf h2 rfl); exact ret_seen lx sr
theorem u3g {P : Program} {f : FuncId} {args : List AVal} {objs : Objs} {r : AVal} {g : Bool} {K : AVal → Objs → Prop} (h : g = true → ACalls P f args objs fun a b => a = r ∧ b = objs) (k : K r objs) : ∃ r' o', (g = true → ACalls P f args objs (fun a b => a = r' ∧ b = o')) ∧ (g = false → o' = objs) ∧ K r' o' := ⟨r, objs, h, fun _ => rfl, k⟩
theorem setM_sz (k : Int) (v : Job) : ∀ (l : List (Int × Job)), (∀ y ∈ l, y.2.sz) → v.sz → ∀ y ∈ setM k v l, y.2.sz
  | [], _, hv, y, hy => by
    rw [setM, List.mem_singleton] at hy
    subst hy
    exact hv
  | p :: r, h, hv, y, hy => by
    rw [setM] at hy
    cases hk : (k == p.1) with
    | true =>
      rw [hk] at hy
      rcases List.mem_cons.1 hy with rfl | hy
      · exact hv
      · exact h y (List.mem_cons_of_mem _ hy)
    | false =>
      rw [hk] at hy
      rcases List.mem_cons.1 hy with rfl | hy
      · exact h _ (List.mem_cons_self ..)
      · exact setM_sz k v r (fun z hz => h z (List.mem_cons_of_mem _ hz)) hv y hy
theorem getM_sz (k : Int) : ∀ (l : List (Int × Job)), (∀ y ∈ l, y.2.sz) → ((getM k l).getD Job.zero).sz
  | [], _ => Job.szz _
  | p :: r, h => by
    rw [getM]
    cases (k == p.1) with
    | true => exact h p (List.mem_cons_self ..)
    | false => exact getM_sz k r fun z hz => h z (List.mem_cons_of_mem _ hz)
def ref25_Check_g1  : List Job → Int → Nat → Int × Nat
  | [], last, i => (last, i)
  | x_ :: r, _, i => ref25_Check_g1 r x_.id (i + 1)
def ref25_Check_g2  : List Book → Int → Nat → Int × Nat
  | [], final, i1 => (final, i1)
  | x_1 :: r, _, i1 => ref25_Check_g2 r x_1.id (i1 + 1)
def ref25_Check_g3 (s : State) : Nat → Bool → Nat → Bool × Nat
  | 0, _, _ => (false, 0)
  | m + 1, ok, i2 => bif ((decide ((i2 : Int) < (s.resizes.length : Int))) && ok) then ref25_Check_g3 s m ((ref25_resize s (s.resizes.getD i2 Resize.zero)) && (((i2 : Int) == 0) || (decide ((s.resizes.getD (Int.toNat (w64 ((i2 : Int) - 1))) Resize.zero).job < (s.resizes.getD i2 Resize.zero).job)))) (i2 + 1) else (ok, i2)
def ref25_Check_g4 (s : State) : Nat → Bool → Nat → Bool × Nat
  | 0, _, _ => (false, 0)
  | m + 1, ok1, n => bif ((decide ((n : Int) < (s.nodes.length : Int))) && ok1) then ref25_Check_g4 s m (ref25_node s (n : Int)) (n + 1) else (ok1, n)
def ref25_Check_g5 (s : State) : Nat → Bool → Nat → Bool × Nat
  | 0, _, _ => (false, 0)
  | m + 1, ok2, i3 => bif ((decide ((i3 : Int) < (s.jobs.length : Int))) && ok2) then ref25_Check_g5 s m (((s.jobs.getD i3 Job.zero).state != 2) || ((ref12_Of s.nodes ((s.jobs.getD i3 Job.zero).id) 1) == (s.jobs.getD i3 Job.zero).nodes)) (i3 + 1) else (ok2, i3)
def ref25_Check_k5 (ok2 : Bool) (i3 : Nat) : Int := bif (!ok2) then 141 else 0
def ref25_Check_k4 (s : State) (ok1 : Bool) (n : Nat) : Int := ref25_Check_k5 ((ref25_Check_g5 s ((Int.toNat ((s.jobs.length : Int) - (0 : Int))) + 1) ok1 0).1) ((ref25_Check_g5 s ((Int.toNat ((s.jobs.length : Int) - (0 : Int))) + 1) ok1 0).2)
def ref25_Check_k3 (s : State) (ok : Bool) (i2 : Nat) : Int := ref25_Check_k4 s ((ref25_Check_g4 s ((Int.toNat ((s.nodes.length : Int) - (0 : Int))) + 1) ok 0).1) ((ref25_Check_g4 s ((Int.toNat ((s.nodes.length : Int) - (0 : Int))) + 1) ok 0).2)
def ref25_Check_k2 (s : State) (last : Int) (final : Int) (i1 : Nat) : Int := ref25_Check_k3 s ((ref25_Check_g3 s ((Int.toNat ((s.resizes.length : Int) - (0 : Int))) + 1) ((ref25_next s.nextJob last) && (ref25_next s.nextBook final)) 0).1) ((ref25_Check_g3 s ((Int.toNat ((s.resizes.length : Int) - (0 : Int))) + 1) ((ref25_next s.nextJob last) && (ref25_next s.nextBook final)) 0).2)
def ref25_Check_k1 (s : State) (last : Int) (i : Nat) : Int := ref25_Check_k2 s last ((ref25_Check_g2 s.books 0 0).1) ((ref25_Check_g2 s.books 0 0).2)
def ref25_Check (s : State) : Int := bif ((ref21_Check s) != 0) then 141 else ref25_Check_k1 s ((ref25_Check_g1 s.jobs 0 0).1) ((ref25_Check_g1 s.jobs 0 0).2)
theorem ref25_Check_c (s : State) (hs0 : s.sz) : ∀ objs, AGives Tryz.prog 14 [State.a s] objs (I (ref25_Check s)) := by
  generalize hR : ref25_Check s = R; refine AGives.any' (.cons (State.low _ _) .nil) lx (ACalls.of_cwp (kp 11 [13, 18, 31, 57, 94, 107, 136]) Tryz.func14 rfl rfl ?_); have hk0 := hs0; obtain ⟨z20, z21, z22, z23, z24, z25, z26⟩ : s.nodes.length ≤ 4294967296 ∧ s.jobs.length ≤ 4294967296 ∧ (∀ y ∈ s.jobs, y.sz) ∧ s.resizes.length ≤ 4294967296 ∧ s.books.length ≤ 4294967296 ∧ s.ledger.length ≤ 4294967296 ∧ (∀ y ∈ s.ledger, y.sz) := hs0; (conv => whnf); refine ACalls.use (ref21_Check_c s szA _) ?_; (conv => whnf); refine And.intro (fun h1 => ?_) (fun h2 => ?_)
  · (conv => whnf); obtain rfl := foll hR (ct h1 rfl); exact ret_seen lx sr
  · (conv => whnf); refine loop_start2 (fun (last : Int) (i : Nat) => ref25_Check_k1 s (ref25_Check_g1 (List.drop i s.jobs) last i).1 (ref25_Check_g1 (List.drop i s.jobs) last i).2 = R ∧ i ≤ s.jobs.length) (fun last i => s.jobs.length - i) (fun last i => [(1, AVal.ptr 0 0 8 0 0), (2, I 0), (3, I last), (4, I 0), (5, I (i : Int))]) (fun last i => [(0, AObj.row 28 8 [[I s.now, nodeL s.nodes, jobL s.jobs, resizeL s.resizes, bookL s.books, usageL s.ledger, I s.nextJob, I s.nextBook]])]) 0 0 (wk [0] (tO rfl (ts State.lo) .nil) (sv (turn_ptr 0 rfl rfl) (s1 (s1 (s1 (s1 .nil)))))) ⟨foll hR (cf h2 rfl), by exact omA⟩ ?_; clear hR; rintro last i ⟨hR, hj⟩; (try dsimp only at hR hj); (conv => whnf); refine And.intro (fun h3 => ?_) (fun h4 => ?_)
    · (have hlt : i < s.jobs.length := by have := of_decide_eq_true h3; omega); rw [drop_getD Job.zero hlt] at hR; have hxz : (s.jobs.getD i Job.zero).sz := getD_sz (by first | assumption | grind) (Job.szz _); have hkz := hxz; obtain ⟨z5, z6, z7, z8, z9⟩ : ((s.jobs.getD i Job.zero).name).size ≤ 4294967296 ∧ ((s.jobs.getD i Job.zero).user).size ≤ 4294967296 ∧ ((s.jobs.getD i Job.zero).account).size ≤ 4294967296 ∧ ((((s.jobs.getD i Job.zero).shape).alts).length ≤ 4294967296) ∧ ((s.jobs.getD i Job.zero).after).length ≤ 4294967296 := hxz; (conv => whnf); refine And.intro gkA ?_; (conv => whnf); exact loop_next2 ((s.jobs.getD i Job.zero).id) (i + 1) (wk [0] (tO rfl (ts State.lo) .nil) (sv (turn_ptr 0 rfl rfl) (s1 (s1 (s1 (sv (turn_eq (I_eq (wr omA)) lx) .nil)))))) omA ⟨foll hR (congrArg (fun p : Int × Nat => ref25_Check_k1 s p.1 p.2) rfl), by exact omA⟩
    · rw [drop_none (l := s.jobs) (j := i) (by have := of_decide_eq_false h4; omega)] at hR; (conv => whnf); replace hR : ref25_Check_k1 s last i = R := fo2 (fun p : Int × Nat => ref25_Check_k1 s p.1 p.2) (last, i) hR rfl; refine loop_start2 (fun (final : Int) (i1 : Nat) => ref25_Check_k2 s last (ref25_Check_g2 (List.drop i1 s.books) final i1).1 (ref25_Check_g2 (List.drop i1 s.books) final i1).2 = R ∧ i1 ≤ s.books.length) (fun final i1 => s.books.length - i1) (fun final i1 => [(1, AVal.ptr 0 0 8 0 0), (2, I 0), (3, I last), (4, I final), (6, I (i1 : Int))]) (fun final i1 => [(0, AObj.row 28 8 [[I s.now, nodeL s.nodes, jobL s.jobs, resizeL s.resizes, bookL s.books, usageL s.ledger, I s.nextJob, I s.nextBook]])]) 0 0 (wk [0] (tO rfl (ts State.lo) .nil) (sv (turn_ptr 0 rfl rfl) (s1 (s1 (s1 (s1 .nil)))))) ⟨foll hR rfl, by exact omA⟩ ?_; clear hR; rintro final i1 ⟨hR, hj⟩; (try dsimp only at hR hj); (conv => whnf); refine And.intro (fun h10 => ?_) (fun h11 => ?_)
      · (have hlt : i1 < s.books.length := by have := of_decide_eq_true h10; omega); rw [drop_getD Book.zero hlt] at hR; (conv => whnf); refine And.intro gkA ?_; (conv => whnf); exact loop_next2 ((s.books.getD i1 Book.zero).id) (i1 + 1) (wk [0] (tO rfl (ts State.lo) .nil) (sv (turn_ptr 0 rfl rfl) (s1 (s1 (s1 (sv (turn_eq (I_eq (wr omA)) lx) .nil)))))) omA ⟨foll hR (congrArg (fun p : Int × Nat => ref25_Check_k2 s last p.1 p.2) rfl), by exact omA⟩
      · rw [drop_none (l := s.books) (j := i1) (by have := of_decide_eq_false h11; omega)] at hR; (conv => whnf); replace hR : ref25_Check_k2 s last final i1 = R := fo2 (fun p : Int × Nat => ref25_Check_k2 s last p.1 p.2) (final, i1) hR rfl; refine ACalls.use (ref25_next_c s.nextJob last _) ?_; (conv => whnf); (first | apply u2 | apply u3 | apply u4 | apply ACalls.use); exact ref25_next_c s.nextBook final _; (conv => whnf); refine loop_start2 (fun (ok : Bool) (i2 : Nat) => ∃ m, (Int.toNat ((s.resizes.length : Int) - (i2 : Int))) < m ∧ ref25_Check_k3 s (ref25_Check_g3 s m ok i2).1 (ref25_Check_g3 s m ok i2).2 = R ∧ (i2 : Int) ≤ (s.resizes.length : Int)) (fun ok i2 => (Int.toNat ((s.resizes.length : Int) - (i2 : Int)))) (fun ok i2 => [(1, AVal.ptr 0 0 8 0 0), (2, I 0), (7, Bo ok), (8, I (i2 : Int))]) (fun ok i2 => [(0, AObj.row 28 8 [[I s.now, nodeL s.nodes, jobL s.jobs, resizeL s.resizes, bookL s.books, usageL s.ledger, I s.nextJob, I s.nextBook]])]) ((ref25_next s.nextJob last) && (ref25_next s.nextBook final)) 0 (wk [0] (tO rfl (ts State.lo) .nil) (sv (turn_ptr 0 rfl rfl) (s1 (s1 (s1 .nil))))) ⟨_, Nat.lt_succ_self _, foll hR rfl, by exact exA⟩ ?_; clear hR; rintro ok i2 ⟨m, hm, hR, hx⟩; (try dsimp only at hR hm hx); obtain ⟨m, rfl⟩ : ∃ k, m = k + 1 := ⟨m - 1, by omega⟩; (conv => whnf); refine And.intro (fun h12 => ?_) (fun h13 => ?_)
        · (conv => whnf); refine dchk (by kernel_rfl) ?_; (conv => whnf); refine And.intro gkA ?_; (conv => whnf); (first | apply u2 | apply u3 | apply u4 | apply ACalls.use); exact ref25_resize_c s (s.resizes.getD i2 Resize.zero) szA _; (conv => whnf); refine And.intro gkA ?_; (conv => whnf); refine And.intro gkA ?_; (conv => whnf); (repeat ((first | refine And.intro rfl ?_ | refine And.intro (fun _ => rfl) ?_ | refine And.intro (fun _ => ref25_resize_c s (s.resizes.getD i2 Resize.zero) szA _) ?_); conv => whnf)); exact loop_next2 ((ref25_resize s (s.resizes.getD i2 Resize.zero)) && (((i2 : Int) == 0) || (decide ((s.resizes.getD (Int.toNat (w64 ((i2 : Int) - 1))) Resize.zero).job < (s.resizes.getD i2 Resize.zero).job)))) (i2 + 1) (wk [0] (tO rfl (ts State.lo) .nil) (sv (turn_ptr 0 rfl rfl) (s1 (s1 (sv (turn_eq (I_eq (wr omA)) lx) .nil))))) omA ⟨m, by exact omA, foll hR (congrArg (fun p : Bool × Nat => ref25_Check_k3 s p.1 p.2) (ct h12 rfl)), by exact exA⟩
        · (conv => whnf); replace hR : ref25_Check_k3 s ok i2 = R := fo2 (fun p : Bool × Nat => ref25_Check_k3 s p.1 p.2) (ok, i2) hR (cf h13 rfl); refine loop_start2 (fun (ok1 : Bool) (n : Nat) => ∃ m, (Int.toNat ((s.nodes.length : Int) - (n : Int))) < m ∧ ref25_Check_k4 s (ref25_Check_g4 s m ok1 n).1 (ref25_Check_g4 s m ok1 n).2 = R ∧ (n : Int) ≤ (s.nodes.length : Int)) (fun ok1 n => (Int.toNat ((s.nodes.length : Int) - (n : Int)))) (fun ok1 n => [(1, AVal.ptr 0 0 8 0 0), (2, I 0), (7, Bo ok1), (9, I (n : Int))]) (fun ok1 n => [(0, AObj.row 28 8 [[I s.now, nodeL s.nodes, jobL s.jobs, resizeL s.resizes, bookL s.books, usageL s.ledger, I s.nextJob, I s.nextBook]])]) ok 0 (wk [0] (tO rfl (ts State.lo) .nil) (sv (turn_ptr 0 rfl rfl) (s1 (s1 (s1 .nil))))) ⟨_, Nat.lt_succ_self _, foll hR rfl, by exact exA⟩ ?_; clear hR; rintro ok1 n ⟨m, hm, hR, hx⟩; (try dsimp only at hR hm hx); obtain ⟨m, rfl⟩ : ∃ k, m = k + 1 := ⟨m - 1, by omega⟩; (conv => whnf); refine And.intro (fun h14 => ?_) (fun h15 => ?_)
          · (conv => whnf); refine ACalls.use (ref25_node_c s (n : Int) szA ckA _) ?_; (conv => whnf); exact loop_next2 (ref25_node s (n : Int)) (n + 1) (wk [0] (tO rfl (ts State.lo) .nil) (sv (turn_ptr 0 rfl rfl) (s1 (s1 (sv (turn_eq (I_eq (wr omA)) lx) .nil))))) omA ⟨m, by exact omA, foll hR (congrArg (fun p : Bool × Nat => ref25_Check_k4 s p.1 p.2) (ct h14 rfl)), by exact exA⟩
          · (conv => whnf); replace hR : ref25_Check_k4 s ok1 n = R := fo2 (fun p : Bool × Nat => ref25_Check_k4 s p.1 p.2) (ok1, n) hR (cf h15 rfl); refine loop_start2 (fun (ok2 : Bool) (i3 : Nat) => ∃ m, (Int.toNat ((s.jobs.length : Int) - (i3 : Int))) < m ∧ ref25_Check_k5 (ref25_Check_g5 s m ok2 i3).1 (ref25_Check_g5 s m ok2 i3).2 = R ∧ (i3 : Int) ≤ (s.jobs.length : Int)) (fun ok2 i3 => (Int.toNat ((s.jobs.length : Int) - (i3 : Int)))) (fun ok2 i3 => [(1, AVal.ptr 0 0 8 0 0), (2, I 0), (7, Bo ok2), (10, I (i3 : Int))]) (fun ok2 i3 => [(0, AObj.row 28 8 [[I s.now, nodeL s.nodes, jobL s.jobs, resizeL s.resizes, bookL s.books, usageL s.ledger, I s.nextJob, I s.nextBook]])]) ok1 0 (wk [0] (tO rfl (ts State.lo) .nil) (sv (turn_ptr 0 rfl rfl) (s1 (s1 (s1 .nil))))) ⟨_, Nat.lt_succ_self _, foll hR rfl, by exact exA⟩ ?_; clear hR; rintro ok2 i3 ⟨m, hm, hR, hx⟩; (try dsimp only at hR hm hx); obtain ⟨m, rfl⟩ : ∃ k, m = k + 1 := ⟨m - 1, by omega⟩; (conv => whnf); refine And.intro (fun h16 => ?_) (fun h17 => ?_)
            · (conv => whnf); refine dchk (by kernel_rfl) ?_; (conv => whnf); refine And.intro gkA ?_; (conv => whnf); refine And.intro gkA ?_; (conv => whnf); (first | apply u2 | apply u3 | apply u4 | apply ACalls.use); exact ref12_Of_c s.nodes ((s.jobs.getD i3 Job.zero).id) 1 szA _; (conv => whnf); refine And.intro gkA ?_; (conv => whnf); (repeat ((first | refine And.intro rfl ?_ | refine And.intro (fun _ => rfl) ?_ | refine And.intro (fun _ => ref12_Of_c s.nodes ((s.jobs.getD i3 Job.zero).id) 1 szA _) ?_); conv => whnf)); exact loop_next2 (((s.jobs.getD i3 Job.zero).state != 2) || ((ref12_Of s.nodes ((s.jobs.getD i3 Job.zero).id) 1) == (s.jobs.getD i3 Job.zero).nodes)) (i3 + 1) (wk [0] (tO rfl (ts State.lo) .nil) (sv (turn_ptr 0 rfl rfl) (s1 (s1 (sv (turn_eq (I_eq (wr omA)) lx) .nil))))) omA ⟨m, by exact omA, foll hR (congrArg (fun p : Bool × Nat => ref25_Check_k5 p.1 p.2) (ct h16 rfl)), by exact exA⟩
            · (conv => whnf); replace hR : ref25_Check_k5 ok2 i3 = R := fo2 (fun p : Bool × Nat => ref25_Check_k5 p.1 p.2) (ok2, i3) hR (cf h17 rfl); refine And.intro (fun h18 => ?_) (fun h19 => ?_)
              · (conv => whnf); obtain rfl := foll hR (ct h18 rfl); exact ret_seen lx sr
              · (conv => whnf); obtain rfl := foll hR (cf h19 rfl); exact ret_seen lx sr
end Go.Proofs.YtoionleakeemlaaGreatDoor
namespace Go.Proofs.YtoionleakeemlaaGreatDoor
set_option linter.unusedSimpArgs false
set_option linter.unusedVariables false
open Go.Fw
set_option maxRecDepth 20000
set_option maxHeartbeats 4000000
attribute [local irreducible] ACalls AMoves
def state_Check_g1  : List Job → Int → Nat → Int
  | [], lastJob, _ => lastJob
  | x_ :: r, _, i => state_Check_g1 r x_.id (i + 1)
def state_Check_g2  : List Book → Int → Nat → Int
  | [], lastBook, _ => lastBook
  | x_1 :: r, _, i1 => state_Check_g2 r x_1.id (i1 + 1)
def state_Check_g3  : List Job → Nat → List (Int × Job) → (List (Int × Job))
  | [], _, c => c
  | x_2 :: r, i2, c => bif (x_2.state == 2) then state_Check_g3 r (i2 + 1) (setM x_2.id x_2 c) else state_Check_g3 r (i2 + 1) c
def state_Check_g4 (s : State) (lastJob : Int) (lastBook : Int) (c : List (Int × Job)) : List Resize → Nat → List (Int × Resize) → Int
  | [], _, c2 => bif ((((!true) || (!(state_next s.nextJob lastJob))) || (!(state_next s.nextBook lastBook))) || (!(state_nodes s c c2))) then 141 else bif (c.all (fun (en : Int × Job) => (bif ((alloc_Held s.nodes en.1) != en.2.nodes) then false else true))) then 0 else 141
  | x_3 :: r, i3, c2 => bif (((!(getM x_3.job c).isSome) || ((decide ((i3 : Int) > 0)) && (decide ((s.resizes.getD (Int.toNat (w64 ((i3 : Int) - 1))) Resize.zero).job ≥ x_3.job)))) || (!(state_resize s x_3 ((getM x_3.job c).getD Job.zero)))) then 141 else state_Check_g4 s lastJob lastBook c r (i3 + 1) (setM x_3.job x_3 c2)
def state_Check_k3 (s : State) (lastJob : Int) (lastBook : Int) (c : List (Int × Job)) : Int := state_Check_g4 s lastJob lastBook c s.resizes 0 []
def state_Check_k2 (s : State) (lastJob : Int) (lastBook : Int) : Int := state_Check_k3 s lastJob lastBook (state_Check_g3 s.jobs 0 [])
def state_Check_k1 (s : State) (lastJob : Int) : Int := state_Check_k2 s lastJob (state_Check_g2 s.books 0 0)
def state_Check (s : State) : Int := bif ((plan_Check s) != 0) then 141 else state_Check_k1 s (state_Check_g1 s.jobs 0 0)
theorem state_Check_c (s : State) (hs0 : s.sz) : ∀ objs, AGives Tryz.prog 13 [State.a s] objs (I (state_Check s)) := by
  generalize hR : state_Check s = R; refine AGives.any' (.cons (State.low _ _) .nil) lx (ACalls.of_cwp (kp 14 [16, 18, 19, 20, 21, 28, 29, 30, 31, 68, 70, 72, 82]) Tryz.func13 rfl rfl ?_); have hk0 := hs0; obtain ⟨z29, z30, z31, z32, z33, z34, z35⟩ : s.nodes.length ≤ 4294967296 ∧ s.jobs.length ≤ 4294967296 ∧ (∀ y ∈ s.jobs, y.sz) ∧ s.resizes.length ≤ 4294967296 ∧ s.books.length ≤ 4294967296 ∧ s.ledger.length ≤ 4294967296 ∧ (∀ y ∈ s.ledger, y.sz) := hs0; (conv => whnf); refine ACalls.use (plan_Check_c s (by first | (exact getM_sz _ _ (by assumption)) | exact szA) _) ?_; (conv => whnf); refine And.intro (fun h1 => ?_) (fun h2 => ?_)
  · (conv => whnf); obtain rfl := foll hR (ct h1 rfl); exact ret_seen lx sr
  · (conv => whnf); refine loop_start2 (fun (lastJob : Int) (i : Nat) => state_Check_k1 s (state_Check_g1 (List.drop i s.jobs) lastJob i) = R ∧ i ≤ s.jobs.length) (fun lastJob i => s.jobs.length - i) (fun lastJob i => [(1, AVal.ptr 0 0 8 0 0), (2, I 0), (3, I lastJob), (4, I 0), (18, jobL s.jobs), (19, I (s.jobs.length : Int)), (20, I (i : Int))]) (fun lastJob i => [(0, AObj.row 28 8 [[I s.now, nodeL s.nodes, jobL s.jobs, resizeL s.resizes, bookL s.books, usageL s.ledger, I s.nextJob, I s.nextBook]])]) 0 0 (wk [0] (tO rfl (ts State.lo) .nil) (sv (turn_ptr 0 rfl rfl) (s1 (s1 (s1 (sl lw (s1 (s1 .nil)))))))) ⟨foll hR (cf h2 rfl), by exact omA⟩ ?_; clear hR; rintro lastJob i ⟨hR, hj⟩; (try dsimp only at hR hj); (conv => whnf); refine And.intro (fun h3 => ?_) (fun h4 => ?_)
    · (have hlt : i < s.jobs.length := by have := of_decide_eq_true h3; omega); rw [drop_getD Job.zero hlt] at hR; have hxz : (s.jobs.getD i Job.zero).sz := getD_sz (by first | assumption | grind) (Job.szz _); have hkz := hxz; obtain ⟨z5, z6, z7, z8, z9⟩ : ((s.jobs.getD i Job.zero).name).size ≤ 4294967296 ∧ ((s.jobs.getD i Job.zero).user).size ≤ 4294967296 ∧ ((s.jobs.getD i Job.zero).account).size ≤ 4294967296 ∧ ((((s.jobs.getD i Job.zero).shape).alts).length ≤ 4294967296) ∧ ((s.jobs.getD i Job.zero).after).length ≤ 4294967296 := hxz; (conv => whnf); refine And.intro gkA ?_; (conv => whnf); exact loop_next2 ((s.jobs.getD i Job.zero).id) (i + 1) (wk [0] (tO rfl (ts State.lo) .nil) (sv (turn_ptr 0 rfl rfl) (s1 (s1 (s1 (sl lw (s1 (sv (turn_eq (I_eq (wr omA)) lx) .nil)))))))) omA ⟨foll hR (congrArg (fun p : Int => state_Check_k1 s p) rfl), by exact omA⟩
    · rw [drop_none (l := s.jobs) (j := i) (by have := of_decide_eq_false h4; omega)] at hR; (conv => whnf); replace hR : state_Check_k1 s lastJob = R := fo2 (fun p : Int => state_Check_k1 s p) (lastJob) hR rfl; refine loop_start2 (fun (lastBook : Int) (i1 : Nat) => state_Check_k2 s lastJob (state_Check_g2 (List.drop i1 s.books) lastBook i1) = R ∧ i1 ≤ s.books.length) (fun lastBook i1 => s.books.length - i1) (fun lastBook i1 => [(1, AVal.ptr 0 0 8 0 0), (2, I 0), (3, I lastJob), (4, I lastBook), (28, bookL s.books), (29, I (s.books.length : Int)), (30, I (i1 : Int))]) (fun lastBook i1 => [(0, AObj.row 28 8 [[I s.now, nodeL s.nodes, jobL s.jobs, resizeL s.resizes, bookL s.books, usageL s.ledger, I s.nextJob, I s.nextBook]])]) 0 0 (wk [0] (tO rfl (ts State.lo) .nil) (sv (turn_ptr 0 rfl rfl) (s1 (s1 (s1 (sl lw (s1 (s1 .nil)))))))) ⟨foll hR rfl, by exact omA⟩ ?_; clear hR; rintro lastBook i1 ⟨hR, hj⟩; (try dsimp only at hR hj); (conv => whnf); refine And.intro (fun h10 => ?_) (fun h11 => ?_)
      · (have hlt : i1 < s.books.length := by have := of_decide_eq_true h10; omega); rw [drop_getD Book.zero hlt] at hR; (conv => whnf); refine And.intro gkA ?_; (conv => whnf); exact loop_next2 ((s.books.getD i1 Book.zero).id) (i1 + 1) (wk [0] (tO rfl (ts State.lo) .nil) (sv (turn_ptr 0 rfl rfl) (s1 (s1 (s1 (sl lw (s1 (sv (turn_eq (I_eq (wr omA)) lx) .nil)))))))) omA ⟨foll hR (congrArg (fun p : Int => state_Check_k2 s lastJob p) rfl), by exact omA⟩
      · rw [drop_none (l := s.books) (j := i1) (by have := of_decide_eq_false h11; omega)] at hR; (conv => whnf); replace hR : state_Check_k2 s lastJob lastBook = R := fo2 (fun p : Int => state_Check_k2 s lastJob p) (lastBook) hR rfl; refine ACalls.of_cwp (fun _ => true) Tryz.func35 rfl rfl ?_; (conv => whnf); refine loop_start2 (fun (i2 : Nat) (c : List (Int × Job)) => state_Check_k3 s lastJob lastBook (state_Check_g3 (List.drop i2 s.jobs) i2 c) = R ∧ i2 ≤ s.jobs.length ∧ ∀ y ∈ c, y.2.sz) (fun i2 c => s.jobs.length - i2) (fun i2 c => [(2, AVal.lit (.map none)), (3, AVal.map 1), (7, jobL s.jobs), (8, I (s.jobs.length : Int)), (9, I (i2 : Int))]) (fun i2 c => [(0, AObj.row 28 8 [[I s.now, nodeL s.nodes, jobL s.jobs, resizeL s.resizes, bookL s.books, usageL s.ledger, I s.nextJob, I s.nextBook]]), (0, AObj.other (.map (mapEs ik Job.a 0 c) c.length))]) 0 [] (wk [0, 1] (tO rfl (ts State.lo) (tO rfl (turn_mapO _ rfl rfl (fun _ => Job.low _ _)) .nil)) (s1 (sv (turn_map 1 rfl rfl) (sl lw (s1 (s1 .nil)))))) ⟨foll hR rfl, by exact omA, by first | (exact setM_sz _ _ _ (by assumption) (by assumption)) | first | (exact fun y hy => absurd hy List.not_mem_nil) | first | (assumption) | exact exA⟩ ?_; clear hR; rintro i2 c ⟨hR, hj, hx⟩; (try dsimp only at hR hj hx); (conv => whnf); refine And.intro (fun h12 => ?_) (fun h13 => ?_)
        · (have hlt : i2 < s.jobs.length := by have := of_decide_eq_true h12; omega); rw [drop_getD Job.zero hlt] at hR; have hxz : (s.jobs.getD i2 Job.zero).sz := getD_sz (by first | assumption | grind) (Job.szz _); have hkz := hxz; obtain ⟨z14, z15, z16, z17, z18⟩ : ((s.jobs.getD i2 Job.zero).name).size ≤ 4294967296 ∧ ((s.jobs.getD i2 Job.zero).user).size ≤ 4294967296 ∧ ((s.jobs.getD i2 Job.zero).account).size ≤ 4294967296 ∧ ((((s.jobs.getD i2 Job.zero).shape).alts).length ≤ 4294967296) ∧ ((s.jobs.getD i2 Job.zero).after).length ≤ 4294967296 := hxz; (conv => whnf); refine And.intro gkA ?_; (conv => whnf); refine And.intro (fun h19 => ?_) (fun h20 => ?_)
          · (conv => whnf); refine ⟨_, _, keys_int rfl _ _, putM_map (ek := ik) ((s.jobs.getD i2 Job.zero).id) (s.jobs.getD i2 Job.zero) c rfl rfl, ?_⟩; (conv => whnf); exact loop_next2 (i2 + 1) (setM (s.jobs.getD i2 Job.zero).id (s.jobs.getD i2 Job.zero) c) (wk [0, 1] (tO rfl (ts State.lo) (tO rfl (turn_mapO _ rfl rfl (fun _ => Job.low _ _)) .nil)) (s1 (sv (turn_map 1 rfl rfl) (sl lw (s1 (sv (turn_eq (I_eq (wr omA)) lx) .nil)))))) omA ⟨foll hR (congrArg (fun p : (List (Int × Job)) => state_Check_k3 s lastJob lastBook p) (ct h19 rfl)), by exact omA, by first | (exact setM_sz _ _ _ (by assumption) (by assumption)) | first | (exact fun y hy => absurd hy List.not_mem_nil) | first | (assumption) | exact exA⟩
          · (conv => whnf); exact loop_next2 (i2 + 1) c (wk [0, 1] (tO rfl (ts State.lo) (tO rfl (turn_mapO _ rfl rfl (fun _ => Job.low _ _)) .nil)) (s1 (sv (turn_map 1 rfl rfl) (sl lw (s1 (sv (turn_eq (I_eq (wr omA)) lx) .nil)))))) omA ⟨foll hR (congrArg (fun p : (List (Int × Job)) => state_Check_k3 s lastJob lastBook p) (cf h20 rfl)), by exact omA, by first | (exact setM_sz _ _ _ (by assumption) (by assumption)) | first | (exact fun y hy => absurd hy List.not_mem_nil) | first | (assumption) | exact exA⟩
        · rw [drop_none (l := s.jobs) (j := i2) (by have := of_decide_eq_false h13; omega)] at hR; (conv => whnf); replace hR : state_Check_k3 s lastJob lastBook c = R := fo2 (fun p : (List (Int × Job)) => state_Check_k3 s lastJob lastBook p) (c) hR rfl; refine ⟨_, _, Told.refl, ?_⟩; (conv => whnf); refine ACalls.of_cwp (fun _ => true) Tryz.func36 rfl rfl ?_; (conv => whnf); refine loop_start2 (fun (i3 : Nat) (c2 : List (Int × Resize)) => state_Check_g4 s lastJob lastBook c (List.drop i3 s.resizes) i3 c2 = R ∧ i3 ≤ s.resizes.length) (fun i3 c2 => s.resizes.length - i3) (fun i3 c2 => [(1, AVal.map 1), (2, AVal.ptr 2 0 8 0 0), (4, AVal.lit (.map none)), (5, Bo false), (6, AVal.map 3), (13, resizeL s.resizes), (14, I (s.resizes.length : Int)), (15, I (i3 : Int))]) (fun i3 c2 => [(0, AObj.row 28 8 [[I s.now, nodeL s.nodes, jobL s.jobs, resizeL s.resizes, bookL s.books, usageL s.ledger, I s.nextJob, I s.nextBook]]), (0, AObj.other (.map (mapEs ik Job.a 0 c) c.length)), (0, AObj.row 28 8 [[I s.now, nodeL s.nodes, jobL s.jobs, resizeL s.resizes, bookL s.books, usageL s.ledger, I s.nextJob, I s.nextBook]]), (0, AObj.other (.map (mapEs ik Resize.a 0 c2) c2.length))]) 0 [] (wk [0, 1, 2, 3] (tO rfl (ts State.lo) (tO rfl (turn_mapO _ rfl rfl (fun _ => Job.low _ _)) (tO rfl (ts State.lo) (tO rfl (turn_mapO _ rfl rfl (fun _ => Resize.low _ _)) .nil)))) (sv (turn_map 1 rfl rfl) (sv (turn_ptr 2 rfl rfl) (s1 (s1 (sv (turn_map 3 rfl rfl) (sl lw (s1 (s1 .nil))))))))) ⟨foll hR rfl, by exact omA⟩ ?_; clear hR; rintro i3 c2 ⟨hR, hj⟩; (try dsimp only at hR hj); (conv => whnf); refine And.intro (fun h21 => ?_) (fun h22 => ?_)
          · (have hlt : i3 < s.resizes.length := by have := of_decide_eq_true h21; omega); rw [drop_getD Resize.zero hlt] at hR; (conv => whnf); refine And.intro gkA ?_; (conv => whnf); (first | refine ⟨_, _, keys_int rfl _ _, lookP_map (ek := ik) ((s.resizes.getD i3 Resize.zero).job) c Job.zero (as_agg (a1 (a1 (a1 (a1 (a1 (av (as_nil) (a1 (a1 (a1 (a1 (av (as_nil) (a1 (a1 (a1 (a1 (a1 (a1 (a1 (a1 (a1 .nil))))))))))))))))))))), ?_⟩ | refine ⟨_, fun _ => ⟨_, _, keys_int rfl _ _, lookP_map (ek := ik) ((s.resizes.getD i3 Resize.zero).job) c Job.zero (as_agg (a1 (a1 (a1 (a1 (a1 (av (as_nil) (a1 (a1 (a1 (a1 (av (as_nil) (a1 (a1 (a1 (a1 (a1 (a1 (a1 (a1 (a1 .nil))))))))))))))))))))), rfl, rfl⟩, ?_⟩ | refine ⟨_, rfl, ⟨_, _, keys_int rfl _ _, lookP_map (ek := ik) ((s.resizes.getD i3 Resize.zero).job) c Job.zero (as_agg (a1 (a1 (a1 (a1 (a1 (av (as_nil) (a1 (a1 (a1 (a1 (av (as_nil) (a1 (a1 (a1 (a1 (a1 (a1 (a1 (a1 (a1 .nil))))))))))))))))))))), Sub.refl _, rfl⟩, ?_⟩); (conv => whnf); refine dchk (by kernel_rfl) ?_; (conv => whnf); refine And.intro gkA ?_; (conv => whnf); (first | apply u2 | apply u3 | apply u4 | apply ACalls.use); exact state_resize_c s (s.resizes.getD i3 Resize.zero) ((getM (s.resizes.getD i3 Resize.zero).job c).getD Job.zero) (by first | (exact getM_sz _ _ (by assumption)) | exact szA) (by first | (exact getM_sz _ _ (by assumption)) | exact szA) _; (conv => whnf); (repeat ((first | refine And.intro rfl ?_ | refine And.intro (fun _ => rfl) ?_ | refine And.intro (fun _ => state_resize_c s (s.resizes.getD i3 Resize.zero) ((getM (s.resizes.getD i3 Resize.zero).job c).getD Job.zero) (by first | (exact getM_sz _ _ (by assumption)) | exact szA) (by first | (exact getM_sz _ _ (by assumption)) | exact szA) _) ?_); conv => whnf)); refine And.intro (fun h23 => ?_) (fun h24 => ?_)
            · (conv => whnf); refine ⟨_, _, Told.refl, ?_⟩; (conv => whnf); (first | refine ⟨Bo false, _, fun h => absurd h (by decide), fun _ => rfl, ?_⟩ | refine ⟨Bo false, fun h => absurd h (by decide), ?_⟩); (conv => whnf); (first | refine ⟨Bo false, _, fun h => absurd h (by decide), fun _ => rfl, ?_⟩ | refine ⟨Bo false, fun h => absurd h (by decide), ?_⟩); (conv => whnf); (first | refine ⟨Bo false, _, fun h => absurd h (by decide), fun _ => rfl, ?_⟩ | refine ⟨Bo false, fun h => absurd h (by decide), ?_⟩); (conv => whnf); refine And.intro (fun _ => ?_) (fun h => nomatch h); (conv => whnf); obtain rfl := foll hR (ct h23 rfl); exact ret_seen lx sr
            · (conv => whnf); refine ⟨_, _, keys_int rfl _ _, putM_map (ek := ik) ((s.resizes.getD i3 Resize.zero).job) (s.resizes.getD i3 Resize.zero) c2 rfl rfl, ?_⟩; (conv => whnf); exact loop_next2 (i3 + 1) (setM (s.resizes.getD i3 Resize.zero).job (s.resizes.getD i3 Resize.zero) c2) (wk [0, 1, 2, 3] (tO rfl (ts State.lo) (tO rfl (turn_mapO _ rfl rfl (fun _ => Job.low _ _)) (tO rfl (ts State.lo) (tO rfl (turn_mapO _ rfl rfl (fun _ => Resize.low _ _)) .nil)))) (sv (turn_map 1 rfl rfl) (sv (turn_ptr 2 rfl rfl) (s1 (s1 (sv (turn_map 3 rfl rfl) (sl lw (s1 (sv (turn_eq (I_eq (wr omA)) lx) .nil))))))))) omA ⟨foll hR (cf h24 rfl), by exact omA⟩
          · rw [drop_none (l := s.resizes) (j := i3) (by have := of_decide_eq_false h22; omega)] at hR; (conv => whnf); refine ⟨_, _, Told.refl, ?_⟩; (conv => whnf); (first | apply u2 | apply u3 | apply u4 | apply ACalls.use); exact state_next_c s.nextJob lastJob _; (conv => whnf); (first | apply u2 | apply u3 | apply u4 | apply ACalls.use); exact state_next_c s.nextBook lastBook _; (conv => whnf); (first | apply u2 | apply u3 | apply u4 | apply ACalls.use); exact mv [1, 3] (state_nodes_c s c c2 (by first | (exact getM_sz _ _ (by assumption)) | exact szA)) (dO (.same _ (low_mapEs fun _ => Job.low _ _)) (dO (.same _ (low_mapEs fun _ => Resize.low _ _)) .nil)) (dv (dn_low (Low.agg' (State.lo))) (dv (dn_ren (Ren.map _ _ rfl)) (dv (dn_ren (Ren.map _ _ rfl)) .nil))) (rO (RenO.same _ (low_mapEs fun _ => Job.low _ _)) (rO (RenO.same _ (low_mapEs fun _ => Resize.low _ _)) .nil)) rx; (conv => whnf); refine And.intro (fun h25 => ?_) (fun h26 => ?_)
            · (conv => whnf); obtain rfl := foll hR (ct h25 rfl); exact ret_seen lx sr
            · (conv => whnf); refine loop_start (X := Array Nat) (fun x => (bif (c.all (fun (en : Int × Job) => (bif ((alloc_Held s.nodes en.1) != en.2.nodes) then false else true))) then 0 else 141) = R ∧ ∀ j, j < c.length → x.contains j = true → (fun (en : Int × Job) => (bif ((alloc_Held s.nodes en.1) != en.2.nodes) then false else true)) (c.getD j ((0, Job.zero) : Int × Job)) = true) (fun x => unseen c.length x) (fun seen => [(1, AVal.ptr 0 0 8 0 0), (2, I 0), (70, AVal.ptr 2 0 1 0 0)]) (fun seen => [(0, AObj.row 28 8 [[I s.now, nodeL s.nodes, jobL s.jobs, resizeL s.resizes, bookL s.books, usageL s.ledger, I s.nextJob, I s.nextBook]]), (0, AObj.other (.map (mapEs ik Job.a 0 c) c.length)), (0, AObj.other (.mapIter 1 c.length seen c.length))]) #[] (wk [0, 1, 4] (tO rfl (ts State.lo) (tO rfl (turn_mapO _ rfl rfl (fun _ => Job.low _ _)) (tO rfl (turn_miter 1 rfl rfl) .nil))) (sv (turn_ptr 0 rfl rfl) (s1 (sv (turn_ptr 2 rfl rfl) .nil)))) ⟨foll hR (cf h26 rfl), fun j hj hc => absurd hc (by simp)⟩ ?_; clear hR; rintro seen ⟨hR, hx⟩; (conv => whnf); refine map_round ((0, Job.zero) : Int × Job) (fun j hj hns => ?_) (fun hall => ?_)
              · (conv => whnf); refine And.intro (fun _ => ?_) (fun h => nomatch h); (conv => whnf); refine ⟨_, entry_map ((0, Job.zero) : Int × Job) rfl rfl hj, ?_⟩; (conv => whnf); refine dchk (by kernel_rfl) ?_; (conv => whnf); (first | apply u2 | apply u3 | apply u4 | apply ACalls.use); exact alloc_Held_c s.nodes ((c.getD j ((0, Job.zero) : Int × Job)).1) (by first | (exact getM_sz _ _ (by assumption)) | exact szA) _; (conv => whnf); (repeat ((first | refine And.intro rfl ?_ | refine And.intro (fun _ => rfl) ?_ | refine And.intro (fun _ => alloc_Held_c s.nodes ((c.getD j ((0, Job.zero) : Int × Job)).1) (by first | (exact getM_sz _ _ (by assumption)) | exact szA) _) ?_); conv => whnf)); refine And.intro (fun h27 => ?_) (fun h28 => ?_)
                · (conv => whnf); obtain rfl := foll hR ((cond_f (all_f (p := (fun (en : Int × Job) => (bif ((alloc_Held s.nodes en.1) != en.2.nodes) then false else true))) hj (ct h27 rfl))).trans rfl); exact ret_seen lx sr
                · (conv => whnf); exact loop_next (seen.push j) (unseen_push hj hns) (wk [0, 1, 2] (tO rfl (ts State.lo) (tO rfl (turn_mapO _ rfl rfl (fun _ => Job.low _ _)) (tO rfl (turn_miter 1 rfl rfl) .nil))) (sv (turn_ptr 0 rfl rfl) (s1 (sv (turn_ptr 2 rfl rfl) .nil)))) ⟨hR, seen_push (p := (fun (en : Int × Job) => (bif ((alloc_Held s.nodes en.1) != en.2.nodes) then false else true))) hx (cf h28 rfl)⟩
              · (conv => whnf); refine And.intro (fun h => nomatch h) (fun _ => ?_); (conv => whnf); obtain rfl := foll hR (ct (all_t hall hx) rfl); exact ret_seen lx sr
theorem slices_IndexFunc_Resize_lt1 (f : Resize → Bool) : ∀ (l : List Resize) (i : Nat), slices_IndexFunc_Resize_g1 f l i < 0 ∨ ((i : Int) ≤ slices_IndexFunc_Resize_g1 f l i ∧ slices_IndexFunc_Resize_g1 f l i < (i : Int) + (l.length : Int))
  | [], i => by left; rw [slices_IndexFunc_Resize_g1]; decide
  | x :: r, i => by
    rw [slices_IndexFunc_Resize_g1]
    cases (f x) with
    | true => right; simp only [cond_true, List.length_cons]; omega
    | false =>
      have := slices_IndexFunc_Resize_lt1 f r (i + 1)
      simp only [cond_false, List.length_cons]
      omega
theorem slices_IndexFunc_Resize_lt (l : List Resize) (f : Resize → Bool) : slices_IndexFunc_Resize l f < 0 ∨ (0 ≤ slices_IndexFunc_Resize l f ∧ slices_IndexFunc_Resize l f < (l.length : Int)) := by
  have := slices_IndexFunc_Resize_lt1 f l 0
  unfold slices_IndexFunc_Resize
  omega
def ref25_Resizing (s : State) (id_ : Int) : Resize × Bool := bif (((ref25_of s id_).nodes == 0) || ((ref25_Check s) != 0)) then (Resize.zero, false) else ((ref25_of s id_), true)
theorem ref25_Resizing_c (s : State) (id_ : Int) (hs0 : s.sz) : ∀ objs, AGives Tryz.prog 12 [State.a s, I id_] objs (AVal.tup [Resize.a ((ref25_Resizing s id_).1), Bo ((ref25_Resizing s id_).2)]) := by
  generalize hR : ref25_Resizing s id_ = R; refine AGives.any' (.cons (State.low _ _) (l1 .nil)) (Low.tup' (.cons (Resize.low _ _) (l1 .nil))) (ACalls.of_cwp (kp 7 [17]) Tryz.func12 rfl rfl ?_); have hk0 := hs0; obtain ⟨z3, z4, z5, z6, z7, z8, z9⟩ : s.nodes.length ≤ 4294967296 ∧ s.jobs.length ≤ 4294967296 ∧ (∀ y ∈ s.jobs, y.sz) ∧ s.resizes.length ≤ 4294967296 ∧ s.books.length ≤ 4294967296 ∧ s.ledger.length ≤ 4294967296 ∧ (∀ y ∈ s.ledger, y.sz) := hs0; (conv => whnf); refine ACalls.use (ref25_of_c s id_ szA _) ?_; (conv => whnf); (first | apply u2 | apply u3 | apply u4 | apply ACalls.use); exact ref25_Check_c s szA _; (conv => whnf); refine And.intro (fun h1 => ?_) (fun h2 => ?_)
  · (conv => whnf); obtain rfl := foll hR (ct h1 rfl); exact ret_seen (Low.tup' (.cons (Resize.low _ _) (l1 .nil))) (Seen.tup (e1 (e1 .nil)))
  · (conv => whnf); obtain rfl := foll hR (cf h2 rfl); exact ret_seen (Low.tup' (.cons (Resize.low _ _) (l1 .nil))) (Seen.tup (e1 (e1 .nil)))
def ref25_Config (s : State) (id_ : Int) : Int := bif ((!(ref25_Run s id_).2) || ((ref25_Check s) != 0)) then 0 else (ref25_Run s id_).1.nodes
theorem ref25_Config_c (s : State) (id_ : Int) (hs0 : s.sz) : ∀ objs, AGives Tryz.prog 17 [State.a s, I id_] objs (U (ref25_Config s id_)) := by
  generalize hR : ref25_Config s id_ = R; refine AGives.any' (.cons (State.low _ _) (l1 .nil)) lx (ACalls.of_cwp (kp 7 [19]) Tryz.func17 rfl rfl ?_); have hk0 := hs0; obtain ⟨z3, z4, z5, z6, z7, z8, z9⟩ : s.nodes.length ≤ 4294967296 ∧ s.jobs.length ≤ 4294967296 ∧ (∀ y ∈ s.jobs, y.sz) ∧ s.resizes.length ≤ 4294967296 ∧ s.books.length ≤ 4294967296 ∧ s.ledger.length ≤ 4294967296 ∧ (∀ y ∈ s.ledger, y.sz) := hs0; (conv => whnf); refine ACalls.use (ref25_Run_c s id_ szA _) ?_; (conv => whnf); (first | apply u2 | apply u3 | apply u4 | apply ACalls.use); exact ref25_Check_c s szA _; (conv => whnf); refine And.intro (fun h1 => ?_) (fun h2 => ?_)
  · (conv => whnf); obtain rfl := foll hR (ct h1 rfl); exact ret_seen lx sr
  · (conv => whnf); obtain rfl := foll hR (cf h2 rfl); exact ret_seen lx sr
end Go.Proofs.YtoionleakeemlaaGreatDoor
namespace Go.Proofs.YtoionleakeemlaaGreatDoor
set_option linter.unusedSimpArgs false
set_option linter.unusedVariables false
open Go.Fw
set_option maxRecDepth 20000
set_option maxHeartbeats 4000000
attribute [local irreducible] ACalls AMoves
def state_Resizing (s : State) (id_ : Int) : Resize × Bool := bif ((decide ((slices_IndexFunc_Resize s.resizes (fun (y : Resize) => (y.job == id_))) < 0)) || ((state_Check s) != 0)) then (Resize.zero, false) else ((s.resizes.getD (Int.toNat (slices_IndexFunc_Resize s.resizes (fun (y : Resize) => (y.job == id_)))) Resize.zero), true)
theorem state_Resizing_c (s : State) (id_ : Int) (hs0 : s.sz) : ∀ objs, AGives Tryz.prog 11 [State.a s, I id_] objs (AVal.tup [Resize.a ((state_Resizing s id_).1), Bo ((state_Resizing s id_).2)]) := by
  generalize hR : state_Resizing s id_ = R; refine AGives.any' (.cons (State.low _ _) (l1 .nil)) (Low.tup' (.cons (Resize.low _ _) (l1 .nil))) (ACalls.of_cwp (kp 7 [17]) Tryz.func11 rfl rfl ?_); have hk0 := hs0; obtain ⟨z7, z8, z9, z10, z11, z12, z13⟩ : s.nodes.length ≤ 4294967296 ∧ s.jobs.length ≤ 4294967296 ∧ (∀ y ∈ s.jobs, y.sz) ∧ s.resizes.length ≤ 4294967296 ∧ s.books.length ≤ 4294967296 ∧ s.ledger.length ≤ 4294967296 ∧ (∀ y ∈ s.ledger, y.sz) := hs0; (conv => whnf); have cl1 : ∀ (y1 : Resize), AMoves Tryz.prog 32 [Resize.a y1, AVal.ptr 0 0 1 0 0] [(0, AObj.row 3 1 [[I id_]])] 1 (Bo ((fun (y : Resize) => (y.job == id_)) y1)) [(0, AObj.row 3 1 [[I id_]])] := by
    intro y1; have hR : (fun (y : Resize) => (y.job == id_)) y1 = (fun (y : Resize) => (y.job == id_)) y1 := rfl; refine AMoves.of_cwp (kp 4 []) Tryz.func32 rfl rfl rfl ?_; (conv => whnf); refine ret_moves (fun r : Bool => Bo r) (fun _ => [(0, AObj.row 3 1 [[I id_]])]) (leaf := (y1.job == id_)) (foll hR rfl) ?_; exact tt [0] (tO rfl (ts (l1 LowL.nil)) .nil) t1
  have hof1 : AMoves Tryz.prog 31 [resizeL s.resizes, AVal.fn (.func 32) [] [AVal.ptr 0 0 1 0 0]] [(0, AObj.row 3 1 [[I id_]])] 1 (I (slices_IndexFunc_Resize s.resizes (fun (y : Resize) => (y.job == id_)))) [(0, AObj.row 3 1 [[I id_]])] := by
    have hR : slices_IndexFunc_Resize s.resizes (fun (y : Resize) => (y.job == id_)) = slices_IndexFunc_Resize s.resizes (fun (y : Resize) => (y.job == id_)) := rfl; refine AMoves.of_cwp (kp 6 [7, 8, 9, 16]) Tryz.func31 rfl rfl rfl ?_; (conv => whnf); refine loop_start1 (fun (i : Nat) => slices_IndexFunc_Resize_g1 (fun (y : Resize) => (y.job == id_)) (List.drop i s.resizes) i = slices_IndexFunc_Resize s.resizes (fun (y : Resize) => (y.job == id_)) ∧ i ≤ s.resizes.length) (fun i => s.resizes.length - i) (fun i => [(0, resizeL s.resizes), (1, AVal.fn (.func 32) [] [AVal.ptr 0 0 1 0 0]), (4, I 0), (7, I (s.resizes.length : Int)), (8, I (i : Int))]) (fun i => [(0, AObj.row 3 1 [[I id_]])]) 0 (wk [0] (tO rfl (ts (l1 LowL.nil)) .nil) (sl lw (sv (turn_fn .nil (cv (turn_ptr 0 rfl rfl) .nil)) (s1 (s1 (s1 .nil)))))) ⟨foll hR rfl, by exact omA⟩ ?_; clear hR; rintro i ⟨hR, hj⟩; (try dsimp only at hR hj); (conv => whnf); refine And.intro (fun h1 => ?_) (fun h2 => ?_)
    · (have hlt : i < s.resizes.length := by have := of_decide_eq_true h1; omega); rw [drop_getD Resize.zero hlt] at hR; (conv => whnf); refine And.intro gkA ?_; (conv => whnf); refine ACalls.use (mv [0] (cl1 (s.resizes.getD i Resize.zero)) (dO (ds (l1 LowL.nil)) .nil) (dl (Resize.low _ _) (dp .nil)) (rO (re (l1 LowL.nil)) .nil) rx) ?_; (conv => whnf); refine And.intro (fun h3 => ?_) (fun h4 => ?_)
      · (conv => whnf); refine ret_moves (fun r : Int => I r) (fun r : Int => [(0, AObj.row 3 1 [[I id_]])]) (leaf := (i : Int)) (foll hR (ct h3 rfl)) ?_; exact tt [0] (tO rfl (ts (l1 LowL.nil)) .nil) t1
      · (conv => whnf); exact loop_next1 (i + 1) (wk [0] (tO rfl (ts (l1 LowL.nil)) .nil) (sl lw (sv (turn_fn .nil (cv (turn_ptr 0 rfl rfl) .nil)) (s1 (s1 (sv (turn_eq (I_eq (wr omA)) lx) .nil)))))) omA ⟨foll hR (cf h4 rfl), by exact omA⟩
    · rw [drop_none (l := s.resizes) (j := i) (by have := of_decide_eq_false h2; omega)] at hR; (conv => whnf); refine ret_moves (fun r : Int => I r) (fun r : Int => [(0, AObj.row 3 1 [[I id_]])]) (leaf := (-1)) (foll hR rfl) ?_; exact tt [0] (tO rfl (ts (l1 LowL.nil)) .nil) t1
  refine ACalls.use (mv [1] (hof1) (dO (ds (l1 LowL.nil)) .nil) (dl lw (dv (dn_fn .nil (dp .nil)) .nil)) (rO (re (l1 LowL.nil)) .nil) rx) ?_; (conv => whnf); (first | apply u2 | apply u3 | apply u4 | apply ACalls.use); exact state_Check_c s szA _; (conv => whnf); refine And.intro (fun h5 => ?_) (fun h6 => ?_)
  · (conv => whnf); obtain rfl := foll hR (ct h5 rfl); exact ret_seen (Low.tup' (.cons (Resize.low _ _) (l1 .nil))) (Seen.tup (e1 (e1 .nil)))
  · (conv => whnf); refine And.intro (by first | exact fun hg => decide_eq_true (by first | (have hp := slices_IndexFunc_Resize_lt s.resizes (fun (y : Resize) => (y.job == id_)); simp only [Bool.or_eq_false_iff, decide_eq_false_iff_not] at *; omega) | exact ckA) | exact gkA) ?_; (conv => whnf); obtain rfl := foll hR (cf h6 rfl); exact ret_seen (Low.tup' (.cons (Resize.low _ _) (l1 .nil))) (Seen.tup (e1 (e1 .nil)))
theorem law25_grown_sz : law25_grown.sz := by
  refine ⟨by decide, by decide, fun y hy => ?_, by decide, by decide, by decide, fun y hy => absurd hy List.not_mem_nil⟩
  rcases List.mem_cons.1 hy with rfl | hy
  · exact ⟨by decide, by decide, by decide, (by decide : (0 : Nat) ≤ 4294967296), by decide⟩
  · exact absurd hy List.not_mem_nil
theorem state_New4_sz : (state_New 4).1.sz := ⟨by decide +kernel, by decide +kernel, fun y hy => absurd (show y ∈ [] from hy) (by simp), by decide +kernel, by decide +kernel, by decide +kernel, fun y hy => absurd (show y ∈ [] from hy) (by simp)⟩
def state_Config (s : State) (id_ : Int) : Int := bif (((!(table_Find s.jobs id_).2) || ((table_Find s.jobs id_).1.state != 2)) || ((state_Check s) != 0)) then 0 else (table_Find s.jobs id_).1.nodes
theorem state_Config_c (s : State) (id_ : Int) (hs0 : s.sz) : ∀ objs, AGives Tryz.prog 16 [State.a s, I id_] objs (U (state_Config s id_)) := by
  generalize hR : state_Config s id_ = R; refine AGives.any' (.cons (State.low _ _) (l1 .nil)) lx (ACalls.of_cwp (kp 7 [25]) Tryz.func16 rfl rfl ?_); have hk0 := hs0; obtain ⟨z3, z4, z5, z6, z7, z8, z9⟩ : s.nodes.length ≤ 4294967296 ∧ s.jobs.length ≤ 4294967296 ∧ (∀ y ∈ s.jobs, y.sz) ∧ s.resizes.length ≤ 4294967296 ∧ s.books.length ≤ 4294967296 ∧ s.ledger.length ≤ 4294967296 ∧ (∀ y ∈ s.ledger, y.sz) := hs0; (conv => whnf); refine ACalls.use (table_Find_c s.jobs id_ szA _) ?_; (conv => whnf); (first | apply u2 | apply u3 | apply u4 | apply ACalls.use); exact state_Check_c s szA _; (conv => whnf); refine And.intro (fun h1 => ?_) (fun h2 => ?_)
  · (conv => whnf); obtain rfl := foll hR (ct h1 rfl); exact ret_seen lx sr
  · (conv => whnf); obtain rfl := foll hR (cf h2 rfl); exact ret_seen lx sr
end Go.Proofs.YtoionleakeemlaaGreatDoor
namespace Go.Proofs.YtoionleakeemlaaGreatDoor
set_option linter.unusedSimpArgs false
set_option linter.unusedVariables false
open Go.Fw
set_option maxRecDepth 20000
set_option maxHeartbeats 4000000
attribute [local irreducible] ACalls AMoves
def law25_awake  : Bool := ((((((((((((state_New 4).2 == 0) && ((((state_New 4).1.nodes).length : Int) == 4)) && ((state_New 4).1.nextJob == 1)) && ((state_Check ((state_New 4).1)) == 0)) && ((state_Check law25_grown) == 0)) && ((state_Check { law25_grown with jobs := (law25_grown.jobs.set 0 { (law25_grown.jobs.getD 0 Job.zero) with nodes := 1 }) }) == 141)) && ((state_Check State.zero) == 141)) && (state_Same law25_grown law25_grown)) && ((state_Config law25_grown 5) == 3)) && ((state_Resizing law25_grown 5).1.nodes == 4)) && (state_Resizing law25_grown 5).2)
theorem law25_awake_c  : ∀ objs, AGives Tryz.prog 8 [] objs (Bo law25_awake) := by
  generalize hR : law25_awake = R; refine AGives.any' .nil lx (ACalls.of_cwp (kp 8 []) Tryz.func8 rfl rfl ?_); have hl : law25_grown.jobs.length = 1 := rfl; (conv => whnf); refine ACalls.use (state_New_c 4 _) ?_; (conv => whnf); refine ACalls.use (law25_grown_c _) ?_; (conv => whnf); refine ACalls.use (mv [] (state_Copy_o law25_grown (by first | (exact law25_grown_sz) | first | (exact state_New4_sz) | first | ((refine ⟨by decide +kernel, by decide +kernel, fun y hy => ?_, by decide +kernel, by decide +kernel, by decide +kernel, fun y hy => absurd hy List.not_mem_nil⟩; rcases List.mem_cons.1 hy with rfl | hy; exact ⟨by decide +kernel, by decide +kernel, by decide +kernel, (by decide : (0 : Nat) ≤ 4294967296), by decide +kernel⟩; exact absurd hy List.not_mem_nil)) | exact szA)) .nil (dv (dn_low (Low.agg' (State.lo))) .nil) (rO rr (rO rr (rO rr (rO rr (rO rr .nil))))) (ren_agg (r1 (.cons _ _ _ _ (rw_ 2 0 rfl) (.cons _ _ _ _ (rw_ 3 0 rfl) (.cons _ _ _ _ (rw_ 4 0 rfl) (.cons _ _ _ _ (rw_ 5 0 rfl) (.cons _ _ _ _ (rw_ 6 0 rfl) (r1 (r1 .nil)))))))))) ?_; (conv => whnf); refine ACalls.use (state_Resizing_c law25_grown 5 (by first | (exact law25_grown_sz) | first | (exact state_New4_sz) | first | ((refine ⟨by decide +kernel, by decide +kernel, fun y hy => ?_, by decide +kernel, by decide +kernel, by decide +kernel, fun y hy => absurd hy List.not_mem_nil⟩; rcases List.mem_cons.1 hy with rfl | hy; exact ⟨by decide +kernel, by decide +kernel, by decide +kernel, (by decide : (0 : Nat) ≤ 4294967296), by decide +kernel⟩; exact absurd hy List.not_mem_nil)) | exact szA) _) ?_; (conv => whnf); refine ACalls.use (mv [] (law25_grown_o) .nil .nil (rO rr (rO rr (rO rr (rO rr (rO rr .nil))))) (ren_agg (r1 (.cons _ _ _ _ (rw_ 9 0 rfl) (.cons _ _ _ _ (rw_ 10 0 rfl) (.cons _ _ _ _ (rw_ 11 0 rfl) (.cons _ _ _ _ (rw_ 12 0 rfl) (.cons _ _ _ _ (rw_ 13 0 rfl) (r1 (r1 .nil)))))))))) ?_; (conv => whnf); refine And.intro gkA ?_; (conv => whnf); refine ⟨_, evalOp_store rfl rfl rfl rfl (elemI_at Job.zero 0 (by first | rfl | omega) ckA) rfl rfl (set_map 0 { (law25_grown.jobs.getD 0 Job.zero) with nodes := 1 } (by first | rfl | omega) rfl), ?_⟩; (conv => whnf); (first | apply u2 | apply u3 | apply u4 | apply ACalls.use); exact state_Check_c ((state_New 4).1) (by first | (exact law25_grown_sz) | first | (exact state_New4_sz) | first | ((refine ⟨by decide +kernel, by decide +kernel, fun y hy => ?_, by decide +kernel, by decide +kernel, by decide +kernel, fun y hy => absurd hy List.not_mem_nil⟩; rcases List.mem_cons.1 hy with rfl | hy; exact ⟨by decide +kernel, by decide +kernel, by decide +kernel, (by decide : (0 : Nat) ≤ 4294967296), by decide +kernel⟩; exact absurd hy List.not_mem_nil)) | exact szA) _; (conv => whnf); (first | apply u2 | apply u3 | apply u4 | apply ACalls.use); exact state_Check_c law25_grown (by first | (exact law25_grown_sz) | first | (exact state_New4_sz) | first | ((refine ⟨by decide +kernel, by decide +kernel, fun y hy => ?_, by decide +kernel, by decide +kernel, by decide +kernel, fun y hy => absurd hy List.not_mem_nil⟩; rcases List.mem_cons.1 hy with rfl | hy; exact ⟨by decide +kernel, by decide +kernel, by decide +kernel, (by decide : (0 : Nat) ≤ 4294967296), by decide +kernel⟩; exact absurd hy List.not_mem_nil)) | exact szA) _; (conv => whnf); (first | apply u2 | apply u3 | apply u4 | apply ACalls.use); exact AGives.lent (state_Check_c { law25_grown with jobs := (law25_grown.jobs.set 0 { (law25_grown.jobs.getD 0 Job.zero) with nodes := 1 }) } (by first | (exact law25_grown_sz) | first | (exact state_New4_sz) | first | ((refine ⟨by decide +kernel, by decide +kernel, fun y hy => ?_, by decide +kernel, by decide +kernel, by decide +kernel, fun y hy => absurd hy List.not_mem_nil⟩; rcases List.mem_cons.1 hy with rfl | hy; exact ⟨by decide +kernel, by decide +kernel, by decide +kernel, (by decide : (0 : Nat) ≤ 4294967296), by decide +kernel⟩; exact absurd hy List.not_mem_nil)) | exact szA) []) (ev (Seen.agg (e1 (ev (seen_list _ _ rfl eqA lnA) (ev (seen_list _ _ rfl eqA lnA) (ev (seen_list _ _ rfl eqA lnA) (ev (seen_list _ _ rfl eqA lnA) (ev (seen_list _ _ rfl eqA lnA) (e1 (e1 .nil))))))))) .nil) (.cons (State.low _ _) .nil) (bare2_sound rfl); (conv => whnf); (first | apply u2 | apply u3 | apply u4 | apply ACalls.use); exact AGives.as2 (state_Check_c State.zero (by first | (exact law25_grown_sz) | first | (exact state_New4_sz) | first | ((refine ⟨by decide +kernel, by decide +kernel, fun y hy => ?_, by decide +kernel, by decide +kernel, by decide +kernel, fun y hy => absurd hy List.not_mem_nil⟩; rcases List.mem_cons.1 hy with rfl | hy; exact ⟨by decide +kernel, by decide +kernel, by decide +kernel, (by decide : (0 : Nat) ≤ 4294967296), by decide +kernel⟩; exact absurd hy List.not_mem_nil)) | exact szA) _) (av (as_agg (a1 (av (as_nil) (av (as_nil) (av (as_nil) (av (as_nil) (av (as_nil) (a1 (a1 .nil))))))))) .nil); (conv => whnf); (first | apply u2 | apply u3 | apply u4 | apply ACalls.use); exact AGives.lent (state_Same_c law25_grown law25_grown (by first | (exact law25_grown_sz) | first | (exact state_New4_sz) | first | ((refine ⟨by decide +kernel, by decide +kernel, fun y hy => ?_, by decide +kernel, by decide +kernel, by decide +kernel, fun y hy => absurd hy List.not_mem_nil⟩; rcases List.mem_cons.1 hy with rfl | hy; exact ⟨by decide +kernel, by decide +kernel, by decide +kernel, (by decide : (0 : Nat) ≤ 4294967296), by decide +kernel⟩; exact absurd hy List.not_mem_nil)) | exact szA) (by first | (exact law25_grown_sz) | first | (exact state_New4_sz) | first | ((refine ⟨by decide +kernel, by decide +kernel, fun y hy => ?_, by decide +kernel, by decide +kernel, by decide +kernel, fun y hy => absurd hy List.not_mem_nil⟩; rcases List.mem_cons.1 hy with rfl | hy; exact ⟨by decide +kernel, by decide +kernel, by decide +kernel, (by decide : (0 : Nat) ≤ 4294967296), by decide +kernel⟩; exact absurd hy List.not_mem_nil)) | exact szA) []) (e1 (ev (Seen.agg (e1 (ev (seen_list _ _ rfl eqA lnA) (ev (seen_list _ _ rfl eqA lnA) (ev (seen_list _ _ rfl eqA lnA) (ev (seen_list _ _ rfl eqA lnA) (ev (seen_list _ _ rfl eqA lnA) (e1 (e1 .nil))))))))) .nil)) (.cons (State.low _ _) (.cons (State.low _ _) .nil)) (bare2_sound rfl); (conv => whnf); (first | apply u2 | apply u3 | apply u4 | apply ACalls.use); exact state_Config_c law25_grown 5 (by first | (exact law25_grown_sz) | first | (exact state_New4_sz) | first | ((refine ⟨by decide +kernel, by decide +kernel, fun y hy => ?_, by decide +kernel, by decide +kernel, by decide +kernel, fun y hy => absurd hy List.not_mem_nil⟩; rcases List.mem_cons.1 hy with rfl | hy; exact ⟨by decide +kernel, by decide +kernel, by decide +kernel, (by decide : (0 : Nat) ≤ 4294967296), by decide +kernel⟩; exact absurd hy List.not_mem_nil)) | exact szA) _; (conv => whnf); obtain rfl := foll hR rfl; exact ret_seen lx sr
theorem law17_Few_ok : ∀ (l : List Usage) (i : Nat), law17_Few_g1 l i = true → ∀ y ∈ l, y.sz
  | [], _, _, y, hy => nomatch hy
  | x :: r, i, h, y, hy => by
    rw [law17_Few_g1] at h
    cases hc : ((decide ((ByteArray.size x.user : Int) > 1000)) || (decide ((ByteArray.size x.account : Int) > 1000))) with
    | true => rw [hc] at h; cases h
    | false =>
      rw [hc] at h
      rcases List.mem_cons.1 hy with rfl | hy
      · simp only [Bool.or_eq_false_iff, decide_eq_false_iff_not] at hc
        exact ⟨by omega, by omega⟩
      · exact law17_Few_ok r (i + 1) h y hy
theorem law14_Few_sz {j : Job} (h : law14_Few j = true) : j.sz := by
  simp only [law14_Few, law07_Few, Bool.and_eq_true, decide_eq_true_eq] at h
  exact ⟨by omega, by omega, by omega, by show j.shape.alts.length ≤ _; omega, by omega⟩
theorem law15_Few_ok : ∀ (l : List Job) (i : Nat), law15_Few_g1 l i = true → ∀ y ∈ l, y.sz
  | [], _, _, y, hy => nomatch hy
  | x :: r, i, h, y, hy => by
    rw [law15_Few_g1] at h
    cases hc : law14_Few x with
    | false => rw [hc] at h; cases h
    | true =>
      rw [hc] at h
      rcases List.mem_cons.1 hy with rfl | hy
      · exact law14_Few_sz hc
      · exact law15_Few_ok r (i + 1) h y hy
theorem law20_Few_sz {s : State} (h : law20_Few s = true) : s.sz := by
  simp only [law20_Few, law12_Few, law15_Few, law19_Few, law17_Few, Bool.and_eq_true, decide_eq_true_eq] at h
  obtain ⟨⟨⟨⟨h1, h2⟩, h3⟩, h4⟩, h5⟩ := h
  cases hj : decide ((s.jobs.length : Int) > 60) with
  | true => rw [hj] at h2; cases h2
  | false =>
    cases hl : decide ((s.ledger.length : Int) > 300) with
    | true => rw [hl] at h4; cases h4
    | false =>
      rw [hj] at h2
      rw [hl] at h4
      have qj := of_decide_eq_false hj
      have ql := of_decide_eq_false hl
      exact ⟨by omega, by omega, law15_Few_ok _ _ h2, by omega, by omega, by omega, law17_Few_ok _ _ h4⟩
end Go.Proofs.YtoionleakeemlaaGreatDoor
namespace Go.Proofs.YtoionleakeemlaaGreatDoor
set_option linter.unusedSimpArgs false
set_option linter.unusedVariables false
open Go.Fw
set_option maxRecDepth 20000
set_option maxHeartbeats 4000000
attribute [local irreducible] ACalls AMoves
theorem new_go (n : Int) : ∀ (m : Nat) (out : List Node) (i : Nat), (i : Int) ≤ n → (n - (i : Int)).toNat < m → (ref12_New_g1 n m out i).1 = out ++ List.replicate (n - (i : Int)).toNat Node.zero
  | 0, _, _, _, h => absurd h (by omega)
  | m + 1, out, i, hi, hm => by
    rw [ref12_New_g1]
    rcases Int.lt_or_le (i : Int) n with h | h
    · rw [decide_eq_true h]
      simp only [cond_true]
      rw [new_go n m _ (i + 1) (by omega) (by omega)]
      have e : (n - (i : Int)).toNat = (n - ((i + 1 : Nat) : Int)).toNat + 1 := by omega
      rw [e, List.replicate_succ, List.append_assoc]
      rfl
    · rw [decide_eq_false (by omega)]
      have e : (n - (i : Int)).toNat = 0 := by omega
      rw [e]
      simp
theorem new_eq (n : Int) : state_New n = ref25_New n := by
  have hf : fleet_New n = ref12_New n := by
    unfold fleet_New ref12_New
    cases hc : ((decide (n < 1)) || (decide (n > 48))) with
    | true => rfl
    | false =>
      have h1 := of_decide_eq_false (show decide (n < 1) = false by simp only [Bool.or_eq_false_iff] at hc; exact hc.1)
      simp only [cond_false]
      unfold ref12_New_k1
      rw [new_go n _ [] 0 (by omega) (by omega)]
      simp
  unfold state_New ref25_New
  rw [hf]
theorem state_New_sz (n : Int) : (state_New n).1.sz := by
  unfold state_New
  cases hc : ((fleet_New n).2 != 0) with
  | true => exact State.szz _
  | false =>
    refine ⟨?_, Nat.zero_le _, fun y hy => (nomatch hy), Nat.zero_le _, Nat.zero_le _, Nat.zero_le _, fun y hy => (nomatch hy)⟩
    show (fleet_New n).1.length ≤ 4294967296
    unfold fleet_New
    cases hd : ((decide (n < 1)) || (decide (n > 48))) with
    | true => exact Nat.zero_le _
    | false =>
      have h : decide (n > 48) = false := by simp only [Bool.or_eq_false_iff] at hd; exact hd.2
      have h := of_decide_eq_false h
      show (List.replicate (Int.toNat n) Node.zero).length ≤ 4294967296
      rw [List.length_replicate]
      omega
theorem ref25_New_sz (n : Int) : (ref25_New n).1.sz := by rw [← new_eq]; exact state_New_sz n
def law25_StateChecks (s : State) (id_ : Int) : Bool := bif (!(law20_Few s)) then law25_awake else ((((((((state_Check s) == (ref25_Check s)) && (ref25_Same ((state_New id_).1) ((ref25_New id_).1))) && ((state_New id_).2 == (ref25_New id_).2)) && (((state_Resizing s id_).1.job == (ref25_Resizing s id_).1.job) && (((state_Resizing s id_).1.grow == (ref25_Resizing s id_).1.grow) && (((state_Resizing s id_).1.nodes == (ref25_Resizing s id_).1.nodes) && (((state_Resizing s id_).1.said == (ref25_Resizing s id_).1.said) && ((state_Resizing s id_).1.since == (ref25_Resizing s id_).1.since)))))) && ((state_Resizing s id_).2 == (ref25_Resizing s id_).2)) && ((state_Config s id_) == (ref25_Config s id_))) && law25_awake)
theorem law25_StateChecks_c (s : State) (id_ : Int) (hs0 : s.szM) : ∀ objs, AGives Tryz.prog 3 [State.a s, I id_] objs (Bo (law25_StateChecks s id_)) := by
  generalize hR : law25_StateChecks s id_ = R; refine AGives.any' (.cons (State.low _ _) (l1 .nil)) lx (ACalls.of_cwp (kp 13 [15]) Tryz.func3 rfl rfl ?_); have hk0 := hs0; obtain ⟨z3, z4, z5, z6, z7, z8, z9⟩ : s.nodes.length ≤ 9223372036854775807 ∧ s.jobs.length ≤ 9223372036854775807 ∧ (∀ y ∈ s.jobs, y.szM) ∧ s.resizes.length ≤ 9223372036854775807 ∧ s.books.length ≤ 9223372036854775807 ∧ s.ledger.length ≤ 9223372036854775807 ∧ (∀ y ∈ s.ledger, y.szM) := hs0; (conv => whnf); refine ACalls.use (law20_Few_c s (by first | exact state_New_sz _ | exact ref25_New_sz _ | exact law20_Few_sz (by simpa using h2) | exact szA) _) ?_; (conv => whnf); refine And.intro (fun h1 => ?_) (fun h2 => ?_)
  · (conv => whnf); refine ACalls.use (law25_awake_c _) ?_; (conv => whnf); obtain rfl := foll hR (ct h1 rfl); exact ret_seen lx sr
  · (conv => whnf); refine ACalls.use (state_New_c id_ _) ?_; (conv => whnf); refine ACalls.use (ref25_New_c id_ _) ?_; (conv => whnf); refine ACalls.use (state_Resizing_c s id_ (by first | exact state_New_sz _ | exact ref25_New_sz _ | exact law20_Few_sz (by simpa using h2) | exact szA) _) ?_; (conv => whnf); refine ACalls.use (ref25_Resizing_c s id_ (by first | exact state_New_sz _ | exact ref25_New_sz _ | exact law20_Few_sz (by simpa using h2) | exact szA) _) ?_; (conv => whnf); refine dchk (by kernel_rfl) ?_; (conv => whnf); (first | apply u2 | apply u3 | apply u4 | apply ACalls.use); exact state_Check_c s (by first | exact state_New_sz _ | exact ref25_New_sz _ | exact law20_Few_sz (by simpa using h2) | exact szA) _; (conv => whnf); (first | apply u2 | apply u3 | apply u4 | apply ACalls.use); exact ref25_Check_c s (by first | exact state_New_sz _ | exact ref25_New_sz _ | exact law20_Few_sz (by simpa using h2) | exact szA) _; (conv => whnf); (first | apply u3g | apply u4g); exact fun hg => ref25_Same_c ((state_New id_).1) ((ref25_New id_).1) (by first | exact state_New_sz _ | exact ref25_New_sz _ | exact law20_Few_sz (by simpa using h2) | exact szA) (by first | exact state_New_sz _ | exact ref25_New_sz _ | exact law20_Few_sz (by simpa using h2) | exact szA) _; (conv => whnf); refine And.intro (fun _ => (by kernel_rfl : eqOK _ _ = true)) ?_; (conv => whnf); (first | apply u3g | apply u4g); exact fun hg => state_Config_c s id_ (by first | exact state_New_sz _ | exact ref25_New_sz _ | exact law20_Few_sz (by simpa using h2) | exact szA) _; (conv => whnf); (first | apply u3g | apply u4g); exact fun hg => ref25_Config_c s id_ (by first | exact state_New_sz _ | exact ref25_New_sz _ | exact law20_Few_sz (by simpa using h2) | exact szA) _; (conv => whnf); (first | apply u3g | apply u4g); exact fun hg => law25_awake_c _; (conv => whnf); (repeat ((first | refine And.intro rfl ?_ | refine And.intro (fun _ => rfl) ?_ | refine And.intro (fun _ => state_Check_c s (by first | exact state_New_sz _ | exact ref25_New_sz _ | exact law20_Few_sz (by simpa using h2) | exact szA) _) ?_ | refine And.intro (fun _ => ref25_Check_c s (by first | exact state_New_sz _ | exact ref25_New_sz _ | exact law20_Few_sz (by simpa using h2) | exact szA) _) ?_ | refine And.intro (fun _ => ref25_Same_c ((state_New id_).1) ((ref25_New id_).1) (by first | exact state_New_sz _ | exact ref25_New_sz _ | exact law20_Few_sz (by simpa using h2) | exact szA) (by first | exact state_New_sz _ | exact ref25_New_sz _ | exact law20_Few_sz (by simpa using h2) | exact szA) _) ?_ | refine And.intro (fun _ => state_Config_c s id_ (by first | exact state_New_sz _ | exact ref25_New_sz _ | exact law20_Few_sz (by simpa using h2) | exact szA) _) ?_ | refine And.intro (fun _ => ref25_Config_c s id_ (by first | exact state_New_sz _ | exact ref25_New_sz _ | exact law20_Few_sz (by simpa using h2) | exact szA) _) ?_ | refine And.intro (fun _ => law25_awake_c _) ?_); conv => whnf)); obtain rfl := foll hR (cf h2 rfl); exact ret_seen lx sr
end Go.Proofs.YtoionleakeemlaaGreatDoor
namespace Go.Fw
set_option linter.unusedSimpArgs false
set_option linter.unusedVariables false
theorem or_f {a b : Bool} (h : (a || b) = false) : a = false ∧ b = false := by simpa using h
def U64 (x : Int) : Prop := 0 ≤ x ∧ x < 18446744073709551616
def tb (x : Int) (k : Nat) : Bool := x.toNat.testBit k
theorem wu64_eq (n : Int) : wu64 n = n % 18446744073709551616 := by simp [IntKind.wrap, IntKind.bits, IntKind.signed]
theorem wu64_id {n : Int} (h : U64 n) : wu64 n = n := by rw [wu64_eq]; unfold U64 at h; omega
theorem wu64_U (n : Int) : U64 (wu64 n) := by rw [wu64_eq]; unfold U64; omega
theorem U64.zero : U64 0 := ⟨by decide, by decide⟩
theorem wu64_bv (b : BitVec 64) : wu64 (b.toNat : Int) = (b.toNat : Int) := wu64_id ⟨by omega, by have := b.isLt; omega⟩
theorem tb_bv (b : BitVec 64) (k : Nat) : tb (wu64 (b.toNat : Int)) k = b.getLsbD k := by
  rw [wu64_bv, tb, Int.toNat_natCast, BitVec.testBit_toNat]
theorem tb_high {x : Int} (h : U64 x) {k : Nat} (hk : 64 ≤ k) : tb x k = false := by
  unfold tb U64 at *
  refine Nat.testBit_lt_two_pow (Nat.lt_of_lt_of_le (m := 2 ^ 64) (by omega) (Nat.pow_le_pow_right (by decide) hk))
theorem bit_ofInt {x : Int} (h : U64 x) (k : Nat) : (BitVec.ofInt 64 x).getLsbD k = tb x k := by
  have e : (BitVec.ofInt 64 x).toNat = x.toNat := by
    rw [BitVec.toNat_ofInt]
    unfold U64 at h
    have : x % (2 ^ 64 : Nat) = x := Int.emod_eq_of_lt h.1 (by simpa using h.2)
    rw [this]
  rw [← BitVec.testBit_toNat, e]
  rfl
theorem tb_and {x y : Int} (hx : U64 x) (hy : U64 y) (k : Nat) : tb (wu64 ((BitVec.ofInt 64 x &&& BitVec.ofInt 64 y).toNat : Int)) k = (tb x k && tb y k) := by
  rw [tb_bv, BitVec.getLsbD_and, bit_ofInt hx, bit_ofInt hy]
theorem tb_or {x y : Int} (hx : U64 x) (hy : U64 y) (k : Nat) : tb (wu64 ((BitVec.ofInt 64 x ||| BitVec.ofInt 64 y).toNat : Int)) k = (tb x k || tb y k) := by
  rw [tb_bv, BitVec.getLsbD_or, bit_ofInt hx, bit_ofInt hy]
theorem tb_andnot {x y : Int} (hx : U64 x) (hy : U64 y) (k : Nat) : tb (wu64 ((BitVec.ofInt 64 x &&& ~~~(BitVec.ofInt 64 y)).toNat : Int)) k = (tb x k && !tb y k) := by
  rw [tb_bv, BitVec.getLsbD_and, BitVec.getLsbD_not, bit_ofInt hx, bit_ofInt hy]
  rcases Nat.lt_or_ge k 64 with h | h
  · simp [h]
  · simp [tb_high hx h]
theorem tb_ext {x y : Int} (hx : U64 x) (hy : U64 y) (h : ∀ k, k < 64 → tb x k = tb y k) : x = y := by
  have : x.toNat = y.toNat := by
    refine Nat.eq_of_testBit_eq fun k => ?_
    rcases Nat.lt_or_ge k 64 with hk | hk
    · exact h k hk
    · exact (tb_high hx hk).trans (tb_high hy hk).symm
  unfold U64 at hx hy
  omega
theorem tb_zero (k : Nat) : tb 0 k = false := by simp [tb]
theorem eq_zero_iff {x : Int} (hx : U64 x) : (x == 0) = true ↔ ∀ k, k < 64 → tb x k = false := by
  rw [beq_iff_eq]
  refine ⟨fun h k _ => by rw [h]; exact tb_zero k, fun h => tb_ext hx .zero fun k hk => by rw [h k hk, tb_zero]⟩
theorem ne_zero_iff {x : Int} (hx : U64 x) : (x != 0) = true ↔ ∃ k, k < 64 ∧ tb x k = true := by
  rw [bne_iff_ne]
  constructor
  · intro h
    apply Classical.byContradiction
    intro hn
    refine h (beq_iff_eq.1 ((eq_zero_iff hx).2 fun k hk => ?_))
    cases hb : tb x k with
    | false => rfl
    | true => exact (hn ⟨k, hk, hb⟩).elim
  · rintro ⟨k, _, hb⟩ e
    rw [e, tb_zero] at hb
    cases hb
theorem two_pow_cast (k : Nat) : ∃ m : Nat, (2 : Int) ^ k = (m : Int) ∧ 2 ^ k = m := ⟨2 ^ k, by simp, rfl⟩
theorem pow64 : (2 : Nat) ^ 64 = 18446744073709551616 := by decide
theorem pow_U {k : Nat} (hk : k < 64) : U64 ((2 : Int) ^ k) := by
  have h1 : (2 : Nat) ^ k < 2 ^ 64 := Nat.pow_lt_pow_right (by decide) hk
  rw [pow64] at h1
  obtain ⟨m, e, e'⟩ := two_pow_cast k
  rw [e]
  unfold U64
  omega
theorem tb_pow (k j : Nat) : tb ((2 : Int) ^ k) j = decide (k = j) := by
  have e : (2 : Int) ^ k = ((2 ^ k : Nat) : Int) := by simp
  rw [tb, e, Int.toNat_natCast, Nat.testBit_two_pow]
def bitsUpto (p : Nat → Bool) : Nat → Int
  | 0 => 0
  | n + 1 => bif p n then bitsUpto p n + 2 ^ n else bitsUpto p n
theorem bitsUpto_lt (p : Nat → Bool) : ∀ n, 0 ≤ bitsUpto p n ∧ bitsUpto p n < 2 ^ n
  | 0 => ⟨by simp [bitsUpto], by simp [bitsUpto]⟩
  | n + 1 => by
    have := bitsUpto_lt p n
    have e : (2 : Int) ^ (n + 1) = 2 * 2 ^ n := by rw [Int.pow_succ]; omega
    rw [bitsUpto]
    cases p n <;> simp only [cond_true, cond_false] <;> omega
theorem bitsUpto_U (p : Nat → Bool) {n : Nat} (hn : n ≤ 64) : U64 (bitsUpto p n) := by
  have := bitsUpto_lt p n
  have h1 : (2 : Nat) ^ n ≤ 2 ^ 64 := Nat.pow_le_pow_right (by decide) hn
  rw [pow64] at h1
  obtain ⟨m, e, e'⟩ := two_pow_cast n
  unfold U64
  omega
theorem tb_upto (p : Nat → Bool) : ∀ n k, tb (bitsUpto p n) k = (decide (k < n) && p k)
  | 0, k => by simp [bitsUpto, tb_zero]
  | n + 1, k => by
    have hl := bitsUpto_lt p n
    have ih := tb_upto p n k
    obtain ⟨m, e, e'⟩ := two_pow_cast n
    have hlt : (bitsUpto p n).toNat < 2 ^ n := by omega
    rw [bitsUpto]
    cases hp : p n with
    | false =>
      simp only [cond_false]
      rw [ih]
      rcases Nat.lt_trichotomy k n with h | h | h
      · simp [h, Nat.lt_succ_of_lt h]
      · subst h; simp [hp]
      · simp [show ¬ k < n by omega, show ¬ k < n + 1 by omega]
    | true =>
      simp only [cond_true]
      have et : (bitsUpto p n + 2 ^ n).toNat = 2 ^ n + (bitsUpto p n).toNat := by omega
      unfold tb at ih ⊢
      rw [et]
      rcases Nat.lt_trichotomy k n with h | h | h
      · rw [Nat.testBit_two_pow_add_gt h, ih]
        simp [h, Nat.lt_succ_of_lt h]
      · subst h
        rw [Nat.testBit_two_pow_add_eq, Nat.testBit_lt_two_pow hlt]
        simp [hp]
      · have : 2 ^ n + (bitsUpto p n).toNat < 2 ^ k := by
          have : (2 : Nat) ^ (n + 1) ≤ 2 ^ k := Nat.pow_le_pow_right (by decide) h
          rw [Nat.pow_succ] at this
          omega
        rw [Nat.testBit_lt_two_pow this]
        simp [show ¬ k < n + 1 by omega]
def idxL {α : Type} (f : Nat → α → Bool) : List α → Nat → List Int
  | [], _ => []
  | x :: r, i => bif f i x then (i : Int) :: idxL f r (i + 1) else idxL f r (i + 1)
def hasB {α : Type} (f : Nat → α → Bool) (l : List α) (i k : Nat) : Bool := decide (i ≤ k) && (match l[k - i]? with | some x => f k x | none => false)
theorem hasB_nil {α : Type} (f : Nat → α → Bool) (i k : Nat) : hasB f [] i k = false := by simp [hasB]
theorem hasB_cons {α : Type} (f : Nat → α → Bool) (x : α) (r : List α) (i k : Nat) : hasB f (x :: r) i k = ((decide (k = i) && f i x) || hasB f r (i + 1) k) := by
  unfold hasB
  rcases Nat.lt_trichotomy k i with h | h | h
  · simp [show ¬ i ≤ k by omega, show ¬ i + 1 ≤ k by omega, show ¬ k = i by omega]
  · subst h; simp [show ¬ k + 1 ≤ k by omega]
  · have e : k - i = (k - (i + 1)) + 1 := by omega
    simp [show i ≤ k by omega, show i + 1 ≤ k by omega, show ¬ k = i by omega, e]
theorem hasB_zero {α : Type} (f : Nat → α → Bool) (d : α) (l : List α) (k : Nat) : hasB f l 0 k = (decide (k < l.length) && f k (l.getD k d)) := by
  unfold hasB
  rcases Nat.lt_or_ge k l.length with h | h
  · simp [h, List.getD]
  · simp [Nat.not_lt.2 h, List.getElem?_eq_none h]
theorem idx_loop {α : Type} (f : Nat → α → Bool) (G : List α → List Int → Nat → List Int) (h0 : ∀ out i, G [] out i = out) (h1 : ∀ x r out i, G (x :: r) out i = bif f i x then G r (out ++ [(i : Int)]) (i + 1) else G r out (i + 1)) : ∀ (l : List α) (out : List Int) (i : Nat), G l out i = out ++ idxL f l i
  | [], out, i => by rw [h0, idxL, List.append_nil]
  | x :: r, out, i => by
    rw [h1, idxL]
    cases f i x with
    | true => simp only [cond_true]; rw [idx_loop f G h0 h1 r]; simp
    | false => simp only [cond_false]; exact idx_loop f G h0 h1 r out (i + 1)
end Go.Fw
namespace Go.Fw
set_option linter.unusedSimpArgs false
set_option linter.unusedVariables false
open Go.RowKit Go.ChangeShapes Go.WideShapes Go.Deep
theorem law_lifted_laid {C : Checked} {os : Os} {f : FuncId} {fn : Func} {s : ChangeSpec} {laid0 : List (String × DataW Unit)} {conds : List PathCond} {apart fresh handsOn again : Bool} {H : Type} {enc : TypeId × Value → H} {Q : List AVal → Prop} {tb : TypeId}
    (own : ownKnob C.prog.godebug = none) (started : os.Started) (noInit : C.prog.inits.idxOf? f = none) (hfn : C.prog.funcs[f]? = some fn)
    (witness : ∃ (w : World) (tape : Tape) (i : Input), w.os = os ∧ (w.forCall tape i).Shaped C.prog ∧ i.vars = [] ∧ Input.okWide C.prog (w.forCall tape i) .any w.heap.size f i ∧
      ((s.pre enc C.prog fn conds apart (w.forCall tape i).memory i.args ∧ laidMetH C.prog laid0 (w.forCall tape i).memory) ∧ sizedMet enc C.prog fn (OpenSpec.ofChange s) apart (w.forCall tape i).memory i.args) ∧ ({} : Assume).holds C.prog (lone (Frame.enter C.prog f i.args .normal) [] (w.forCall tape i)))
    (hvars : s.vars = []) (hres : fn.resultTypes = #[tb]) (hbool : C.prog.underlying tb = some .bool) (laid : laidOutB C.prog = true)
    (hts : fn.params.toList.all (fun t => C.prog.readableRec t && decide (t < C.prog.types.size)) = true)
    (hspec : ∀ ds : List (DataW H), ds.length = fn.params.size → s.fn H ds = { results := [.lit (.bool true)], args := ds })
    (hargs : ArgsAs C.prog fn.params.toList Q) (hlaw : ∀ l, Q l → AGives C.prog f l [] (.lit (.bool true))) :
    ReturnsInHanded {} C os f .any (fun w args => (s.pre enc C.prog fn conds apart w args ∧ laidMetH C.prog laid0 w) ∧ sizedMet enc C.prog fn (OpenSpec.ofChange s) apart w args) (s.post enc C.prog fn apart fresh handsOn again) := by
  refine returnsInHanded_of_change_and (X := fun w _ => laidMetH C.prog laid0 w) (fun _ _ _ hh h => h.of_heap hh) own started noInit hfn witness ?_
  intro W base args ds gs before hval hW hcnd _ _ _
  have hW' := hW
  obtain ⟨p, q, hA, hV, hpq, hfz, hnd⟩ := hW
  rw [hvars] at hV
  obtain ⟨rfl, rfl⟩ := trodVars_none hV
  rw [List.append_nil] at hpq
  subst hpq
  obtain ⟨l, hQ, hreps⟩ := hargs.read (base := base) (vs := args.toList) (fun j t v hj hv => hval j t v (by simpa using hj) (by simpa using hv)) hA
  have hc := law_calls (hlaw l hQ) hreps
  rw [show args.toList.toArray = args by simp] at hc
  refine hc.mono fun e W' ⟨he, hb⟩ => ?_
  subst he
  have hlen : ds.length = fn.params.size := by
    have : ∀ {ts : List TypeId} {vs : List Value} {ds : List (DataW H)} {ps : List MemPlace}, DataW.TrodAll enc C.prog W 0 (fun _ => true) true ts vs ds ps → ds.length = ts.length := by
      intro ts
      induction ts with
      | nil => intro vs ds ps h; obtain ⟨rfl, rfl, rfl⟩ := trodAll_nil h; rfl
      | cons t ts ih => intro vs ds ps h; obtain ⟨v, vs', d, ds', p, q, rfl, rfl, rfl, hd, hrest⟩ := trodAll_cons h; simp [ih hrest]
    simpa using this hA
  have hfn2 := hspec ds hlen
  have hold : ∀ p ∈ before, p.block < W.heap.size := fun p hp => by simpa using hW'.lt p hp
  have hR : ∀ (b : Nat) (sp : Nat → Bool) (hd : Bool), DataW.TrodAll enc C.prog W' b sp hd fn.resultTypes.toList ((Value.bool true).resultList fn.resultTypes.size) (s.fn H (ds ++ [])).results [] := by
    intro b sp hd
    rw [List.append_nil, hfn2, hres]
    exact trodAll_cons_mk (shut_bool hbool _) trodAll_mk0
  have hAr : ∀ sp : Nat → Bool, (∀ p ∈ before, sp p.block = true) → DataW.TrodAll enc C.prog W' 0 sp true fn.params.toList args.toList (s.fn H (ds ++ [])).args before := by
    intro sp hsp
    rw [List.append_nil, hfn2]
    exact trodAll_below laid hb hts hA hold hsp
  have hVr : ∀ sp : Nat → Bool, DataW.TrodVars enc C.prog W' sp s.vars (s.fn H (ds ++ [])).vars [] := by
    intro sp
    rw [List.append_nil, hfn2, hvars]
    rfl
  refine ⟨_, rfl, ds, [], before, [], before, [], hW', hR _ _ _, hAr _ (fun p hp => by simpa using hold p hp), hVr _, hb.frame _, fun _ => ⟨ok_one hres rfl (okWide_bool_mk hbool _), _, _, ([] ++ before) ++ [], ⟨[] ++ before, [], trodAll_append (hAr _ (fun _ _ => rfl)) (hR _ _ _), hVr _, rfl, ?_, ?_⟩, ?_⟩⟩
  · intro b off hp
    have hp : MemPlace.cell b off ∈ before := by simpa using hp
    rw [hb.frozen (p := ⟨b, off, none⟩) (hold _ hp)]
    exact hfz b off (by simpa using hp)
  · intro ha
    simpa using hnd ha
  · intro p hp _
    simpa using hp
end Go.Fw
namespace Go.Proofs.YtoionleakeemlaaGreatDoor
set_option linter.unusedSimpArgs false
set_option linter.unusedVariables false
open Go.Fw
set_option maxRecDepth 100000
theorem ty3 : Tryz.prog.underlying 36 = some (.int .u64) := by kernel_rfl
theorem ty2 : Tryz.prog.underlying 9 = some (.string) := by kernel_rfl
theorem ty1 : Tryz.prog.underlying 4 = some (.bool) := by kernel_rfl
theorem ty0 : Tryz.prog.underlying 3 = some (.int .i64) := by kernel_rfl
def Node.wf (x : Node) : Prop := (Lit.int .i64 x.state).wf = true ∧ (Lit.int .i64 x.job).wf = true ∧ (Lit.int .i64 x.epoch).wf = true ∧ True ∧ (Lit.int .i64 x.want).wf = true ∧ (Lit.int .i64 x.since).wf = true ∧ (Lit.int .i64 x.asked).wf = true ∧ True
theorem readNode : ReadAs Tryz.prog 48 Node.cells Node.wf := by
  have h := ReadAs.struct (P := Tryz.prog) (t := 48) rfl (by kernel_rfl) (.cons rfl (ReadAs.int ty0) (.cons rfl (ReadAs.int ty0) (.cons rfl (ReadAs.int ty0) (.cons rfl (ReadAs.bool ty1) (.cons rfl (ReadAs.int ty0) (.cons rfl (ReadAs.int ty0) (.cons rfl (ReadAs.int ty0) .nil)))))))
  exact h.map (fun p => (⟨p.1, p.2.1, p.2.2.1, p.2.2.2.1, p.2.2.2.2.1, p.2.2.2.2.2.1, p.2.2.2.2.2.2.1⟩ : Node)) (fun _ => rfl) (fun _ h => h)
theorem readNodes : ReadAs Tryz.prog 22 (fun l => [nodeL l]) fun l => l.length ≤ maxLen ∧ ∀ a ∈ l, Node.wf a :=
  ReadAs.slice Node.zero rfl (by kernel_rfl) (by decide) readNode (fun _ => rfl)
def Alt.wf (x : Alt) : Prop := (Lit.int .i64 x.nodes).wf = true ∧ (Lit.int .i64 x.wall).wf = true ∧ True
theorem readAlt : ReadAs Tryz.prog 56 Alt.cells Alt.wf := by
  have h := ReadAs.struct (P := Tryz.prog) (t := 56) rfl (by kernel_rfl) (.cons rfl (ReadAs.int ty0) (.cons rfl (ReadAs.int ty0) .nil))
  exact h.map (fun p => (⟨p.1, p.2.1⟩ : Alt)) (fun _ => rfl) (fun _ h => h)
theorem readAlts : ReadAs Tryz.prog 49 (fun l => [altL l]) fun l => l.length ≤ maxLen ∧ ∀ a ∈ l, Alt.wf a :=
  ReadAs.slice Alt.zero rfl (by kernel_rfl) (by decide) readAlt (fun _ => rfl)
def Shape.wf (x : Shape) : Prop := (Lit.int .i64 x.kind).wf = true ∧ (x.alts.length ≤ maxLen ∧ ∀ a ∈ x.alts, Alt.wf a) ∧ (Lit.int .i64 x.min).wf = true ∧ (Lit.int .i64 x.max).wf = true ∧ (Lit.int .i64 x.wall).wf = true ∧ True
theorem readShape : ReadAs Tryz.prog 51 Shape.cells Shape.wf := by
  have h := ReadAs.struct (P := Tryz.prog) (t := 51) rfl (by kernel_rfl) (.cons rfl (ReadAs.int ty0) (.cons rfl (readAlts) (.cons rfl (ReadAs.int ty0) (.cons rfl (ReadAs.int ty0) (.cons rfl (ReadAs.int ty0) .nil)))))
  exact h.map (fun p => (⟨p.1, p.2.1, p.2.2.1, p.2.2.2.1, p.2.2.2.2.1⟩ : Shape)) (fun _ => rfl) (fun _ h => h)
def Dep.wf (x : Dep) : Prop := (Lit.int .i64 x.how).wf = true ∧ (Lit.int .i64 x.job).wf = true ∧ True
theorem readDep : ReadAs Tryz.prog 58 Dep.cells Dep.wf := by
  have h := ReadAs.struct (P := Tryz.prog) (t := 58) rfl (by kernel_rfl) (.cons rfl (ReadAs.int ty0) (.cons rfl (ReadAs.int ty0) .nil))
  exact h.map (fun p => (⟨p.1, p.2.1⟩ : Dep)) (fun _ => rfl) (fun _ h => h)
theorem readDeps : ReadAs Tryz.prog 52 (fun l => [depL l]) fun l => l.length ≤ maxLen ∧ ∀ a ∈ l, Dep.wf a :=
  ReadAs.slice Dep.zero rfl (by kernel_rfl) (by decide) readDep (fun _ => rfl)
def Job.wf (x : Job) : Prop := (Lit.int .i64 x.id).wf = true ∧ x.name.size ≤ maxLen ∧ x.user.size ≤ maxLen ∧ x.account.size ≤ maxLen ∧ Shape.wf x.shape ∧ (Lit.int .i64 x.prio).wf = true ∧ (x.after.length ≤ maxLen ∧ ∀ a ∈ x.after, Dep.wf a) ∧ (Lit.int .i64 x.state).wf = true ∧ True ∧ (Lit.int .i64 x.born).wf = true ∧ (Lit.int .i64 x.promise).wf = true ∧ (Lit.int .i64 x.choice).wf = true ∧ (Lit.int .i64 x.start).wf = true ∧ (Lit.int .i64 x.limit).wf = true ∧ (Lit.int .u64 x.nodes).wf = true ∧ (Lit.int .i64 x.used).wf = true ∧ True
theorem readJob : ReadAs Tryz.prog 54 Job.cells Job.wf := by
  have h := ReadAs.struct (P := Tryz.prog) (t := 54) rfl (by kernel_rfl) (.cons rfl (ReadAs.int ty0) (.cons rfl (ReadAs.string ty2) (.cons rfl (ReadAs.string ty2) (.cons rfl (ReadAs.string ty2) (.cons rfl (readShape) (.cons rfl (ReadAs.int ty0) (.cons rfl (readDeps) (.cons rfl (ReadAs.int ty0) (.cons rfl (ReadAs.bool ty1) (.cons rfl (ReadAs.int ty0) (.cons rfl (ReadAs.int ty0) (.cons rfl (ReadAs.int ty0) (.cons rfl (ReadAs.int ty0) (.cons rfl (ReadAs.int ty0) (.cons rfl (ReadAs.int ty3) (.cons rfl (ReadAs.int ty0) .nil))))))))))))))))
  exact h.map (fun p => (⟨p.1, p.2.1, p.2.2.1, p.2.2.2.1, p.2.2.2.2.1, p.2.2.2.2.2.1, p.2.2.2.2.2.2.1, p.2.2.2.2.2.2.2.1, p.2.2.2.2.2.2.2.2.1, p.2.2.2.2.2.2.2.2.2.1, p.2.2.2.2.2.2.2.2.2.2.1, p.2.2.2.2.2.2.2.2.2.2.2.1, p.2.2.2.2.2.2.2.2.2.2.2.2.1, p.2.2.2.2.2.2.2.2.2.2.2.2.2.1, p.2.2.2.2.2.2.2.2.2.2.2.2.2.2.1, p.2.2.2.2.2.2.2.2.2.2.2.2.2.2.2.1⟩ : Job)) (fun _ => rfl) (fun _ h => h)
theorem readJobs : ReadAs Tryz.prog 23 (fun l => [jobL l]) fun l => l.length ≤ maxLen ∧ ∀ a ∈ l, Job.wf a :=
  ReadAs.slice Job.zero rfl (by kernel_rfl) (by decide) readJob (fun _ => rfl)
def Resize.wf (x : Resize) : Prop := (Lit.int .i64 x.job).wf = true ∧ True ∧ (Lit.int .u64 x.nodes).wf = true ∧ (Lit.int .u64 x.said).wf = true ∧ (Lit.int .i64 x.since).wf = true ∧ True
theorem readResize : ReadAs Tryz.prog 38 Resize.cells Resize.wf := by
  have h := ReadAs.struct (P := Tryz.prog) (t := 38) rfl (by kernel_rfl) (.cons rfl (ReadAs.int ty0) (.cons rfl (ReadAs.bool ty1) (.cons rfl (ReadAs.int ty3) (.cons rfl (ReadAs.int ty3) (.cons rfl (ReadAs.int ty0) .nil)))))
  exact h.map (fun p => (⟨p.1, p.2.1, p.2.2.1, p.2.2.2.1, p.2.2.2.2.1⟩ : Resize)) (fun _ => rfl) (fun _ h => h)
theorem readResizes : ReadAs Tryz.prog 24 (fun l => [resizeL l]) fun l => l.length ≤ maxLen ∧ ∀ a ∈ l, Resize.wf a :=
  ReadAs.slice Resize.zero rfl (by kernel_rfl) (by decide) readResize (fun _ => rfl)
def Book.wf (x : Book) : Prop := (Lit.int .i64 x.id).wf = true ∧ (Lit.int .i64 x.from_).wf = true ∧ (Lit.int .i64 x.to).wf = true ∧ (Lit.int .i64 x.nodes).wf = true ∧ True
theorem readBook : ReadAs Tryz.prog 60 Book.cells Book.wf := by
  have h := ReadAs.struct (P := Tryz.prog) (t := 60) rfl (by kernel_rfl) (.cons rfl (ReadAs.int ty0) (.cons rfl (ReadAs.int ty0) (.cons rfl (ReadAs.int ty0) (.cons rfl (ReadAs.int ty0) .nil))))
  exact h.map (fun p => (⟨p.1, p.2.1, p.2.2.1, p.2.2.2.1⟩ : Book)) (fun _ => rfl) (fun _ h => h)
theorem readBooks : ReadAs Tryz.prog 25 (fun l => [bookL l]) fun l => l.length ≤ maxLen ∧ ∀ a ∈ l, Book.wf a :=
  ReadAs.slice Book.zero rfl (by kernel_rfl) (by decide) readBook (fun _ => rfl)
def Usage.wf (x : Usage) : Prop := x.user.size ≤ maxLen ∧ x.account.size ≤ maxLen ∧ (Lit.int .i64 x.used).wf = true ∧ (Lit.int .i64 x.share).wf = true ∧ True
theorem readUsage : ReadAs Tryz.prog 62 Usage.cells Usage.wf := by
  have h := ReadAs.struct (P := Tryz.prog) (t := 62) rfl (by kernel_rfl) (.cons rfl (ReadAs.string ty2) (.cons rfl (ReadAs.string ty2) (.cons rfl (ReadAs.int ty0) (.cons rfl (ReadAs.int ty0) .nil))))
  exact h.map (fun p => (⟨p.1, p.2.1, p.2.2.1, p.2.2.2.1⟩ : Usage)) (fun _ => rfl) (fun _ h => h)
theorem readUsages : ReadAs Tryz.prog 26 (fun l => [usageL l]) fun l => l.length ≤ maxLen ∧ ∀ a ∈ l, Usage.wf a :=
  ReadAs.slice Usage.zero rfl (by kernel_rfl) (by decide) readUsage (fun _ => rfl)
def State.wf (x : State) : Prop := (Lit.int .i64 x.now).wf = true ∧ (x.nodes.length ≤ maxLen ∧ ∀ a ∈ x.nodes, Node.wf a) ∧ (x.jobs.length ≤ maxLen ∧ ∀ a ∈ x.jobs, Job.wf a) ∧ (x.resizes.length ≤ maxLen ∧ ∀ a ∈ x.resizes, Resize.wf a) ∧ (x.books.length ≤ maxLen ∧ ∀ a ∈ x.books, Book.wf a) ∧ (x.ledger.length ≤ maxLen ∧ ∀ a ∈ x.ledger, Usage.wf a) ∧ (Lit.int .i64 x.nextJob).wf = true ∧ (Lit.int .i64 x.nextBook).wf = true ∧ True
theorem readState : ReadAs Tryz.prog 28 State.cells State.wf := by
  have h := ReadAs.struct (P := Tryz.prog) (t := 28) rfl (by kernel_rfl) (.cons rfl (ReadAs.int ty0) (.cons rfl (readNodes) (.cons rfl (readJobs) (.cons rfl (readResizes) (.cons rfl (readBooks) (.cons rfl (readUsages) (.cons rfl (ReadAs.int ty0) (.cons rfl (ReadAs.int ty0) .nil))))))))
  exact h.map (fun p => (⟨p.1, p.2.1, p.2.2.1, p.2.2.2.1, p.2.2.2.2.1, p.2.2.2.2.2.1, p.2.2.2.2.2.2.1, p.2.2.2.2.2.2.2.1⟩ : State)) (fun _ => rfl) (fun _ h => h)
end Go.Proofs.YtoionleakeemlaaGreatDoor
namespace Go.Proofs.YtoionleakeemlaaGreatDoor
set_option linter.unusedSimpArgs false
set_option linter.unusedVariables false
open Go.Fw
theorem Shape.wf_szM {x : Shape} (h : x.wf) : x.szM := h.2.1.1
theorem Job.wf_szM {x : Job} (h : x.wf) : x.szM := ⟨h.2.1, h.2.2.1, h.2.2.2.1, Shape.wf_szM h.2.2.2.2.1, h.2.2.2.2.2.2.1.1⟩
theorem Usage.wf_szM {x : Usage} (h : x.wf) : x.szM := ⟨h.1, h.2.1⟩
theorem State.wf_szM {x : State} (h : x.wf) : x.szM :=
  ⟨h.2.1.1, h.2.2.1.1, fun y hy => Job.wf_szM (h.2.2.1.2 y hy), h.2.2.2.1.1, h.2.2.2.2.1.1, h.2.2.2.2.2.1.1, fun y hy => Usage.wf_szM (h.2.2.2.2.2.1.2 y hy)⟩
end Go.Proofs.YtoionleakeemlaaGreatDoor
namespace Go.Proofs.YtoionleakeemlaaGreatDoor
set_option linter.unusedSimpArgs false
set_option linter.unusedVariables false
theorem awake25 : law25_awake = true := by kernel_rfl
end Go.Proofs.YtoionleakeemlaaGreatDoor
