/-
  Contracts of functions, printed by a program of this repo (wip/dec). No condition beyond those that stand in each.
  Words as sets of bits: what and, or, and-not, a power, a sum of powers say of each bit. Program-independent; no condition but that a number is a word's.
  The program's and the document's sets of nodes: which bits they have. No condition beyond those that stand in each.
  How many bits a word has: the sum that is made in parallel is the number of its bits. Program-independent.
-/
import Derived.Test.YtigcpfbpmnppcaaGreatDoorG13
import Derived.Test.YtigcpfbpmnppcaaGreatDoorProg
import Derived.Test.YtigcpfbpmnppcaaGreatDoorG7
namespace Go.Proofs.YtigcpfbpmnppcaaGreatDoor
set_option linter.unusedSimpArgs false
set_option linter.unusedVariables false
open Go.Fw
set_option maxRecDepth 20000
set_option maxHeartbeats 4000000
attribute [local irreducible] ACalls AMoves
def state_Check_g1  : List Job -> Int -> Nat -> Int
 | [], lastJob, _ => lastJob
 | x_ :: r, _, i => state_Check_g1 r x_.id (i + 1)
def state_Check_g2  : List Book -> Int -> Nat -> Int
 | [], lastBook, _ => lastBook
 | x_1 :: r, _, i1 => state_Check_g2 r x_1.id (i1 + 1)
def state_Check_g3  : List Job -> Nat -> List (Int × Job) -> (List (Int × Job))
 | [], _, c => c
 | x_2 :: r, i2, c => bif (x_2.state == 2) then state_Check_g3 r (i2 + 1) (setM x_2.id x_2 c) else state_Check_g3 r (i2 + 1) c
def state_Check_g4 (s : State) (lastJob : Int) (lastBook : Int) (c : List (Int × Job)) : List Resize -> Nat -> List (Int × Resize) -> Int
 | [], _, c2 => bif ((((!true) || (!(state_next s.nextJob lastJob))) || (!(state_next s.nextBook lastBook))) || (!(state_nodes s c c2))) then 141 else bif (c.all (fun (en : Int × Job) => (bif ((alloc_Held s.nodes en.1) != en.2.nodes) then false else true))) then 0 else 141
 | x_3 :: r, i3, c2 => bif (((!(getM x_3.job c).isSome) || ((decide ((i3 : Int) > 0)) && (decide ((s.resizes.getD (Int.toNat (w64 ((i3 : Int) - 1))) Resize.zero).job >= x_3.job)))) || (!(state_resize s x_3 ((getM x_3.job c).getD Job.zero)))) then 141 else state_Check_g4 s lastJob lastBook c r (i3 + 1) (setM x_3.job x_3 c2)
def state_Check_k3 (s : State) (lastJob : Int) (lastBook : Int) (c : List (Int × Job)) : Int := state_Check_g4 s lastJob lastBook c s.resizes 0 []
def state_Check_k2 (s : State) (lastJob : Int) (lastBook : Int) : Int := state_Check_k3 s lastJob lastBook (state_Check_g3 s.jobs 0 [])
def state_Check_k1 (s : State) (lastJob : Int) : Int := state_Check_k2 s lastJob (state_Check_g2 s.books 0 0)
def state_Check (s : State) : Int := bif ((plan_Check s) != 0) then 141 else state_Check_k1 s (state_Check_g1 s.jobs 0 0)
theorem state_Check_c (s : State) (hs0 : s.sz) : ∀ objs, AGives Tryz.prog 22 [State.a s] objs (I (state_Check s)) := by
 generalize hR : state_Check s = R; refine ga (.cons (State.low _ _) .nil) lx (kp 14 [16, 18, 19, 20, 21, 28, 29, 30, 31, 68, 70, 72, 82]) Tryz.func22 ?_; have hk0 := hs0; obtain ⟨z29, z30, z31, z32, z33, z34, z35⟩ := hs0; refine us (plan_Check_c s (by first | (exact getM_sz _ _ (by assumption)) | exact szA) _) ?_; refine ai (fun h1 => ?_) (fun h2 => ?_)
 ·obtain rfl := foll hR (ct h1 rfl); exact ret_seen lx sr
 ·refine loop_start2 (fun (lastJob : Int) (i : Nat) => state_Check_k1 s (state_Check_g1 (List.drop i s.jobs) lastJob i) = R ∧ i <= s.jobs.length) (fun lastJob i => s.jobs.length - i) (fun lastJob i => [(1, AVal.ptr 0 0 8 0 0), (2, I 0), (3, I lastJob), (4, I 0), (18, jobL s.jobs), (19, I (s.jobs.length : Int)), (20, I (i : Int))]) (fun lastJob i => [(0, AObj.row 28 8 [[I s.now, nodeL s.nodes, jobL s.jobs, resizeL s.resizes, bookL s.books, usageL s.ledger, I s.nextJob, I s.nextBook]])]) 0 0 (wk [0] (tO rfl (ts State.lo) .nil) (sv (turn_ptr 0 rfl rfl) (s1 (s1 (s1 (sl lw (s1 (s1 .nil)))))))) ⟨foll hR (cf h2 rfl), by exact omA⟩ ?_; clear hR; rintro lastJob i ⟨hR, hj⟩; (try dsimp only at hR hj); refine ai (fun h3 => ?_) (fun h4 => ?_)
  ·have hlt := ltA h3; rw [drop_getD Job.zero hlt] at hR; have hxz : (s.jobs.getD i Job.zero).sz := getD_sz (by first | assumption | grind) (Job.szz _); have hkz := hxz; obtain ⟨z5, z6, z7, z8, z9⟩ : ((s.jobs.getD i Job.zero).name).size <= 4294967296 ∧ ((s.jobs.getD i Job.zero).user).size <= 4294967296 ∧ ((s.jobs.getD i Job.zero).account).size <= 4294967296 ∧ ((((s.jobs.getD i Job.zero).shape).alts).length <= 4294967296) ∧ ((s.jobs.getD i Job.zero).after).length <= 4294967296 := hxz; refine ai gkA ?_; exact loop_next2 ((s.jobs.getD i Job.zero).id) (i + 1) (wk [0] (tO rfl (ts State.lo) .nil) (sv (turn_ptr 0 rfl rfl) (s1 (s1 (s1 (sl lw (s1 (sv (turn_eq (I_eq (wr omA)) lx) .nil)))))))) omA ⟨foll hR (congrArg (fun p : Int => state_Check_k1 s p) rfl), by exact omA⟩
  ·rw [drop_none (l := s.jobs) (j := i) (geA h4)] at hR; replace hR : state_Check_k1 s lastJob = R := fo2 (fun p : Int => state_Check_k1 s p) (lastJob) hR rfl; refine loop_start2 (fun (lastBook : Int) (i1 : Nat) => state_Check_k2 s lastJob (state_Check_g2 (List.drop i1 s.books) lastBook i1) = R ∧ i1 <= s.books.length) (fun lastBook i1 => s.books.length - i1) (fun lastBook i1 => [(1, AVal.ptr 0 0 8 0 0), (2, I 0), (3, I lastJob), (4, I lastBook), (28, bookL s.books), (29, I (s.books.length : Int)), (30, I (i1 : Int))]) (fun lastBook i1 => [(0, AObj.row 28 8 [[I s.now, nodeL s.nodes, jobL s.jobs, resizeL s.resizes, bookL s.books, usageL s.ledger, I s.nextJob, I s.nextBook]])]) 0 0 (wk [0] (tO rfl (ts State.lo) .nil) (sv (turn_ptr 0 rfl rfl) (s1 (s1 (s1 (sl lw (s1 (s1 .nil)))))))) ⟨foll hR rfl, by exact omA⟩ ?_; clear hR; rintro lastBook i1 ⟨hR, hj⟩; (try dsimp only at hR hj); refine ai (fun h10 => ?_) (fun h11 => ?_)
   ·have hlt := ltA h10; rw [drop_getD Book.zero hlt] at hR; refine ai gkA ?_; exact loop_next2 ((s.books.getD i1 Book.zero).id) (i1 + 1) (wk [0] (tO rfl (ts State.lo) .nil) (sv (turn_ptr 0 rfl rfl) (s1 (s1 (s1 (sl lw (s1 (sv (turn_eq (I_eq (wr omA)) lx) .nil)))))))) omA ⟨foll hR (congrArg (fun p : Int => state_Check_k2 s lastJob p) rfl), by exact omA⟩
   ·rw [drop_none (l := s.books) (j := i1) (geA h11)] at hR; replace hR : state_Check_k2 s lastJob lastBook = R := fo2 (fun p : Int => state_Check_k2 s lastJob p) (lastBook) hR rfl; refine ACalls.of_cwp (fun _ => true) Tryz.func53 rfl rfl ?_; refine loop_start2 (fun (i2 : Nat) (c : List (Int × Job)) => state_Check_k3 s lastJob lastBook (state_Check_g3 (List.drop i2 s.jobs) i2 c) = R ∧ i2 <= s.jobs.length ∧ ∀ y ∈ c, y.2.sz) (fun i2 c => s.jobs.length - i2) (fun i2 c => [(2, AVal.lit (.map none)), (3, AVal.map 1), (7, jobL s.jobs), (8, I (s.jobs.length : Int)), (9, I (i2 : Int))]) (fun i2 c => [(0, AObj.row 28 8 [[I s.now, nodeL s.nodes, jobL s.jobs, resizeL s.resizes, bookL s.books, usageL s.ledger, I s.nextJob, I s.nextBook]]), (0, AObj.other (.map (mapEs ik Job.a 0 c) c.length))]) 0 [] (wk [0, 1] (tO rfl (ts State.lo) (tO rfl (turn_mapO _ rfl rfl (fun _ => Job.low _ _)) .nil)) (s1 (sv (turn_map 1 rfl rfl) (sl lw (s1 (s1 .nil)))))) ⟨foll hR rfl, by exact omA, by first | (exact setM_sz _ _ _ (by assumption) (by assumption)) | first | (exact fun y hy => absurd hy List.not_mem_nil) | first | (assumption) | exact exA⟩ ?_; clear hR; rintro i2 c ⟨hR, hj, hx⟩; (try dsimp only at hR hj hx); refine ai (fun h12 => ?_) (fun h13 => ?_)
    ·have hlt := ltA h12; rw [drop_getD Job.zero hlt] at hR; have hxz : (s.jobs.getD i2 Job.zero).sz := getD_sz (by first | assumption | grind) (Job.szz _); have hkz := hxz; obtain ⟨z14, z15, z16, z17, z18⟩ : ((s.jobs.getD i2 Job.zero).name).size <= 4294967296 ∧ ((s.jobs.getD i2 Job.zero).user).size <= 4294967296 ∧ ((s.jobs.getD i2 Job.zero).account).size <= 4294967296 ∧ ((((s.jobs.getD i2 Job.zero).shape).alts).length <= 4294967296) ∧ ((s.jobs.getD i2 Job.zero).after).length <= 4294967296 := hxz; refine ai gkA ?_; refine ai (fun h19 => ?_) (fun h20 => ?_)
     ·refine ⟨_, _, keys_int rfl _ _, putM_map (ek := ik) ((s.jobs.getD i2 Job.zero).id) (s.jobs.getD i2 Job.zero) c rfl rfl, ?_⟩; exact loop_next2 (i2 + 1) (setM (s.jobs.getD i2 Job.zero).id (s.jobs.getD i2 Job.zero) c) (wk [0, 1] (tO rfl (ts State.lo) (tO rfl (turn_mapO _ rfl rfl (fun _ => Job.low _ _)) .nil)) (s1 (sv (turn_map 1 rfl rfl) (sl lw (s1 (sv (turn_eq (I_eq (wr omA)) lx) .nil)))))) omA ⟨foll hR (congrArg (fun p : (List (Int × Job)) => state_Check_k3 s lastJob lastBook p) (ct h19 rfl)), by exact omA, by first | (exact setM_sz _ _ _ (by assumption) (by assumption)) | first | (exact fun y hy => absurd hy List.not_mem_nil) | first | (assumption) | exact exA⟩
     ·exact loop_next2 (i2 + 1) c (wk [0, 1] (tO rfl (ts State.lo) (tO rfl (turn_mapO _ rfl rfl (fun _ => Job.low _ _)) .nil)) (s1 (sv (turn_map 1 rfl rfl) (sl lw (s1 (sv (turn_eq (I_eq (wr omA)) lx) .nil)))))) omA ⟨foll hR (congrArg (fun p : (List (Int × Job)) => state_Check_k3 s lastJob lastBook p) (cf h20 rfl)), by exact omA, by first | (exact setM_sz _ _ _ (by assumption) (by assumption)) | first | (exact fun y hy => absurd hy List.not_mem_nil) | first | (assumption) | exact exA⟩
    ·rw [drop_none (l := s.jobs) (j := i2) (geA h13)] at hR; replace hR : state_Check_k3 s lastJob lastBook c = R := fo2 (fun p : (List (Int × Job)) => state_Check_k3 s lastJob lastBook p) (c) hR rfl; refine ⟨_, _, Told.refl, ?_⟩; refine ACalls.of_cwp (fun _ => true) Tryz.func54 rfl rfl ?_; refine loop_start2 (fun (i3 : Nat) (c2 : List (Int × Resize)) => state_Check_g4 s lastJob lastBook c (List.drop i3 s.resizes) i3 c2 = R ∧ i3 <= s.resizes.length) (fun i3 c2 => s.resizes.length - i3) (fun i3 c2 => [(1, AVal.map 1), (2, AVal.ptr 2 0 8 0 0), (4, AVal.lit (.map none)), (5, Bo false), (6, AVal.map 3), (13, resizeL s.resizes), (14, I (s.resizes.length : Int)), (15, I (i3 : Int))]) (fun i3 c2 => [(0, AObj.row 28 8 [[I s.now, nodeL s.nodes, jobL s.jobs, resizeL s.resizes, bookL s.books, usageL s.ledger, I s.nextJob, I s.nextBook]]), (0, AObj.other (.map (mapEs ik Job.a 0 c) c.length)), (0, AObj.row 28 8 [[I s.now, nodeL s.nodes, jobL s.jobs, resizeL s.resizes, bookL s.books, usageL s.ledger, I s.nextJob, I s.nextBook]]), (0, AObj.other (.map (mapEs ik Resize.a 0 c2) c2.length))]) 0 [] (wk [0, 1, 2, 3] (tO rfl (ts State.lo) (tO rfl (turn_mapO _ rfl rfl (fun _ => Job.low _ _)) (tO rfl (ts State.lo) (tO rfl (turn_mapO _ rfl rfl (fun _ => Resize.low _ _)) .nil)))) (sv (turn_map 1 rfl rfl) (sv (turn_ptr 2 rfl rfl) (s1 (s1 (sv (turn_map 3 rfl rfl) (sl lw (s1 (s1 .nil))))))))) ⟨foll hR rfl, by exact omA⟩ ?_; clear hR; rintro i3 c2 ⟨hR, hj⟩; (try dsimp only at hR hj); refine ai (fun h21 => ?_) (fun h22 => ?_)
     ·have hlt := ltA h21; rw [drop_getD Resize.zero hlt] at hR; refine ai gkA ?_; (first | refine ⟨_, _, keys_int rfl _ _, lookP_map (ek := ik) ((s.resizes.getD i3 Resize.zero).job) c Job.zero (as_agg (a1 (a1 (a1 (a1 (a1 (av (as_nil) (a1 (a1 (a1 (a1 (av (as_nil) (a1 (a1 (a1 (a1 (a1 (a1 (a1 (a1 (a1 .nil))))))))))))))))))))), ?_⟩ | refine ⟨_, fun _ => ⟨_, _, keys_int rfl _ _, lookP_map (ek := ik) ((s.resizes.getD i3 Resize.zero).job) c Job.zero (as_agg (a1 (a1 (a1 (a1 (a1 (av (as_nil) (a1 (a1 (a1 (a1 (av (as_nil) (a1 (a1 (a1 (a1 (a1 (a1 (a1 (a1 (a1 .nil))))))))))))))))))))), rfl, rfl⟩, ?_⟩ | refine ⟨_, rfl, ⟨_, _, keys_int rfl _ _, lookP_map (ek := ik) ((s.resizes.getD i3 Resize.zero).job) c Job.zero (as_agg (a1 (a1 (a1 (a1 (a1 (av (as_nil) (a1 (a1 (a1 (a1 (av (as_nil) (a1 (a1 (a1 (a1 (a1 (a1 (a1 (a1 (a1 .nil))))))))))))))))))))), Sub.refl _, rfl⟩, ?_⟩); refine dchk (by kernel_rfl) ?_; refine ai gkA ?_; (first | apply u2 | apply u3 | apply u4 | apply us); exact state_resize_c s (s.resizes.getD i3 Resize.zero) ((getM (s.resizes.getD i3 Resize.zero).job c).getD Job.zero) (by first | (exact getM_sz _ _ (by assumption)) | exact szA) (by first | (exact getM_sz _ _ (by assumption)) | exact szA) _; (repeat ((first | refine ai rfl ?_ | refine ai (fun _ => rfl) ?_ | refine ai (fun _ => state_resize_c s (s.resizes.getD i3 Resize.zero) ((getM (s.resizes.getD i3 Resize.zero).job c).getD Job.zero) (by first | (exact getM_sz _ _ (by assumption)) | exact szA) (by first | (exact getM_sz _ _ (by assumption)) | exact szA) _) ?_))); refine ai (fun h23 => ?_) (fun h24 => ?_)
      ·refine ⟨_, _, Told.refl, ?_⟩; (first | refine ⟨Bo false, _, fun h => absurd h (by decide), fun _ => rfl, ?_⟩ | refine ⟨Bo false, fun h => absurd h (by decide), ?_⟩); (first | refine ⟨Bo false, _, fun h => absurd h (by decide), fun _ => rfl, ?_⟩ | refine ⟨Bo false, fun h => absurd h (by decide), ?_⟩); (first | refine ⟨Bo false, _, fun h => absurd h (by decide), fun _ => rfl, ?_⟩ | refine ⟨Bo false, fun h => absurd h (by decide), ?_⟩); refine ai (fun _ => ?_) (fun h => nomatch h); obtain rfl := foll hR (ct h23 rfl); exact ret_seen lx sr
      ·refine ⟨_, _, keys_int rfl _ _, putM_map (ek := ik) ((s.resizes.getD i3 Resize.zero).job) (s.resizes.getD i3 Resize.zero) c2 rfl rfl, ?_⟩; exact loop_next2 (i3 + 1) (setM (s.resizes.getD i3 Resize.zero).job (s.resizes.getD i3 Resize.zero) c2) (wk [0, 1, 2, 3] (tO rfl (ts State.lo) (tO rfl (turn_mapO _ rfl rfl (fun _ => Job.low _ _)) (tO rfl (ts State.lo) (tO rfl (turn_mapO _ rfl rfl (fun _ => Resize.low _ _)) .nil)))) (sv (turn_map 1 rfl rfl) (sv (turn_ptr 2 rfl rfl) (s1 (s1 (sv (turn_map 3 rfl rfl) (sl lw (s1 (sv (turn_eq (I_eq (wr omA)) lx) .nil))))))))) omA ⟨foll hR (cf h24 rfl), by exact omA⟩
     ·rw [drop_none (l := s.resizes) (j := i3) (geA h22)] at hR; refine ⟨_, _, Told.refl, ?_⟩; (first | apply u2 | apply u3 | apply u4 | apply us); exact state_next_c s.nextJob lastJob _; (first | apply u2 | apply u3 | apply u4 | apply us); exact state_next_c s.nextBook lastBook _; (first | apply u2 | apply u3 | apply u4 | apply us); exact mv [1, 3] (state_nodes_c s c c2 (by first | (exact getM_sz _ _ (by assumption)) | exact szA)) (dO (.same _ (low_mapEs fun _ => Job.low _ _)) (dO (.same _ (low_mapEs fun _ => Resize.low _ _)) .nil)) (dv (dn_low (Low.agg' (State.lo))) (dv (dn_ren (Ren.map _ _ rfl)) (dv (dn_ren (Ren.map _ _ rfl)) .nil))) (rO (RenO.same _ (low_mapEs fun _ => Job.low _ _)) (rO (RenO.same _ (low_mapEs fun _ => Resize.low _ _)) .nil)) rx; refine ai (fun h25 => ?_) (fun h26 => ?_)
      ·obtain rfl := foll hR (ct h25 rfl); exact ret_seen lx sr
      ·refine loop_start (X := Array Nat) (fun x => (bif (c.all (fun (en : Int × Job) => (bif ((alloc_Held s.nodes en.1) != en.2.nodes) then false else true))) then 0 else 141) = R ∧ ∀ j, j < c.length -> x.contains j = true -> (fun (en : Int × Job) => (bif ((alloc_Held s.nodes en.1) != en.2.nodes) then false else true)) (c.getD j ((0, Job.zero) : Int × Job)) = true) (fun x => unseen c.length x) (fun seen => [(1, AVal.ptr 0 0 8 0 0), (2, I 0), (70, AVal.ptr 2 0 1 0 0)]) (fun seen => [(0, AObj.row 28 8 [[I s.now, nodeL s.nodes, jobL s.jobs, resizeL s.resizes, bookL s.books, usageL s.ledger, I s.nextJob, I s.nextBook]]), (0, AObj.other (.map (mapEs ik Job.a 0 c) c.length)), (0, AObj.other (.mapIter 1 c.length seen c.length))]) #[] (wk [0, 1, 4] (tO rfl (ts State.lo) (tO rfl (turn_mapO _ rfl rfl (fun _ => Job.low _ _)) (tO rfl (turn_miter 1 rfl rfl) .nil))) (sv (turn_ptr 0 rfl rfl) (s1 (sv (turn_ptr 2 rfl rfl) .nil)))) ⟨foll hR (cf h26 rfl), fun j hj hc => absurd hc (by simp)⟩ ?_; clear hR; rintro seen ⟨hR, hx⟩; refine map_round ((0, Job.zero) : Int × Job) (fun j hj hns => ?_) (fun hall => ?_)
       ·refine ai (fun _ => ?_) (fun h => nomatch h); refine ⟨_, entry_map ((0, Job.zero) : Int × Job) rfl rfl hj, ?_⟩; refine dchk (by kernel_rfl) ?_; (first | apply u2 | apply u3 | apply u4 | apply us); exact alloc_Held_c s.nodes ((c.getD j ((0, Job.zero) : Int × Job)).1) (by first | (exact getM_sz _ _ (by assumption)) | exact szA) _; (repeat ((first | refine ai rfl ?_ | refine ai (fun _ => rfl) ?_ | refine ai (fun _ => alloc_Held_c s.nodes ((c.getD j ((0, Job.zero) : Int × Job)).1) (by first | (exact getM_sz _ _ (by assumption)) | exact szA) _) ?_))); refine ai (fun h27 => ?_) (fun h28 => ?_)
        ·obtain rfl := foll hR ((cond_f (all_f (p := (fun (en : Int × Job) => (bif ((alloc_Held s.nodes en.1) != en.2.nodes) then false else true))) hj (ct h27 rfl))).trans rfl); exact ret_seen lx sr
        ·exact loop_next (seen.push j) (unseen_push hj hns) (wk [0, 1, 2] (tO rfl (ts State.lo) (tO rfl (turn_mapO _ rfl rfl (fun _ => Job.low _ _)) (tO rfl (turn_miter 1 rfl rfl) .nil))) (sv (turn_ptr 0 rfl rfl) (s1 (sv (turn_ptr 2 rfl rfl) .nil)))) ⟨hR, seen_push (p := (fun (en : Int × Job) => (bif ((alloc_Held s.nodes en.1) != en.2.nodes) then false else true))) hx (cf h28 rfl)⟩
       ·refine ai (fun h => nomatch h) (fun _ => ?_); obtain rfl := foll hR (ct (all_t hall hx) rfl); exact ret_seen lx sr
def ref27_Clock_g1  : Nat -> Nat -> State -> List Job -> Nat × State × (List Job)
 | 0, _, _, _ => (0, State.zero, [])
 | m + 1, i, c, c2 => bif (decide ((i : Int) < (c2.length : Int))) then bif ((c2.getD i Job.zero).state != 2) then ref27_Clock_g1 m (i + 1) c c2 else bif ((ref17_Charge c.ledger (((c2.set i ((ref14_Charge (c2.getD i Job.zero) ((ref09_List ((c2.getD i Job.zero).nodes)).length : Int)).1)).getD i Job.zero).user) (((c2.set i ((ref14_Charge (c2.getD i Job.zero) ((ref09_List ((c2.getD i Job.zero).nodes)).length : Int)).1)).getD i Job.zero).account) ((ref09_List ((c2.getD i Job.zero).nodes)).length : Int)).2 == 0) then ref27_Clock_g1 m (i + 1) { c with ledger := (ref17_Charge c.ledger (((c2.set i ((ref14_Charge (c2.getD i Job.zero) ((ref09_List ((c2.getD i Job.zero).nodes)).length : Int)).1)).getD i Job.zero).user) (((c2.set i ((ref14_Charge (c2.getD i Job.zero) ((ref09_List ((c2.getD i Job.zero).nodes)).length : Int)).1)).getD i Job.zero).account) ((ref09_List ((c2.getD i Job.zero).nodes)).length : Int)).1 } (c2.set i ((ref14_Charge (c2.getD i Job.zero) ((ref09_List ((c2.getD i Job.zero).nodes)).length : Int)).1)) else ref27_Clock_g1 m (i + 1) c (c2.set i ((ref14_Charge (c2.getD i Job.zero) ((ref09_List ((c2.getD i Job.zero).nodes)).length : Int)).1)) else (i, c, c2)
def ref27_Clock_k1 (i : Nat) (c : State) (c2 : List Job) : State × Int := bif ((Int.tmod (w64 (c.now + 1)) 50) == 0) then ((⟨(w64 (c.now + 1)), c.nodes, c2, c.resizes, (ref19_Past c.books (w64 (c.now + 1))), (ref17_Decay c.ledger), c.nextJob, c.nextBook⟩ : State), 0) else ({ c with now := (w64 (c.now + 1)), jobs := c2, books := (ref19_Past c.books (w64 (c.now + 1))) }, 0)
def ref27_Clock (s : State) : State × Int := bif ((ref25_Check s) != 0) then (State.zero, 141) else bif (s.now == 1000000) then (State.zero, 153) else ref27_Clock_k1 ((ref27_Clock_g1 ((Int.toNat ((s.jobs.length : Int) - (0 : Int))) + 1) 0 s s.jobs).1) ((ref27_Clock_g1 ((Int.toNat ((s.jobs.length : Int) - (0 : Int))) + 1) 0 s s.jobs).2.1) ((ref27_Clock_g1 ((Int.toNat ((s.jobs.length : Int) - (0 : Int))) + 1) 0 s s.jobs).2.2)
theorem ref27_Clock_c (s : State) (hs0 : s.sz) : ∀ objs, AGives Tryz.prog 10 [State.a s] objs (AVal.tup [State.a ((ref27_Clock s).1), I ((ref27_Clock s).2)]) := by
 generalize hR : ref27_Clock s = R; refine ga (.cons (State.low _ _) .nil) (Low.tup' (.cons (State.low _ _) (l1 .nil))) (kp 9 [11, 15, 24, 32, 70, 82]) Tryz.func10 ?_; have hk0 := hs0; obtain ⟨z13, z14, z15, z16, z17, z18, z19⟩ := hs0; refine us (ref25_Check_c s (by first | (exact getD_sz hx.2.1 (Job.szz _)) | first | (exact (getD_sz (set_sz hx.2.1 (ref14_Charge_sz (getD_sz hx.2.1 (Job.szz _))) _) (Job.szz _)).2.1) | first | (exact (getD_sz (set_sz hx.2.1 (ref14_Charge_sz (getD_sz hx.2.1 (Job.szz _))) _) (Job.szz _)).2.2.1) | first | (exact hx.1.2.2.2.2.2) | first | (exact hx.1.2.2.2.2.1) | exact szA) _) ?_; refine ai (fun h1 => ?_) (fun h2 => ?_)
 ·obtain rfl := foll hR (ct h1 rfl); exact ret_seen (Low.tup' (.cons (State.low _ _) (l1 .nil))) (Seen.tup (ev (Seen.agg (e1 (ev (seen_nil) (ev (seen_nil) (ev (seen_nil) (ev (seen_nil) (ev (seen_nil) (e1 (e1 .nil))))))))) (e1 .nil)))
 ·refine ai (fun h3 => ?_) (fun h4 => ?_)
  ·obtain rfl := foll hR (cf h2 (ct h3 rfl)); exact ret_seen (Low.tup' (.cons (State.low _ _) (l1 .nil))) (Seen.tup (ev (Seen.agg (e1 (ev (seen_nil) (ev (seen_nil) (ev (seen_nil) (ev (seen_nil) (ev (seen_nil) (e1 (e1 .nil))))))))) (e1 .nil)))
  ·(first | refine ⟨app_ok 216 rfl lnA apA, ?_⟩ | refine ⟨app_nil 216 rfl apA, ?_⟩); refine loop_start3 (fun (i : Nat) (c : State) (c2 : List Job) => ∃ m, (Int.toNat ((c2.length : Int) - (i : Int))) < m ∧ ref27_Clock_k1 (ref27_Clock_g1 m i c c2).1 (ref27_Clock_g1 m i c c2).2.1 (ref27_Clock_g1 m i c c2).2.2 = R ∧ c.sz ∧ (∀ y ∈ c2, y.sz) ∧ c2.length = s.jobs.length) (fun i c c2 => (Int.toNat ((c2.length : Int) - (i : Int)))) (fun i c c2 => [(1, AVal.ptr 0 0 8 0 0), (2, AVal.ptr 1 0 8 0 0), (3, I 0), (4, AVal.own 2 0 20 0 c2.length), (5, I (i : Int))]) (fun i c c2 => [(0, AObj.row 28 8 [[I c.now, nodeL c.nodes, jobL c.jobs, resizeL c.resizes, bookL c.books, usageL c.ledger, I c.nextJob, I c.nextBook]]), (0, AObj.row 28 8 [[I 0, AVal.lit (.slice none 0 0), AVal.lit (.slice none 0 0), AVal.lit (.slice none 0 0), AVal.lit (.slice none 0 0), AVal.lit (.slice none 0 0), I 0, I 0]]), (0, AObj.row 52 20 (c2.map Job.cells))]) 0 s s.jobs (wk [0, 1, 2] (tO rfl (ts State.lo) (tO rfl (ts (l1 (l1 (l1 (l1 (l1 (l1 (l1 (l1 LowL.nil))))))))) (tO rfl (tl eqA) .nil))) (sv (turn_ptr 0 rfl rfl) (sv (turn_ptr 1 rfl rfl) (s1 (sv (to 2 lnA) (s1 .nil)))))) ⟨_, Nat.lt_succ_self _, foll hR (cf h2 (cf h4 rfl)), by first | (exact ⟨hk0, hk0.2.2.1, rfl⟩) | first | (exact hx) | first | (exact ⟨⟨hx.1.1, hx.1.2.1, hx.1.2.2.1, hx.1.2.2.2.1, hx.1.2.2.2.2.1, ref17_Charge_sz hx.1.2.2.2.2.2 (getD_sz (set_sz hx.2.1 (ref14_Charge_sz (getD_sz hx.2.1 (Job.szz _))) _) (Job.szz _)).2.1 (getD_sz (set_sz hx.2.1 (ref14_Charge_sz (getD_sz hx.2.1 (Job.szz _))) _) (Job.szz _)).2.2.1⟩, set_sz hx.2.1 (ref14_Charge_sz (getD_sz hx.2.1 (Job.szz _))) _, (List.length_set ..).trans hx.2.2⟩) | first | (exact ⟨hx.1, set_sz hx.2.1 (ref14_Charge_sz (getD_sz hx.2.1 (Job.szz _))) _, (List.length_set ..).trans hx.2.2⟩) | exact exA⟩ ?_; clear hR; rintro i c c2 ⟨m, hm, hR, hx⟩; (try dsimp only at hR hm hx); obtain ⟨m, rfl⟩ := sucA m; refine ai (fun h5 => ?_) (fun h6 => ?_)
   ·have qh5 := of_decide_eq_true h5; refine ai gkA ?_; refine ⟨_, evalOp_load rfl rfl rfl (elemI_at Job.zero i roA ckA) rfl, ?_⟩; refine ai (fun h7 => ?_) (fun h8 => ?_)
    ·exact loop_next3 (i + 1) c c2 (wk [0, 1, 2] (tO rfl (ts State.lo) (tO rfl (ts (l1 (l1 (l1 (l1 (l1 (l1 (l1 (l1 LowL.nil))))))))) (tO rfl (tl eqA) .nil))) (sv (turn_ptr 0 rfl rfl) (sv (turn_ptr 1 rfl rfl) (s1 (sv (to 2 lnA) (sv (turn_eq (I_eq (wr omA)) lx) .nil)))))) omA ⟨m, by exact omA, foll hR (congrArg (fun p : Nat × State × (List Job) => ref27_Clock_k1 p.1 p.2.1 p.2.2) (ct h5 (ct h7 rfl))), by first | (exact ⟨hk0, hk0.2.2.1, rfl⟩) | first | (exact hx) | first | (exact ⟨⟨hx.1.1, hx.1.2.1, hx.1.2.2.1, hx.1.2.2.2.1, hx.1.2.2.2.2.1, ref17_Charge_sz hx.1.2.2.2.2.2 (getD_sz (set_sz hx.2.1 (ref14_Charge_sz (getD_sz hx.2.1 (Job.szz _))) _) (Job.szz _)).2.1 (getD_sz (set_sz hx.2.1 (ref14_Charge_sz (getD_sz hx.2.1 (Job.szz _))) _) (Job.szz _)).2.2.1⟩, set_sz hx.2.1 (ref14_Charge_sz (getD_sz hx.2.1 (Job.szz _))) _, (List.length_set ..).trans hx.2.2⟩) | first | (exact ⟨hx.1, set_sz hx.2.1 (ref14_Charge_sz (getD_sz hx.2.1 (Job.szz _))) _, (List.length_set ..).trans hx.2.2⟩) | exact exA⟩
    ·refine ai gkA ?_; refine ⟨_, evalOp_load rfl rfl rfl (elemI_at Job.zero i roA ckA) rfl, ?_⟩; refine us (ref09_List_c ((c2.getD i Job.zero).nodes) _) ?_; refine ai gkA ?_; refine ⟨_, evalOp_load rfl rfl rfl (elemI_at Job.zero i roA ckA) rfl, ?_⟩; refine us (ref14_Charge_c (c2.getD i Job.zero) ((ref09_List ((c2.getD i Job.zero).nodes)).length : Int) (by first | (exact getD_sz hx.2.1 (Job.szz _)) | first | (exact (getD_sz (set_sz hx.2.1 (ref14_Charge_sz (getD_sz hx.2.1 (Job.szz _))) _) (Job.szz _)).2.1) | first | (exact (getD_sz (set_sz hx.2.1 (ref14_Charge_sz (getD_sz hx.2.1 (Job.szz _))) _) (Job.szz _)).2.2.1) | first | (exact hx.1.2.2.2.2.2) | first | (exact hx.1.2.2.2.2.1) | exact szA) _) ?_; refine ai gkA ?_; refine ⟨_, evalOp_store rfl rfl rfl rfl (elemI_at Job.zero i roA ckA) rfl rfl (set_map i ((ref14_Charge (c2.getD i Job.zero) ((ref09_List ((c2.getD i Job.zero).nodes)).length : Int)).1) roA rfl), ?_⟩; refine dchk (by kernel_rfl) ?_; refine ai gkA ?_; refine ⟨_, evalOp_load rfl rfl rfl (elemI_at Job.zero i roA ckA) rfl, ?_⟩; refine ai gkA ?_; refine ⟨_, evalOp_load rfl rfl rfl (elemI_at Job.zero i roA ckA) rfl, ?_⟩; (first | apply u2 | apply u3 | apply u4 | apply us); exact ref17_Charge_c c.ledger (((c2.set i ((ref14_Charge (c2.getD i Job.zero) ((ref09_List ((c2.getD i Job.zero).nodes)).length : Int)).1)).getD i Job.zero).user) (((c2.set i ((ref14_Charge (c2.getD i Job.zero) ((ref09_List ((c2.getD i Job.zero).nodes)).length : Int)).1)).getD i Job.zero).account) ((ref09_List ((c2.getD i Job.zero).nodes)).length : Int) (by first | (exact getD_sz hx.2.1 (Job.szz _)) | first | (exact (getD_sz (set_sz hx.2.1 (ref14_Charge_sz (getD_sz hx.2.1 (Job.szz _))) _) (Job.szz _)).2.1) | first | (exact (getD_sz (set_sz hx.2.1 (ref14_Charge_sz (getD_sz hx.2.1 (Job.szz _))) _) (Job.szz _)).2.2.1) | first | (exact hx.1.2.2.2.2.2) | first | (exact hx.1.2.2.2.2.1) | exact szA) (by first | (exact getD_sz hx.2.1 (Job.szz _)) | first | (exact (getD_sz (set_sz hx.2.1 (ref14_Charge_sz (getD_sz hx.2.1 (Job.szz _))) _) (Job.szz _)).2.1) | first | (exact (getD_sz (set_sz hx.2.1 (ref14_Charge_sz (getD_sz hx.2.1 (Job.szz _))) _) (Job.szz _)).2.2.1) | first | (exact hx.1.2.2.2.2.2) | first | (exact hx.1.2.2.2.2.1) | exact szA) (by first | (exact getD_sz hx.2.1 (Job.szz _)) | first | (exact (getD_sz (set_sz hx.2.1 (ref14_Charge_sz (getD_sz hx.2.1 (Job.szz _))) _) (Job.szz _)).2.1) | first | (exact (getD_sz (set_sz hx.2.1 (ref14_Charge_sz (getD_sz hx.2.1 (Job.szz _))) _) (Job.szz _)).2.2.1) | first | (exact hx.1.2.2.2.2.2) | first | (exact hx.1.2.2.2.2.1) | exact szA) _; (repeat ((first | refine ai rfl ?_ | refine ai (fun _ => rfl) ?_ | refine And.intro (evalOp_load rfl rfl rfl (elemI_at Job.zero i roA ckA) rfl) ?_ | refine And.intro (evalOp_load rfl rfl rfl (elemI_at Job.zero i roA ckA) rfl) ?_ | refine ai (fun _ => ref17_Charge_c c.ledger (((c2.set i ((ref14_Charge (c2.getD i Job.zero) ((ref09_List ((c2.getD i Job.zero).nodes)).length : Int)).1)).getD i Job.zero).user) (((c2.set i ((ref14_Charge (c2.getD i Job.zero) ((ref09_List ((c2.getD i Job.zero).nodes)).length : Int)).1)).getD i Job.zero).account) ((ref09_List ((c2.getD i Job.zero).nodes)).length : Int) (by first | (exact getD_sz hx.2.1 (Job.szz _)) | first | (exact (getD_sz (set_sz hx.2.1 (ref14_Charge_sz (getD_sz hx.2.1 (Job.szz _))) _) (Job.szz _)).2.1) | first | (exact (getD_sz (set_sz hx.2.1 (ref14_Charge_sz (getD_sz hx.2.1 (Job.szz _))) _) (Job.szz _)).2.2.1) | first | (exact hx.1.2.2.2.2.2) | first | (exact hx.1.2.2.2.2.1) | exact szA) (by first | (exact getD_sz hx.2.1 (Job.szz _)) | first | (exact (getD_sz (set_sz hx.2.1 (ref14_Charge_sz (getD_sz hx.2.1 (Job.szz _))) _) (Job.szz _)).2.1) | first | (exact (getD_sz (set_sz hx.2.1 (ref14_Charge_sz (getD_sz hx.2.1 (Job.szz _))) _) (Job.szz _)).2.2.1) | first | (exact hx.1.2.2.2.2.2) | first | (exact hx.1.2.2.2.2.1) | exact szA) (by first | (exact getD_sz hx.2.1 (Job.szz _)) | first | (exact (getD_sz (set_sz hx.2.1 (ref14_Charge_sz (getD_sz hx.2.1 (Job.szz _))) _) (Job.szz _)).2.1) | first | (exact (getD_sz (set_sz hx.2.1 (ref14_Charge_sz (getD_sz hx.2.1 (Job.szz _))) _) (Job.szz _)).2.2.1) | first | (exact hx.1.2.2.2.2.2) | first | (exact hx.1.2.2.2.2.1) | exact szA) _) ?_))); refine ai (fun h9 => ?_) (fun h10 => ?_)
     ·exact loop_next3 (i + 1) { c with ledger := (ref17_Charge c.ledger (((c2.set i ((ref14_Charge (c2.getD i Job.zero) ((ref09_List ((c2.getD i Job.zero).nodes)).length : Int)).1)).getD i Job.zero).user) (((c2.set i ((ref14_Charge (c2.getD i Job.zero) ((ref09_List ((c2.getD i Job.zero).nodes)).length : Int)).1)).getD i Job.zero).account) ((ref09_List ((c2.getD i Job.zero).nodes)).length : Int)).1 } (c2.set i ((ref14_Charge (c2.getD i Job.zero) ((ref09_List ((c2.getD i Job.zero).nodes)).length : Int)).1)) (wk [0, 1, 2] (tO rfl (ts State.lo) (tO rfl (ts (l1 (l1 (l1 (l1 (l1 (l1 (l1 (l1 LowL.nil))))))))) (tO rfl (tl eqA) .nil))) (sv (turn_ptr 0 rfl rfl) (sv (turn_ptr 1 rfl rfl) (s1 (sv (to 2 lnA) (sv (turn_eq (I_eq (wr omA)) lx) .nil)))))) omA ⟨m, by exact omA, foll hR (congrArg (fun p : Nat × State × (List Job) => ref27_Clock_k1 p.1 p.2.1 p.2.2) (ct h5 (cf h8 (ct h9 rfl)))), by first | (exact ⟨hk0, hk0.2.2.1, rfl⟩) | first | (exact hx) | first | (exact ⟨⟨hx.1.1, hx.1.2.1, hx.1.2.2.1, hx.1.2.2.2.1, hx.1.2.2.2.2.1, ref17_Charge_sz hx.1.2.2.2.2.2 (getD_sz (set_sz hx.2.1 (ref14_Charge_sz (getD_sz hx.2.1 (Job.szz _))) _) (Job.szz _)).2.1 (getD_sz (set_sz hx.2.1 (ref14_Charge_sz (getD_sz hx.2.1 (Job.szz _))) _) (Job.szz _)).2.2.1⟩, set_sz hx.2.1 (ref14_Charge_sz (getD_sz hx.2.1 (Job.szz _))) _, (List.length_set ..).trans hx.2.2⟩) | first | (exact ⟨hx.1, set_sz hx.2.1 (ref14_Charge_sz (getD_sz hx.2.1 (Job.szz _))) _, (List.length_set ..).trans hx.2.2⟩) | exact exA⟩
     ·exact loop_next3 (i + 1) c (c2.set i ((ref14_Charge (c2.getD i Job.zero) ((ref09_List ((c2.getD i Job.zero).nodes)).length : Int)).1)) (wk [0, 1, 2] (tO rfl (ts State.lo) (tO rfl (ts (l1 (l1 (l1 (l1 (l1 (l1 (l1 (l1 LowL.nil))))))))) (tO rfl (tl eqA) .nil))) (sv (turn_ptr 0 rfl rfl) (sv (turn_ptr 1 rfl rfl) (s1 (sv (to 2 lnA) (sv (turn_eq (I_eq (wr omA)) lx) .nil)))))) omA ⟨m, by exact omA, foll hR (congrArg (fun p : Nat × State × (List Job) => ref27_Clock_k1 p.1 p.2.1 p.2.2) (ct h5 (cf h8 (cf h10 rfl)))), by first | (exact ⟨hk0, hk0.2.2.1, rfl⟩) | first | (exact hx) | first | (exact ⟨⟨hx.1.1, hx.1.2.1, hx.1.2.2.1, hx.1.2.2.2.1, hx.1.2.2.2.2.1, ref17_Charge_sz hx.1.2.2.2.2.2 (getD_sz (set_sz hx.2.1 (ref14_Charge_sz (getD_sz hx.2.1 (Job.szz _))) _) (Job.szz _)).2.1 (getD_sz (set_sz hx.2.1 (ref14_Charge_sz (getD_sz hx.2.1 (Job.szz _))) _) (Job.szz _)).2.2.1⟩, set_sz hx.2.1 (ref14_Charge_sz (getD_sz hx.2.1 (Job.szz _))) _, (List.length_set ..).trans hx.2.2⟩) | first | (exact ⟨hx.1, set_sz hx.2.1 (ref14_Charge_sz (getD_sz hx.2.1 (Job.szz _))) _, (List.length_set ..).trans hx.2.2⟩) | exact exA⟩
   ·have qh6 := of_decide_eq_false h6; replace hR : ref27_Clock_k1 i c c2 = R := fo2 (fun p : Nat × State × (List Job) => ref27_Clock_k1 p.1 p.2.1 p.2.2) (i, c, c2) hR (cf h6 rfl); refine ai gkA ?_; refine ai (fun h11 => ?_) (fun h12 => ?_)
    ·refine us (ref17_Decay_c c.ledger (by first | (exact getD_sz hx.2.1 (Job.szz _)) | first | (exact (getD_sz (set_sz hx.2.1 (ref14_Charge_sz (getD_sz hx.2.1 (Job.szz _))) _) (Job.szz _)).2.1) | first | (exact (getD_sz (set_sz hx.2.1 (ref14_Charge_sz (getD_sz hx.2.1 (Job.szz _))) _) (Job.szz _)).2.2.1) | first | (exact hx.1.2.2.2.2.2) | first | (exact hx.1.2.2.2.2.1) | exact szA) _) ?_; refine us (ref19_Past_c c.books (w64 (c.now + 1)) (by first | (exact getD_sz hx.2.1 (Job.szz _)) | first | (exact (getD_sz (set_sz hx.2.1 (ref14_Charge_sz (getD_sz hx.2.1 (Job.szz _))) _) (Job.szz _)).2.1) | first | (exact (getD_sz (set_sz hx.2.1 (ref14_Charge_sz (getD_sz hx.2.1 (Job.szz _))) _) (Job.szz _)).2.2.1) | first | (exact hx.1.2.2.2.2.2) | first | (exact hx.1.2.2.2.2.1) | exact szA) _) ?_; obtain rfl := foll hR (ct h11 rfl); exact ret_seen (Low.tup' (.cons (State.low _ _) (l1 .nil))) (Seen.tup (ev (Seen.agg (e1 (e1 (ev (seen_list Job.zero _ rfl eqA lnA) (e1 (e1 (e1 (e1 (e1 .nil))))))))) (e1 .nil)))
    ·refine us (ref19_Past_c c.books (w64 (c.now + 1)) (by first | (exact getD_sz hx.2.1 (Job.szz _)) | first | (exact (getD_sz (set_sz hx.2.1 (ref14_Charge_sz (getD_sz hx.2.1 (Job.szz _))) _) (Job.szz _)).2.1) | first | (exact (getD_sz (set_sz hx.2.1 (ref14_Charge_sz (getD_sz hx.2.1 (Job.szz _))) _) (Job.szz _)).2.2.1) | first | (exact hx.1.2.2.2.2.2) | first | (exact hx.1.2.2.2.2.1) | exact szA) _) ?_; obtain rfl := foll hR (cf h12 rfl); exact ret_seen (Low.tup' (.cons (State.low _ _) (l1 .nil))) (Seen.tup (ev (Seen.agg (e1 (e1 (ev (seen_list Job.zero _ rfl eqA lnA) (e1 (e1 (e1 (e1 (e1 .nil))))))))) (e1 .nil)))
end Go.Proofs.YtigcpfbpmnppcaaGreatDoor
namespace Go.Proofs.YtigcpfbpmnppcaaGreatDoor
set_option linter.unusedSimpArgs false
set_option linter.unusedVariables false
open Go.Fw
set_option maxRecDepth 20000
set_option maxHeartbeats 4000000
attribute [local irreducible] ACalls AMoves
def nag_Clock_g1  : List Job -> Nat -> List Job -> State -> (List Job) × State
 | [], _, _, c2 => (c2.jobs, c2)
 | _ :: r, i, _, c2 => bif ((c2.jobs.getD i Job.zero).state != 2) then nag_Clock_g1 r (i + 1) c2.jobs c2 else bif ((job_Charge (c2.jobs.getD i Job.zero) (nodeset_Count ((c2.jobs.getD i Job.zero).nodes))).2 == 0) then bif ((ledger_Charge c2.ledger ((c2.jobs.getD i Job.zero).user) ((c2.jobs.getD i Job.zero).account) (nodeset_Count ((c2.jobs.getD i Job.zero).nodes))).2 == 0) then nag_Clock_g1 r (i + 1) (c2.jobs.set i ((job_Charge (c2.jobs.getD i Job.zero) (nodeset_Count ((c2.jobs.getD i Job.zero).nodes))).1)) { c2 with jobs := (c2.jobs.set i ((job_Charge (c2.jobs.getD i Job.zero) (nodeset_Count ((c2.jobs.getD i Job.zero).nodes))).1)), ledger := (ledger_Charge c2.ledger ((c2.jobs.getD i Job.zero).user) ((c2.jobs.getD i Job.zero).account) (nodeset_Count ((c2.jobs.getD i Job.zero).nodes))).1 } else nag_Clock_g1 r (i + 1) (c2.jobs.set i ((job_Charge (c2.jobs.getD i Job.zero) (nodeset_Count ((c2.jobs.getD i Job.zero).nodes))).1)) { c2 with jobs := (c2.jobs.set i ((job_Charge (c2.jobs.getD i Job.zero) (nodeset_Count ((c2.jobs.getD i Job.zero).nodes))).1)) } else bif ((ledger_Charge c2.ledger ((c2.jobs.getD i Job.zero).user) ((c2.jobs.getD i Job.zero).account) (nodeset_Count ((c2.jobs.getD i Job.zero).nodes))).2 == 0) then nag_Clock_g1 r (i + 1) c2.jobs { c2 with ledger := (ledger_Charge c2.ledger ((c2.jobs.getD i Job.zero).user) ((c2.jobs.getD i Job.zero).account) (nodeset_Count ((c2.jobs.getD i Job.zero).nodes))).1 } else nag_Clock_g1 r (i + 1) c2.jobs c2
def nag_Clock_k1 (c : List Job) (c2 : State) : State × Int := bif ((Int.tmod (w64 (c2.now + 1)) 50) == 0) then ({ c2 with now := (w64 (c2.now + 1)), books := (book_Past c2.books (w64 (c2.now + 1))), ledger := (ledger_Decay c2.ledger) }, 0) else ({ c2 with now := (w64 (c2.now + 1)), books := (book_Past c2.books (w64 (c2.now + 1))) }, 0)
def nag_Clock (s : State) : State × Int := bif ((state_Check s) != 0) then (State.zero, (state_Check s)) else bif (s.now == 1000000) then (State.zero, 153) else nag_Clock_k1 ((nag_Clock_g1 s.jobs 0 s.jobs s).1) ((nag_Clock_g1 s.jobs 0 s.jobs s).2)
theorem nag_Clock_c (s : State) (hs0 : s.sz) : ∀ objs, AGives Tryz.prog 9 [State.a s] objs (AVal.tup [State.a ((nag_Clock s).1), I ((nag_Clock s).2)]) := by
 generalize hR : nag_Clock s = R; refine ga (.cons (State.low _ _) .nil) (Low.tup' (.cons (State.low _ _) (l1 .nil))) (kp 6 [9, 14, 26]) Tryz.func9 ?_; have hk0 := hs0; obtain ⟨z22, z23, z24, z25, z26, z27, z28⟩ := hs0; refine us (state_Check_c s (by first | (exact getD_sz hx.2.2.2.1 (Job.szz _)) | first | (exact (getD_sz hx.2.2.2.1 (Job.szz _)).2.1) | first | (exact (getD_sz hx.2.2.2.1 (Job.szz _)).2.2.1) | first | (exact hx.2.2.2.2.2.2) | first | (exact hx.2.2.2.2.2.1) | exact szA) _) ?_; refine ai (fun h1 => ?_) (fun h2 => ?_)
 ·obtain rfl := foll hR (ct h1 rfl); exact ret_seen (Low.tup' (.cons (State.low _ _) (l1 .nil))) (Seen.tup (ev (Seen.agg (e1 (ev (seen_nil) (ev (seen_nil) (ev (seen_nil) (ev (seen_nil) (ev (seen_nil) (e1 (e1 .nil))))))))) (e1 .nil)))
 ·refine ai (fun h3 => ?_) (fun h4 => ?_)
  ·obtain rfl := foll hR (cf h2 (ct h3 rfl)); exact ret_seen (Low.tup' (.cons (State.low _ _) (l1 .nil))) (Seen.tup (ev (Seen.agg (e1 (ev (seen_nil) (ev (seen_nil) (ev (seen_nil) (ev (seen_nil) (ev (seen_nil) (e1 (e1 .nil))))))))) (e1 .nil)))
  ·refine us (mv [] (state_Copy_p s (by first | (exact getD_sz hx.2.2.2.1 (Job.szz _)) | first | (exact (getD_sz hx.2.2.2.1 (Job.szz _)).2.1) | first | (exact (getD_sz hx.2.2.2.1 (Job.szz _)).2.2.1) | first | (exact hx.2.2.2.2.2.2) | first | (exact hx.2.2.2.2.2.1) | exact szA)) .nil (dv (dn_low (Low.agg' (State.lo))) .nil) (rO rr .nil) (ren_agg (r1 (rv (Ren.low _ lw) (.cons _ _ _ _ (rw_ 2 0 rfl) (rv (Ren.low _ lw) (rv (Ren.low _ lw) (rv (Ren.low _ lw) (r1 (r1 .nil)))))))))) ?_; refine ACalls.of_cwp (fun _ => true) Tryz.func33 rfl rfl ?_; refine loop_start3 (fun (i : Nat) (c : List Job) (c2 : State) => nag_Clock_k1 (nag_Clock_g1 (List.drop i s.jobs) i c c2).1 (nag_Clock_g1 (List.drop i s.jobs) i c c2).2 = R ∧ i <= s.jobs.length ∧ c2.jobs.length = s.jobs.length ∧ c2.sz) (fun i c c2 => s.jobs.length - i) (fun i c c2 => [(1, AVal.ptr 3 0 8 0 0), (2, AVal.ptr 4 0 8 0 0), (11, AVal.own 2 0 20 0 c2.jobs.length), (12, I (s.jobs.length : Int)), (13, I (i : Int))]) (fun i c c2 => [(0, AObj.row 28 8 [[I s.now, nodeL s.nodes, jobL s.jobs, resizeL s.resizes, bookL s.books, usageL s.ledger, I s.nextJob, I s.nextBook]]), (0, AObj.row 28 8 [[I 0, AVal.lit (.slice none 0 0), AVal.lit (.slice none 0 0), AVal.lit (.slice none 0 0), AVal.lit (.slice none 0 0), AVal.lit (.slice none 0 0), I 0, I 0]]), (0, AObj.row 52 20 (c2.jobs.map Job.cells)), (0, AObj.row 28 8 [[I c2.now, nodeL c2.nodes, AVal.own 2 0 20 0 c2.jobs.length, resizeL c2.resizes, bookL c2.books, usageL c2.ledger, I c2.nextJob, I c2.nextBook]]), (0, AObj.row 28 8 [[I 0, AVal.lit (.slice none 0 0), AVal.lit (.slice none 0 0), AVal.lit (.slice none 0 0), AVal.lit (.slice none 0 0), AVal.lit (.slice none 0 0), I 0, I 0]])]) 0 s.jobs s (wk [0, 1, 2, 3, 4] (tO rfl (ts State.lo) (tO rfl (ts (l1 (l1 (l1 (l1 (l1 (l1 (l1 (l1 LowL.nil))))))))) (tO rfl (tl eqA) (tO rfl (turn_row1 (c1 (cv (turn_low lw) (cv (to 2 lnA) (cv (turn_low lw) (cv (turn_low lw) (cv (turn_low lw) (c1 (c1 .nil))))))))) (tO rfl (ts (l1 (l1 (l1 (l1 (l1 (l1 (l1 (l1 LowL.nil))))))))) .nil))))) (sv (turn_ptr 3 rfl rfl) (sv (turn_ptr 4 rfl rfl) (sv (to 2 lnA) (s1 (s1 .nil)))))) ⟨foll hR (cf h2 (cf h4 rfl)), by exact omA, by first | (exact ⟨rfl, hk0⟩) | first | (exact hx) | first | (exact ⟨(List.length_set ..).trans hx.1, tick_led (tick_jobs hx.2 i _) (getD_sz hx.2.2.2.1 (Job.szz _)).2.1 (getD_sz hx.2.2.2.1 (Job.szz _)).2.2.1 (by assumption)⟩) | first | (exact ⟨(List.length_set ..).trans hx.1, tick_jobs hx.2 i _⟩) | first | (exact ⟨hx.1, tick_led hx.2 (getD_sz hx.2.2.2.1 (Job.szz _)).2.1 (getD_sz hx.2.2.2.1 (Job.szz _)).2.2.1 (by assumption)⟩) | exact exA⟩ ?_; clear hR; rintro i c c2 ⟨hR, hj, hx⟩; (try dsimp only at hR hj hx); refine ai (fun h5 => ?_) (fun h6 => ?_)
   ·have hlt := ltA h5; rw [drop_getD Job.zero hlt] at hR; have hxz : (s.jobs.getD i Job.zero).sz := getD_sz (by first | assumption | grind) (Job.szz _); have hkz := hxz; obtain ⟨z7, z8, z9, z10, z11⟩ : ((s.jobs.getD i Job.zero).name).size <= 4294967296 ∧ ((s.jobs.getD i Job.zero).user).size <= 4294967296 ∧ ((s.jobs.getD i Job.zero).account).size <= 4294967296 ∧ ((((s.jobs.getD i Job.zero).shape).alts).length <= 4294967296) ∧ ((s.jobs.getD i Job.zero).after).length <= 4294967296 := hxz; refine ai gkA ?_; refine ⟨_, evalOp_load rfl rfl rfl (elemI_at Job.zero i roA ckA) rfl, ?_⟩; refine ai (fun h12 => ?_) (fun h13 => ?_)
    ·exact loop_next3 (i + 1) c2.jobs c2 (wk [0, 1, 2, 3, 4] (tO rfl (ts State.lo) (tO rfl (ts (l1 (l1 (l1 (l1 (l1 (l1 (l1 (l1 LowL.nil))))))))) (tO rfl (tl eqA) (tO rfl (turn_row1 (c1 (cv (turn_low lw) (cv (to 2 lnA) (cv (turn_low lw) (cv (turn_low lw) (cv (turn_low lw) (c1 (c1 .nil))))))))) (tO rfl (ts (l1 (l1 (l1 (l1 (l1 (l1 (l1 (l1 LowL.nil))))))))) .nil))))) (sv (turn_ptr 3 rfl rfl) (sv (turn_ptr 4 rfl rfl) (sv (to 2 lnA) (s1 (sv (turn_eq (I_eq (wr omA)) lx) .nil)))))) omA ⟨foll hR (congrArg (fun p : (List Job) × State => nag_Clock_k1 p.1 p.2) (ct h12 rfl)), by exact omA, by first | (exact ⟨rfl, hk0⟩) | first | (exact hx) | first | (exact ⟨(List.length_set ..).trans hx.1, tick_led (tick_jobs hx.2 i _) (getD_sz hx.2.2.2.1 (Job.szz _)).2.1 (getD_sz hx.2.2.2.1 (Job.szz _)).2.2.1 (by assumption)⟩) | first | (exact ⟨(List.length_set ..).trans hx.1, tick_jobs hx.2 i _⟩) | first | (exact ⟨hx.1, tick_led hx.2 (getD_sz hx.2.2.2.1 (Job.szz _)).2.1 (getD_sz hx.2.2.2.1 (Job.szz _)).2.2.1 (by assumption)⟩) | exact exA⟩
    ·refine us (nodeset_Count_c ((c2.jobs.getD i Job.zero).nodes) _) ?_; refine us (job_Charge_c (c2.jobs.getD i Job.zero) (nodeset_Count ((c2.jobs.getD i Job.zero).nodes)) (by first | (exact getD_sz hx.2.2.2.1 (Job.szz _)) | first | (exact (getD_sz hx.2.2.2.1 (Job.szz _)).2.1) | first | (exact (getD_sz hx.2.2.2.1 (Job.szz _)).2.2.1) | first | (exact hx.2.2.2.2.2.2) | first | (exact hx.2.2.2.2.2.1) | exact szA) _) ?_; refine ai (fun h14 => ?_) (fun h15 => ?_)
     ·refine ai gkA ?_; refine ⟨_, evalOp_store rfl rfl rfl rfl (elemI_at Job.zero i roA ckA) rfl rfl (set_map i ((job_Charge (c2.jobs.getD i Job.zero) (nodeset_Count ((c2.jobs.getD i Job.zero).nodes))).1) roA rfl), ?_⟩; refine us (ledger_Charge_c c2.ledger ((c2.jobs.getD i Job.zero).user) ((c2.jobs.getD i Job.zero).account) (nodeset_Count ((c2.jobs.getD i Job.zero).nodes)) (by first | (exact getD_sz hx.2.2.2.1 (Job.szz _)) | first | (exact (getD_sz hx.2.2.2.1 (Job.szz _)).2.1) | first | (exact (getD_sz hx.2.2.2.1 (Job.szz _)).2.2.1) | first | (exact hx.2.2.2.2.2.2) | first | (exact hx.2.2.2.2.2.1) | exact szA) (by first | (exact getD_sz hx.2.2.2.1 (Job.szz _)) | first | (exact (getD_sz hx.2.2.2.1 (Job.szz _)).2.1) | first | (exact (getD_sz hx.2.2.2.1 (Job.szz _)).2.2.1) | first | (exact hx.2.2.2.2.2.2) | first | (exact hx.2.2.2.2.2.1) | exact szA) (by first | (exact getD_sz hx.2.2.2.1 (Job.szz _)) | first | (exact (getD_sz hx.2.2.2.1 (Job.szz _)).2.1) | first | (exact (getD_sz hx.2.2.2.1 (Job.szz _)).2.2.1) | first | (exact hx.2.2.2.2.2.2) | first | (exact hx.2.2.2.2.2.1) | exact szA) _) ?_; refine ai (fun h16 => ?_) (fun h17 => ?_)
      ·exact loop_next3 (i + 1) (c2.jobs.set i ((job_Charge (c2.jobs.getD i Job.zero) (nodeset_Count ((c2.jobs.getD i Job.zero).nodes))).1)) { c2 with jobs := (c2.jobs.set i ((job_Charge (c2.jobs.getD i Job.zero) (nodeset_Count ((c2.jobs.getD i Job.zero).nodes))).1)), ledger := (ledger_Charge c2.ledger ((c2.jobs.getD i Job.zero).user) ((c2.jobs.getD i Job.zero).account) (nodeset_Count ((c2.jobs.getD i Job.zero).nodes))).1 } (wk [0, 1, 2, 3, 4] (tO rfl (ts State.lo) (tO rfl (ts (l1 (l1 (l1 (l1 (l1 (l1 (l1 (l1 LowL.nil))))))))) (tO rfl (tl eqA) (tO rfl (turn_row1 (c1 (cv (turn_low lw) (cv (to 2 lnA) (cv (turn_low lw) (cv (turn_low lw) (cv (turn_low lw) (c1 (c1 .nil))))))))) (tO rfl (ts (l1 (l1 (l1 (l1 (l1 (l1 (l1 (l1 LowL.nil))))))))) .nil))))) (sv (turn_ptr 3 rfl rfl) (sv (turn_ptr 4 rfl rfl) (sv (to 2 lnA) (s1 (sv (turn_eq (I_eq (wr omA)) lx) .nil)))))) omA ⟨foll hR (congrArg (fun p : (List Job) × State => nag_Clock_k1 p.1 p.2) (cf h13 (ct h14 (ct h16 rfl)))), by exact omA, by first | (exact ⟨rfl, hk0⟩) | first | (exact hx) | first | (exact ⟨(List.length_set ..).trans hx.1, tick_led (tick_jobs hx.2 i _) (getD_sz hx.2.2.2.1 (Job.szz _)).2.1 (getD_sz hx.2.2.2.1 (Job.szz _)).2.2.1 (by assumption)⟩) | first | (exact ⟨(List.length_set ..).trans hx.1, tick_jobs hx.2 i _⟩) | first | (exact ⟨hx.1, tick_led hx.2 (getD_sz hx.2.2.2.1 (Job.szz _)).2.1 (getD_sz hx.2.2.2.1 (Job.szz _)).2.2.1 (by assumption)⟩) | exact exA⟩
      ·exact loop_next3 (i + 1) (c2.jobs.set i ((job_Charge (c2.jobs.getD i Job.zero) (nodeset_Count ((c2.jobs.getD i Job.zero).nodes))).1)) { c2 with jobs := (c2.jobs.set i ((job_Charge (c2.jobs.getD i Job.zero) (nodeset_Count ((c2.jobs.getD i Job.zero).nodes))).1)) } (wk [0, 1, 2, 3, 4] (tO rfl (ts State.lo) (tO rfl (ts (l1 (l1 (l1 (l1 (l1 (l1 (l1 (l1 LowL.nil))))))))) (tO rfl (tl eqA) (tO rfl (turn_row1 (c1 (cv (turn_low lw) (cv (to 2 lnA) (cv (turn_low lw) (cv (turn_low lw) (cv (turn_low lw) (c1 (c1 .nil))))))))) (tO rfl (ts (l1 (l1 (l1 (l1 (l1 (l1 (l1 (l1 LowL.nil))))))))) .nil))))) (sv (turn_ptr 3 rfl rfl) (sv (turn_ptr 4 rfl rfl) (sv (to 2 lnA) (s1 (sv (turn_eq (I_eq (wr omA)) lx) .nil)))))) omA ⟨foll hR (congrArg (fun p : (List Job) × State => nag_Clock_k1 p.1 p.2) (cf h13 (ct h14 (cf h17 rfl)))), by exact omA, by first | (exact ⟨rfl, hk0⟩) | first | (exact hx) | first | (exact ⟨(List.length_set ..).trans hx.1, tick_led (tick_jobs hx.2 i _) (getD_sz hx.2.2.2.1 (Job.szz _)).2.1 (getD_sz hx.2.2.2.1 (Job.szz _)).2.2.1 (by assumption)⟩) | first | (exact ⟨(List.length_set ..).trans hx.1, tick_jobs hx.2 i _⟩) | first | (exact ⟨hx.1, tick_led hx.2 (getD_sz hx.2.2.2.1 (Job.szz _)).2.1 (getD_sz hx.2.2.2.1 (Job.szz _)).2.2.1 (by assumption)⟩) | exact exA⟩
     ·refine us (ledger_Charge_c c2.ledger ((c2.jobs.getD i Job.zero).user) ((c2.jobs.getD i Job.zero).account) (nodeset_Count ((c2.jobs.getD i Job.zero).nodes)) (by first | (exact getD_sz hx.2.2.2.1 (Job.szz _)) | first | (exact (getD_sz hx.2.2.2.1 (Job.szz _)).2.1) | first | (exact (getD_sz hx.2.2.2.1 (Job.szz _)).2.2.1) | first | (exact hx.2.2.2.2.2.2) | first | (exact hx.2.2.2.2.2.1) | exact szA) (by first | (exact getD_sz hx.2.2.2.1 (Job.szz _)) | first | (exact (getD_sz hx.2.2.2.1 (Job.szz _)).2.1) | first | (exact (getD_sz hx.2.2.2.1 (Job.szz _)).2.2.1) | first | (exact hx.2.2.2.2.2.2) | first | (exact hx.2.2.2.2.2.1) | exact szA) (by first | (exact getD_sz hx.2.2.2.1 (Job.szz _)) | first | (exact (getD_sz hx.2.2.2.1 (Job.szz _)).2.1) | first | (exact (getD_sz hx.2.2.2.1 (Job.szz _)).2.2.1) | first | (exact hx.2.2.2.2.2.2) | first | (exact hx.2.2.2.2.2.1) | exact szA) _) ?_; refine ai (fun h18 => ?_) (fun h19 => ?_)
      ·exact loop_next3 (i + 1) c2.jobs { c2 with ledger := (ledger_Charge c2.ledger ((c2.jobs.getD i Job.zero).user) ((c2.jobs.getD i Job.zero).account) (nodeset_Count ((c2.jobs.getD i Job.zero).nodes))).1 } (wk [0, 1, 2, 3, 4] (tO rfl (ts State.lo) (tO rfl (ts (l1 (l1 (l1 (l1 (l1 (l1 (l1 (l1 LowL.nil))))))))) (tO rfl (tl eqA) (tO rfl (turn_row1 (c1 (cv (turn_low lw) (cv (to 2 lnA) (cv (turn_low lw) (cv (turn_low lw) (cv (turn_low lw) (c1 (c1 .nil))))))))) (tO rfl (ts (l1 (l1 (l1 (l1 (l1 (l1 (l1 (l1 LowL.nil))))))))) .nil))))) (sv (turn_ptr 3 rfl rfl) (sv (turn_ptr 4 rfl rfl) (sv (to 2 lnA) (s1 (sv (turn_eq (I_eq (wr omA)) lx) .nil)))))) omA ⟨foll hR (congrArg (fun p : (List Job) × State => nag_Clock_k1 p.1 p.2) (cf h13 (cf h15 (ct h18 rfl)))), by exact omA, by first | (exact ⟨rfl, hk0⟩) | first | (exact hx) | first | (exact ⟨(List.length_set ..).trans hx.1, tick_led (tick_jobs hx.2 i _) (getD_sz hx.2.2.2.1 (Job.szz _)).2.1 (getD_sz hx.2.2.2.1 (Job.szz _)).2.2.1 (by assumption)⟩) | first | (exact ⟨(List.length_set ..).trans hx.1, tick_jobs hx.2 i _⟩) | first | (exact ⟨hx.1, tick_led hx.2 (getD_sz hx.2.2.2.1 (Job.szz _)).2.1 (getD_sz hx.2.2.2.1 (Job.szz _)).2.2.1 (by assumption)⟩) | exact exA⟩
      ·exact loop_next3 (i + 1) c2.jobs c2 (wk [0, 1, 2, 3, 4] (tO rfl (ts State.lo) (tO rfl (ts (l1 (l1 (l1 (l1 (l1 (l1 (l1 (l1 LowL.nil))))))))) (tO rfl (tl eqA) (tO rfl (turn_row1 (c1 (cv (turn_low lw) (cv (to 2 lnA) (cv (turn_low lw) (cv (turn_low lw) (cv (turn_low lw) (c1 (c1 .nil))))))))) (tO rfl (ts (l1 (l1 (l1 (l1 (l1 (l1 (l1 (l1 LowL.nil))))))))) .nil))))) (sv (turn_ptr 3 rfl rfl) (sv (turn_ptr 4 rfl rfl) (sv (to 2 lnA) (s1 (sv (turn_eq (I_eq (wr omA)) lx) .nil)))))) omA ⟨foll hR (congrArg (fun p : (List Job) × State => nag_Clock_k1 p.1 p.2) (cf h13 (cf h15 (cf h19 rfl)))), by exact omA, by first | (exact ⟨rfl, hk0⟩) | first | (exact hx) | first | (exact ⟨(List.length_set ..).trans hx.1, tick_led (tick_jobs hx.2 i _) (getD_sz hx.2.2.2.1 (Job.szz _)).2.1 (getD_sz hx.2.2.2.1 (Job.szz _)).2.2.1 (by assumption)⟩) | first | (exact ⟨(List.length_set ..).trans hx.1, tick_jobs hx.2 i _⟩) | first | (exact ⟨hx.1, tick_led hx.2 (getD_sz hx.2.2.2.1 (Job.szz _)).2.1 (getD_sz hx.2.2.2.1 (Job.szz _)).2.2.1 (by assumption)⟩) | exact exA⟩
   ·rw [drop_none (l := s.jobs) (j := i) (geA h6)] at hR; replace hR : nag_Clock_k1 c2.jobs c2 = R := fo2 (fun p : (List Job) × State => nag_Clock_k1 p.1 p.2) (c2.jobs, c2) hR rfl; refine ⟨_, _, Told.refl, ?_⟩; refine ai gkA ?_; refine ai (fun h20 => ?_) (fun h21 => ?_)
    ·refine us (ledger_Decay_c c2.ledger (by first | (exact getD_sz hx.2.2.2.1 (Job.szz _)) | first | (exact (getD_sz hx.2.2.2.1 (Job.szz _)).2.1) | first | (exact (getD_sz hx.2.2.2.1 (Job.szz _)).2.2.1) | first | (exact hx.2.2.2.2.2.2) | first | (exact hx.2.2.2.2.2.1) | exact szA) _) ?_; refine us (book_Past_c c2.books (w64 (c2.now + 1)) (by first | (exact getD_sz hx.2.2.2.1 (Job.szz _)) | first | (exact (getD_sz hx.2.2.2.1 (Job.szz _)).2.1) | first | (exact (getD_sz hx.2.2.2.1 (Job.szz _)).2.2.1) | first | (exact hx.2.2.2.2.2.2) | first | (exact hx.2.2.2.2.2.1) | exact szA) _) ?_; obtain rfl := foll hR (ct h20 rfl); exact ret_seen (Low.tup' (.cons (State.low _ _) (l1 .nil))) (Seen.tup (ev (Seen.agg (e1 (e1 (ev (seen_list Job.zero _ rfl eqA lnA) (e1 (e1 (e1 (e1 (e1 .nil))))))))) (e1 .nil)))
    ·refine us (book_Past_c c2.books (w64 (c2.now + 1)) (by first | (exact getD_sz hx.2.2.2.1 (Job.szz _)) | first | (exact (getD_sz hx.2.2.2.1 (Job.szz _)).2.1) | first | (exact (getD_sz hx.2.2.2.1 (Job.szz _)).2.2.1) | first | (exact hx.2.2.2.2.2.2) | first | (exact hx.2.2.2.2.2.1) | exact szA) _) ?_; obtain rfl := foll hR (cf h21 rfl); exact ret_seen (Low.tup' (.cons (State.low _ _) (l1 .nil))) (Seen.tup (ev (Seen.agg (e1 (e1 (ev (seen_list Job.zero _ rfl eqA lnA) (e1 (e1 (e1 (e1 (e1 .nil))))))))) (e1 .nil)))
def nag_Resend_g1 (s : State) : List Node -> List Int -> Nat -> (List Int)
 | [], out, _ => out
 | _ :: r, out, i => bif (nag_at_again s.now (s.nodes.getD i Node.zero)) then nag_Resend_g1 s r (out ++ ([(i : Int)] : List Int)) (i + 1) else nag_Resend_g1 s r out (i + 1)
def nag_Resend_k2 (l : List Int) (c : State) : State × (List Note) := (c, (alloc_Notes c.nodes l))
def nag_Resend_g3 (s : State) (out : List Int) : List Int -> Nat -> List Node -> (List Node)
 | [], _, c2 => c2
 | _ :: r, i1, c2 => nag_Resend_g3 s out r (i1 + 1) (c2.set (Int.toNat (out.getD i1 0)) { (c2.getD (Int.toNat (out.getD i1 0)) Node.zero) with asked := s.now })
def nag_Resend_k3 (s : State) (out : List Int) (c2 : List Node) : State × (List Note) := nag_Resend_k2 out { s with nodes := c2 }
def nag_Resend_k1 (s : State) (out : List Int) : State × (List Note) := nag_Resend_k3 s out (nag_Resend_g3 s out out 0 s.nodes)
def nag_Resend (s : State) : State × (List Note) := bif ((state_Check s) != 0) then (State.zero, []) else nag_Resend_k1 s (nag_Resend_g1 s s.nodes [] 0)
theorem nag_Resend_c (s : State) (hs0 : s.sz) : ∀ objs, AGives Tryz.prog 12 [State.a s] objs (AVal.tup [State.a ((nag_Resend s).1), noteL ((nag_Resend s).2)]) := by
 generalize hR : nag_Resend s = R; refine ga (.cons (State.low _ _) .nil) (Low.tup' (.cons (State.low _ _) (.cons lw .nil))) (kj [1000010] 8 [10, 20, 21, 22, 23]) Tryz.func12 ?_; have hk0 := hs0; obtain ⟨z9, z10, z11, z12, z13, z14, z15⟩ := hs0; refine us (state_Check_c s szA _) ?_; refine ai (fun h1 => ?_) (fun h2 => ?_)
 ·obtain rfl := foll hR (ct h1 rfl); exact ret_seen (Low.tup' (.cons (State.low _ _) (.cons lw .nil))) (Seen.tup (ev (Seen.agg (e1 (ev (seen_nil) (ev (seen_nil) (ev (seen_nil) (ev (seen_nil) (ev (seen_nil) (e1 (e1 .nil))))))))) (ev (seen_nil) .nil)))
 ·refine us (mv [] (state_Copy_o s szA) .nil (dv (dn_low (Low.agg' (State.lo))) .nil) (rO rr (rO rr (rO rr (rO rr (rO rr .nil))))) (ren_agg (r1 (.cons _ _ _ _ (rw_ 2 0 rfl) (.cons _ _ _ _ (rw_ 3 0 rfl) (.cons _ _ _ _ (rw_ 4 0 rfl) (.cons _ _ _ _ (rw_ 5 0 rfl) (.cons _ _ _ _ (rw_ 6 0 rfl) (r1 (r1 .nil)))))))))) ?_; refine ACalls.of_cwp (fun _ => true) Tryz.func47 rfl rfl ?_; refine loop_start2 (fun (out : List Int) (i : Nat) => nag_Resend_k1 s (nag_Resend_g1 s (List.drop i s.nodes) out i) = R ∧ i <= s.nodes.length ∧ (∀ y ∈ out, 0 <= y ∧ y < (i : Int)) ∧ out.length <= i) (fun out i => s.nodes.length - i) (fun out i => [(1, AVal.fn (.func 48) [I s.now] []), (4, AVal.lit (.slice none 0 0)), (5, AVal.own 8 0 1 0 out.length), (8, AVal.own 2 0 7 0 s.nodes.length), (9, I (s.nodes.length : Int)), (10, I (i : Int))]) (fun out i => [(0, AObj.row 28 8 [[I s.now, nodeL s.nodes, jobL s.jobs, resizeL s.resizes, bookL s.books, usageL s.ledger, I s.nextJob, I s.nextBook]]), (0, AObj.row 28 8 [[I 0, AVal.lit (.slice none 0 0), AVal.lit (.slice none 0 0), AVal.lit (.slice none 0 0), AVal.lit (.slice none 0 0), AVal.lit (.slice none 0 0), I 0, I 0]]), (0, AObj.row 57 7 (s.nodes.map Node.cells)), (0, AObj.row 52 20 (s.jobs.map Job.cells)), (0, AObj.row 88 5 (s.resizes.map Resize.cells)), (0, AObj.row 90 4 (s.books.map Book.cells)), (0, AObj.row 67 4 (s.ledger.map Usage.cells)), (0, AObj.row 28 8 [[I s.now, AVal.own 2 0 7 0 s.nodes.length, AVal.own 3 0 20 0 s.jobs.length, AVal.own 4 0 5 0 s.resizes.length, AVal.own 5 0 4 0 s.books.length, AVal.own 6 0 4 0 s.ledger.length, I s.nextJob, I s.nextBook]]), (0, AObj.row 3 1 (out.map (fun q_ => [I q_])))]) [] 0 ((weaker_none 3 1).trans (wk [0, 1, 2, 3, 4, 5, 6, 7, 8] (tO rfl (ts State.lo) (tO rfl (ts (l1 (l1 (l1 (l1 (l1 (l1 (l1 (l1 LowL.nil))))))))) (tO rfl (tl eqA) (tO rfl (tl eqA) (tO rfl (tl eqA) (tO rfl (tl eqA) (tO rfl (tl eqA) (tO rfl (turn_row1 (c1 (cv (to 2 lnA) (cv (to 3 lnA) (cv (to 4 lnA) (cv (to 5 lnA) (cv (to 6 lnA) (c1 (c1 .nil))))))))) (tO rfl (tl eqA) .nil))))))))) (sv (turn_low (Low.fn _ _ _ (l1 LowL.nil) LowL.nil)) (s1 (sv (turn_nilown 8 rfl) (sv (to 2 lnA) (s1 (s1 .nil)))))))) ⟨foll hR (cf h2 rfl), by exact omA, by first | (exact ⟨fun y hy => absurd hy List.not_mem_nil, Nat.le_refl _⟩) | first | (refine ⟨fun y hy => ?_, by simp; omega⟩; rcases List.mem_append.1 hy with hy | hy; have := hx.1 y hy; omega; rw [List.mem_singleton.1 hy]; omega) | first | (exact ⟨fun y hy => by have := hx.1 y hy; omega, by omega⟩) | first | (exact ⟨fun y hy => by have := hx.1 y hy; omega, by omega, rfl⟩) | first | (exact ⟨hx.1, hx.2.1, (List.length_set ..).trans hx.2.2⟩) | first | (exact ⟨by show c2.length <= _; omega, by omega⟩) | exact exA⟩ ?_; clear hR; rintro out i ⟨hR, hj, hx⟩; (try dsimp only at hR hj hx); refine ai (fun h3 => ?_) (fun h4 => ?_)
  ·have hlt := ltA h3; rw [drop_getD Node.zero hlt] at hR; refine And.intro (by first | exact fun hg => decide_eq_true (by first | (have hq := hx.1 (out.getD i1 0) (by rw [List.getD_eq_getElem?_getD, List.getElem?_eq_getElem hlt]; exact List.getElem_mem hlt); omega) | exact ckA) | exact gkA) ?_; refine ⟨_, evalOp_load rfl rfl rfl (elemI_at Node.zero i roA (by first | (have hq := hx.1 (out.getD i1 0) (by rw [List.getD_eq_getElem?_getD, List.getElem?_eq_getElem hlt]; exact List.getElem_mem hlt); omega) | exact ckA)) rfl, ?_⟩; refine us (nag_at_again_c s.now (s.nodes.getD i Node.zero) _) ?_; refine ai (fun h5 => ?_) (fun h6 => ?_)
   ·refine Or.inl ?_; (first | refine ⟨app_ok 8 rfl lnA apA, ?_⟩ | refine ⟨app_nil 8 rfl apA, ?_⟩); exact loop_next2 (out ++ ([(i : Int)] : List Int)) (i + 1) (wk [0, 1, 2, 3, 4, 5, 6, 7, 8] (tO rfl (ts State.lo) (tO rfl (ts (l1 (l1 (l1 (l1 (l1 (l1 (l1 (l1 LowL.nil))))))))) (tO rfl (tl eqA) (tO rfl (tl eqA) (tO rfl (tl eqA) (tO rfl (tl eqA) (tO rfl (tl eqA) (tO rfl (turn_row1 (c1 (cv (to 2 lnA) (cv (to 3 lnA) (cv (to 4 lnA) (cv (to 5 lnA) (cv (to 6 lnA) (c1 (c1 .nil))))))))) (tO rfl (tl eqA) .nil))))))))) (sv (turn_low (Low.fn _ _ _ (l1 LowL.nil) LowL.nil)) (s1 (sv (to 8 lnA) (sv (to 2 lnA) (s1 (sv (turn_eq (I_eq (wr omA)) lx) .nil))))))) omA ⟨foll hR (congrArg (fun p : (List Int) => nag_Resend_k1 s p) (ct h5 rfl)), by exact omA, by first | (exact ⟨fun y hy => absurd hy List.not_mem_nil, Nat.le_refl _⟩) | first | (refine ⟨fun y hy => ?_, by simp; omega⟩; rcases List.mem_append.1 hy with hy | hy; have := hx.1 y hy; omega; rw [List.mem_singleton.1 hy]; omega) | first | (exact ⟨fun y hy => by have := hx.1 y hy; omega, by omega⟩) | first | (exact ⟨fun y hy => by have := hx.1 y hy; omega, by omega, rfl⟩) | first | (exact ⟨hx.1, hx.2.1, (List.length_set ..).trans hx.2.2⟩) | first | (exact ⟨by show c2.length <= _; omega, by omega⟩) | exact exA⟩
   ·exact loop_next2 out (i + 1) (wk [0, 1, 2, 3, 4, 5, 6, 7, 8] (tO rfl (ts State.lo) (tO rfl (ts (l1 (l1 (l1 (l1 (l1 (l1 (l1 (l1 LowL.nil))))))))) (tO rfl (tl eqA) (tO rfl (tl eqA) (tO rfl (tl eqA) (tO rfl (tl eqA) (tO rfl (tl eqA) (tO rfl (turn_row1 (c1 (cv (to 2 lnA) (cv (to 3 lnA) (cv (to 4 lnA) (cv (to 5 lnA) (cv (to 6 lnA) (c1 (c1 .nil))))))))) (tO rfl (tl eqA) .nil))))))))) (sv (turn_low (Low.fn _ _ _ (l1 LowL.nil) LowL.nil)) (s1 (sv (to 8 lnA) (sv (to 2 lnA) (s1 (sv (turn_eq (I_eq (wr omA)) lx) .nil))))))) omA ⟨foll hR (congrArg (fun p : (List Int) => nag_Resend_k1 s p) (cf h6 rfl)), by exact omA, by first | (exact ⟨fun y hy => absurd hy List.not_mem_nil, Nat.le_refl _⟩) | first | (refine ⟨fun y hy => ?_, by simp; omega⟩; rcases List.mem_append.1 hy with hy | hy; have := hx.1 y hy; omega; rw [List.mem_singleton.1 hy]; omega) | first | (exact ⟨fun y hy => by have := hx.1 y hy; omega, by omega⟩) | first | (exact ⟨fun y hy => by have := hx.1 y hy; omega, by omega, rfl⟩) | first | (exact ⟨hx.1, hx.2.1, (List.length_set ..).trans hx.2.2⟩) | first | (exact ⟨by show c2.length <= _; omega, by omega⟩) | exact exA⟩
  ·rw [drop_none (l := s.nodes) (j := i) (geA h4)] at hR; replace hR : nag_Resend_k1 s out = R := fo2 (fun p : (List Int) => nag_Resend_k1 s p) (out) hR rfl; refine ⟨_, _, Told.refl, ?_⟩; refine join_start2 (fun (l : List Int) (c : State) => nag_Resend_k2 l c = R ∧ c.nodes.length <= 4294967296 ∧ l.length <= 4294967296) (fun l c => [(2, AVal.ptr 0 0 8 0 0), (3, AVal.lit (.slice none 0 0)), (4, AVal.ptr 1 0 8 0 0), (5, ints l)]) (fun l c => [(0, AObj.row 28 8 [[I 0, AVal.lit (.slice none 0 0), AVal.lit (.slice none 0 0), AVal.lit (.slice none 0 0), AVal.lit (.slice none 0 0), AVal.lit (.slice none 0 0), I 0, I 0]]), (0, AObj.row 28 8 [[I c.now, nodeL c.nodes, jobL c.jobs, resizeL c.resizes, bookL c.books, usageL c.ledger, I c.nextJob, I c.nextBook]])]) ?_ ?_
   ·clear hR; rintro l c ⟨hR, hx⟩; (try dsimp only at hR hx); refine dchk (by kernel_rfl) ?_; (first | apply u2 | apply u3 | apply u4 | apply us); exact alloc_Notes_c c.nodes l szA szA _; (repeat ((first | refine ai rfl ?_ | refine ai (fun _ => rfl) ?_ | refine ai (fun _ => alloc_Notes_c c.nodes l szA szA _) ?_))); obtain rfl := foll hR rfl; exact ret_seen (Low.tup' (.cons (State.low _ _) (.cons lw .nil))) (Seen.tup (e1 (e1 .nil)))
   ·refine loop_start2 (fun (i1 : Nat) (c2 : List Node) => nag_Resend_k3 s out (nag_Resend_g3 s out (List.drop i1 out) i1 c2) = R ∧ i1 <= out.length ∧ (∀ y ∈ out, 0 <= y ∧ y < (s.nodes.length : Int)) ∧ out.length <= s.nodes.length ∧ c2.length = s.nodes.length) (fun i1 c2 => out.length - i1) (fun i1 c2 => [(2, AVal.ptr 0 0 8 0 0), (3, AVal.lit (.slice none 0 0)), (4, AVal.ptr 6 0 8 0 0), (5, AVal.own 7 0 1 0 out.length), (20, AVal.own 7 0 1 0 out.length), (21, I (out.length : Int)), (22, I (i1 : Int))]) (fun i1 c2 => [(0, AObj.row 28 8 [[I 0, AVal.lit (.slice none 0 0), AVal.lit (.slice none 0 0), AVal.lit (.slice none 0 0), AVal.lit (.slice none 0 0), AVal.lit (.slice none 0 0), I 0, I 0]]), (0, AObj.row 57 7 (c2.map Node.cells)), (0, AObj.row 52 20 (s.jobs.map Job.cells)), (0, AObj.row 88 5 (s.resizes.map Resize.cells)), (0, AObj.row 90 4 (s.books.map Book.cells)), (0, AObj.row 67 4 (s.ledger.map Usage.cells)), (0, AObj.row 28 8 [[I s.now, AVal.own 1 0 7 0 c2.length, AVal.own 2 0 20 0 s.jobs.length, AVal.own 3 0 5 0 s.resizes.length, AVal.own 4 0 4 0 s.books.length, AVal.own 5 0 4 0 s.ledger.length, I s.nextJob, I s.nextBook]]), (0, AObj.row 3 1 (out.map (fun q_ => [I q_])))]) 0 s.nodes (wk [1, 2, 3, 4, 5, 6, 7, 8] (tO rfl (ts (l1 (l1 (l1 (l1 (l1 (l1 (l1 (l1 LowL.nil))))))))) (tO rfl (tl eqA) (tO rfl (tl eqA) (tO rfl (tl eqA) (tO rfl (tl eqA) (tO rfl (tl eqA) (tO rfl (turn_row1 (c1 (cv (to 1 lnA) (cv (to 2 lnA) (cv (to 3 lnA) (cv (to 4 lnA) (cv (to 5 lnA) (c1 (c1 .nil))))))))) (tO rfl (tl eqA) .nil)))))))) (sv (turn_ptr 0 rfl rfl) (s1 (sv (turn_ptr 6 rfl rfl) (sv (to 7 lnA) (sv (to 7 lnA) (s1 (s1 .nil)))))))) ⟨foll hR rfl, by exact omA, by first | (exact ⟨fun y hy => absurd hy List.not_mem_nil, Nat.le_refl _⟩) | first | (refine ⟨fun y hy => ?_, by simp; omega⟩; rcases List.mem_append.1 hy with hy | hy; have := hx.1 y hy; omega; rw [List.mem_singleton.1 hy]; omega) | first | (exact ⟨fun y hy => by have := hx.1 y hy; omega, by omega⟩) | first | (exact ⟨fun y hy => by have := hx.1 y hy; omega, by omega, rfl⟩) | first | (exact ⟨hx.1, hx.2.1, (List.length_set ..).trans hx.2.2⟩) | first | (exact ⟨by show c2.length <= _; omega, by omega⟩) | exact exA⟩ ?_; clear hR; rintro i1 c2 ⟨hR, hj, hx⟩; (try dsimp only at hR hj hx); refine ai (fun h7 => ?_) (fun h8 => ?_)
    ·have hlt := ltA h7; rw [drop_getD 0 hlt] at hR; refine And.intro (by first | exact fun hg => decide_eq_true (by first | (have hq := hx.1 (out.getD i1 0) (by rw [List.getD_eq_getElem?_getD, List.getElem?_eq_getElem hlt]; exact List.getElem_mem hlt); omega) | exact ckA) | exact gkA) ?_; refine ⟨_, evalOp_load rfl rfl rfl (elemI_at 0 i1 roA (by first | (have hq := hx.1 (out.getD i1 0) (by rw [List.getD_eq_getElem?_getD, List.getElem?_eq_getElem hlt]; exact List.getElem_mem hlt); omega) | exact ckA)) rfl, ?_⟩; refine And.intro (by first | exact fun hg => decide_eq_true (by first | (have hq := hx.1 (out.getD i1 0) (by rw [List.getD_eq_getElem?_getD, List.getElem?_eq_getElem hlt]; exact List.getElem_mem hlt); omega) | exact ckA) | exact gkA) ?_; refine ⟨_, evalOp_store rfl rfl rfl rfl (elemI_at Node.zero (Int.toNat (out.getD i1 0)) roA (by first | (have hq := hx.1 (out.getD i1 0) (by rw [List.getD_eq_getElem?_getD, List.getElem?_eq_getElem hlt]; exact List.getElem_mem hlt); omega) | exact ckA)) rfl rfl (set_map (Int.toNat (out.getD i1 0)) { (c2.getD (Int.toNat (out.getD i1 0)) Node.zero) with asked := s.now } roA rfl), ?_⟩; exact loop_next2 (i1 + 1) (c2.set (Int.toNat (out.getD i1 0)) { (c2.getD (Int.toNat (out.getD i1 0)) Node.zero) with asked := s.now }) (wk [0, 1, 2, 3, 4, 5, 6, 7] (tO rfl (ts (l1 (l1 (l1 (l1 (l1 (l1 (l1 (l1 LowL.nil))))))))) (tO rfl (tl eqA) (tO rfl (tl eqA) (tO rfl (tl eqA) (tO rfl (tl eqA) (tO rfl (tl eqA) (tO rfl (turn_row1 (c1 (cv (to 1 lnA) (cv (to 2 lnA) (cv (to 3 lnA) (cv (to 4 lnA) (cv (to 5 lnA) (c1 (c1 .nil))))))))) (tO rfl (tl eqA) .nil)))))))) (sv (turn_ptr 0 rfl rfl) (s1 (sv (turn_ptr 6 rfl rfl) (sv (to 7 lnA) (sv (to 7 lnA) (s1 (sv (turn_eq (I_eq (wr omA)) lx) .nil)))))))) omA ⟨foll hR (congrArg (fun p : (List Node) => nag_Resend_k3 s out p) rfl), by exact omA, by first | (exact ⟨fun y hy => absurd hy List.not_mem_nil, Nat.le_refl _⟩) | first | (refine ⟨fun y hy => ?_, by simp; omega⟩; rcases List.mem_append.1 hy with hy | hy; have := hx.1 y hy; omega; rw [List.mem_singleton.1 hy]; omega) | first | (exact ⟨fun y hy => by have := hx.1 y hy; omega, by omega⟩) | first | (exact ⟨fun y hy => by have := hx.1 y hy; omega, by omega, rfl⟩) | first | (exact ⟨hx.1, hx.2.1, (List.length_set ..).trans hx.2.2⟩) | first | (exact ⟨by show c2.length <= _; omega, by omega⟩) | exact exA⟩
    ·rw [drop_none (l := out) (j := i1) (geA h8)] at hR; replace hR : nag_Resend_k3 s out c2 = R := fo2 (fun p : (List Node) => nag_Resend_k3 s out p) (c2) hR rfl; exact join_here2 out { s with nodes := c2 } (wk [0, 6] (tO rfl (ts (l1 (l1 (l1 (l1 (l1 (l1 (l1 (l1 LowL.nil))))))))) (tO rfl (turn_row1 (c1 (cv (turn_listL _ _ rfl (Nat.zero_le _) (by decide) eqA (fun _ => Node.lowc _ _) lnA) (cv (turn_listL _ _ rfl (Nat.zero_le _) (by decide) eqA (fun _ => Job.lowc _ _) lnA) (cv (turn_listL _ _ rfl (Nat.zero_le _) (by decide) eqA (fun _ => Resize.lowc _ _) lnA) (cv (turn_listL _ _ rfl (Nat.zero_le _) (by decide) eqA (fun _ => Book.lowc _ _) lnA) (cv (turn_listL _ _ rfl (Nat.zero_le _) (by decide) eqA (fun _ => Usage.lowc _ _) lnA) (c1 (c1 .nil))))))))) .nil)) (sv (turn_ptr 0 rfl rfl) (s1 (sv (turn_ptr 1 rfl rfl) (sv (turn_listL _ _ rfl (Nat.zero_le _) (by decide) eqA (fun _ => lowL1 rfl) lnA) .nil))))) (⟨foll hR rfl, by first | (exact ⟨fun y hy => absurd hy List.not_mem_nil, Nat.le_refl _⟩) | first | (refine ⟨fun y hy => ?_, by simp; omega⟩; rcases List.mem_append.1 hy with hy | hy; have := hx.1 y hy; omega; rw [List.mem_singleton.1 hy]; omega) | first | (exact ⟨fun y hy => by have := hx.1 y hy; omega, by omega⟩) | first | (exact ⟨fun y hy => by have := hx.1 y hy; omega, by omega, rfl⟩) | first | (exact ⟨hx.1, hx.2.1, (List.length_set ..).trans hx.2.2⟩) | first | (exact ⟨by show c2.length <= _; omega, by omega⟩) | exact exA⟩)
def nag_Late_k1 (s : State) (y : Node) (i : Bool) : Bool := bif i then (decide ((w64 (s.now - y.since)) >= 12)) else false
abbrev nag_Late_t1 (s : State) := fun (y : Node) => (bif (y.want == 1) then nag_Late_k1 s y (y.want == 1) else bif (y.want == 3) then nag_Late_k1 s y (y.want == 3) else nag_Late_k1 s y (y.want == 5))
def nag_Late (s : State) : (List Int) := bif ((state_Check s) != 0) then [] else (nag_meant s.nodes (nag_Late_t1 s))
theorem nag_Late_c (s : State) (hs0 : s.sz) : ∀ objs, AGives Tryz.prog 16 [State.a s] objs (ints (nag_Late s)) := by
 generalize hR : nag_Late s = R; refine ga (.cons (State.low _ _) .nil) lw (kp 3 [5]) Tryz.func16 ?_; have hk0 := hs0; obtain ⟨z13, z14, z15, z16, z17, z18, z19⟩ := hs0; refine us (state_Check_c s szA _) ?_; refine ai (fun h1 => ?_) (fun h2 => ?_)
 ·obtain rfl := foll hR (ct h1 rfl); exact ret_seen lw (seen_nil)
 ·have cl1 : ∀ (y1 : Node), AMoves Tryz.prog 51 [I s.now, Node.a y1] [] 0 (Bo ((nag_Late_t1 s) y1)) [] := by
   intro y1; have hR : (nag_Late_t1 s) y1 = (nag_Late_t1 s) y1 := rfl; refine mo (kj [1000005] 5 [6, 7]) Tryz.func51 ?_; refine join_start1 (fun (i : Bool) => nag_Late_k1 s y1 i = (nag_Late_t1 s) y1) (fun i => [(0, I s.now), (3, AVal.ptr 0 0 7 0 0), (4, Bo false), (7, Bo i)]) (fun i => [(0, AObj.row 57 7 [[I y1.state, I y1.job, I y1.epoch, Bo y1.drain, I y1.want, I y1.since, I y1.asked]])]) ?_ ?_
   ·clear hR; rintro i hR; (try dsimp only at hR); refine ai (fun h3 => ?_) (fun h4 => ?_)
    ·refine ret_moves (fun r : Bool => Bo r) (fun _ => []) (leaf := (decide ((w64 (s.now - y1.since)) >= 12))) (foll hR (ct h3 rfl)) ?_; exact tt [] .nil t1
    ·refine ret_moves (fun r : Bool => Bo r) (fun _ => []) (leaf := false) (foll hR (cf h4 rfl)) ?_; exact tt [] .nil t1
   ·refine ai (fun h5 => ?_) (fun h6 => ?_)
    ·exact join_here1 (y1.want == 1) (wk [0] (tO rfl (ts Node.lo) .nil) (s1 (sv (turn_ptr 0 rfl rfl) (s1 (s1 .nil))))) (foll hR (ct h5 rfl))
    ·refine ai (fun h7 => ?_) (fun h8 => ?_)
     ·exact join_here1 (y1.want == 3) (wk [0] (tO rfl (ts Node.lo) .nil) (s1 (sv (turn_ptr 0 rfl rfl) (s1 (s1 .nil))))) (foll hR (cf h6 (ct h7 rfl)))
     ·exact join_here1 (y1.want == 5) (wk [0] (tO rfl (ts Node.lo) .nil) (s1 (sv (turn_ptr 0 rfl rfl) (s1 (s1 .nil))))) (foll hR (cf h6 (cf h8 rfl)))
  have hof1 : AMoves Tryz.prog 47 [nodeL s.nodes, AVal.fn (.func 51) [I s.now] []] [] 0 (ints (nag_meant s.nodes (nag_Late_t1 s))) [] := by
   have hR : nag_meant s.nodes (nag_Late_t1 s) = nag_meant s.nodes (nag_Late_t1 s) := rfl; refine mo (kp 8 [8, 9, 10, 11, 17]) Tryz.func47 ?_; refine loop_start2 (fun (out : List Int) (i : Nat) => nag_meant_k1 (nag_meant_g1 (nag_Late_t1 s) (List.drop i s.nodes) out i) = nag_meant s.nodes (nag_Late_t1 s) ∧ i <= s.nodes.length ∧ out.length <= i) (fun out i => s.nodes.length - i) (fun out i => [(1, AVal.fn (.func 51) [I s.now] []), (4, AVal.lit (.slice none 0 0)), (5, AVal.own 0 0 1 0 out.length), (8, nodeL s.nodes), (9, I (s.nodes.length : Int)), (10, I (i : Int))]) (fun out i => [(0, AObj.row 3 1 (out.map (fun q_ => [I q_])))]) [] 0 ((weaker_none 3 1).trans (wk [0] (tO rfl (tl eqA) .nil) (sv (turn_low (Low.fn _ _ _ (l1 LowL.nil) LowL.nil)) (s1 (sv (turn_nilown 0 rfl) (sl lw (s1 (s1 .nil)))))))) ⟨foll hR rfl, by exact omA, by exact exA⟩ ?_; clear hR; rintro out i ⟨hR, hj, hx⟩; (try dsimp only at hR hj hx); refine ai (fun h9 => ?_) (fun h10 => ?_)
   ·have hlt := ltA h9; rw [drop_getD Node.zero hlt] at hR; refine ai gkA ?_; refine us (mv [] (cl1 (s.nodes.getD i Node.zero)) .nil (d1 (dl (Node.low _ _) .nil)) .nil rx) ?_; refine ai (fun h11 => ?_) (fun h12 => ?_)
    ·refine Or.inl ?_; (first | refine ⟨app_ok 8 rfl lnA apA, ?_⟩ | refine ⟨app_nil 8 rfl apA, ?_⟩); exact loop_next2 (out ++ ([(i : Int)] : List Int)) (i + 1) (wk [0] (tO rfl (tl eqA) .nil) (sv (turn_low (Low.fn _ _ _ (l1 LowL.nil) LowL.nil)) (s1 (sv (to 0 lnA) (sl lw (s1 (sv (turn_eq (I_eq (wr omA)) lx) .nil))))))) omA ⟨foll hR (congrArg (fun p : (List Int) => nag_meant_k1 p) (ct h11 rfl)), by exact omA, by exact exA⟩
    ·exact loop_next2 out (i + 1) (wk [0] (tO rfl (tl eqA) .nil) (sv (turn_low (Low.fn _ _ _ (l1 LowL.nil) LowL.nil)) (s1 (sv (to 0 lnA) (sl lw (s1 (sv (turn_eq (I_eq (wr omA)) lx) .nil))))))) omA ⟨foll hR (congrArg (fun p : (List Int) => nag_meant_k1 p) (cf h12 rfl)), by exact omA, by exact exA⟩
   ·rw [drop_none (l := s.nodes) (j := i) (geA h10)] at hR; replace hR : nag_meant_k1 out = nag_meant s.nodes (nag_Late_t1 s) := fo2 (fun p : (List Int) => nag_meant_k1 p) (out) hR rfl; refine ret_moves (fun r : (List Int) => ints r) (fun r : (List Int) => []) (leaf := out) (foll hR rfl) ?_; exact tt [] .nil (turn_listL _ _ rfl (Nat.zero_le _) (by decide) eqA (fun _ => lowL1 rfl) lnA)
  refine us (mv [] (hof1) .nil (dl lw (dv (dn_low (Low.fn _ _ _ (l1 LowL.nil) LowL.nil)) .nil)) .nil (Ren.low _ lw)) ?_; obtain rfl := foll hR (cf h2 rfl); exact ret_seen lw sr
def nag_Stale_g1 (s : State) : List Resize -> List Int -> Nat -> (List Int)
 | [], out, _ => out
 | x_ :: r, out, i => bif (decide ((w64 (s.now - x_.since)) >= 12)) then nag_Stale_g1 s r (out ++ ([x_.job] : List Int)) (i + 1) else nag_Stale_g1 s r out (i + 1)
def nag_Stale_k1 (out : List Int) : (List Int) := out
def nag_Stale (s : State) : (List Int) := bif ((state_Check s) != 0) then [] else nag_Stale_k1 (nag_Stale_g1 s s.resizes [] 0)
theorem nag_Stale_c (s : State) (hs0 : s.sz) : ∀ objs, AGives Tryz.prog 18 [State.a s] objs (ints (nag_Stale s)) := by
 generalize hR : nag_Stale s = R; refine ga (.cons (State.low _ _) .nil) lw (kp 6 [8, 10, 11, 12, 13, 21]) Tryz.func18 ?_; have hk0 := hs0; obtain ⟨z7, z8, z9, z10, z11, z12, z13⟩ := hs0; refine us (state_Check_c s szA _) ?_; refine ai (fun h1 => ?_) (fun h2 => ?_)
 ·obtain rfl := foll hR (ct h1 rfl); exact ret_seen lw (seen_nil)
 ·refine loop_start2 (fun (out : List Int) (i : Nat) => nag_Stale_k1 (nag_Stale_g1 s (List.drop i s.resizes) out i) = R ∧ i <= s.resizes.length ∧ out.length <= i) (fun out i => s.resizes.length - i) (fun out i => [(1, AVal.ptr 0 0 8 0 0), (2, AVal.lit (.slice none 0 0)), (3, AVal.own 1 0 1 0 out.length), (10, resizeL s.resizes), (11, I (s.resizes.length : Int)), (12, I (i : Int))]) (fun out i => [(0, AObj.row 28 8 [[I s.now, nodeL s.nodes, jobL s.jobs, resizeL s.resizes, bookL s.books, usageL s.ledger, I s.nextJob, I s.nextBook]]), (0, AObj.row 3 1 (out.map (fun q_ => [I q_])))]) [] 0 ((weaker_none 3 1).trans (wk [0, 1] (tO rfl (ts State.lo) (tO rfl (tl eqA) .nil)) (sv (turn_ptr 0 rfl rfl) (s1 (sv (turn_nilown 1 rfl) (sl lw (s1 (s1 .nil)))))))) ⟨foll hR (cf h2 rfl), by exact omA, by exact exA⟩ ?_; clear hR; rintro out i ⟨hR, hj, hx⟩; (try dsimp only at hR hj hx); refine ai (fun h3 => ?_) (fun h4 => ?_)
  ·have hlt := ltA h3; rw [drop_getD Resize.zero hlt] at hR; refine ai gkA ?_; refine ai (fun h5 => ?_) (fun h6 => ?_)
   ·have qh5 := of_decide_eq_true h5; refine Or.inl ?_; (first | refine ⟨app_ok 8 rfl lnA apA, ?_⟩ | refine ⟨app_nil 8 rfl apA, ?_⟩); exact loop_next2 (out ++ ([(s.resizes.getD i Resize.zero).job] : List Int)) (i + 1) (wk [0, 1] (tO rfl (ts State.lo) (tO rfl (tl eqA) .nil)) (sv (turn_ptr 0 rfl rfl) (s1 (sv (to 1 lnA) (sl lw (s1 (sv (turn_eq (I_eq (wr omA)) lx) .nil))))))) omA ⟨foll hR (congrArg (fun p : (List Int) => nag_Stale_k1 p) (ct h5 rfl)), by exact omA, by exact exA⟩
   ·have qh6 := of_decide_eq_false h6; exact loop_next2 out (i + 1) (wk [0, 1] (tO rfl (ts State.lo) (tO rfl (tl eqA) .nil)) (sv (turn_ptr 0 rfl rfl) (s1 (sv (to 1 lnA) (sl lw (s1 (sv (turn_eq (I_eq (wr omA)) lx) .nil))))))) omA ⟨foll hR (congrArg (fun p : (List Int) => nag_Stale_k1 p) (cf h6 rfl)), by exact omA, by exact exA⟩
  ·rw [drop_none (l := s.resizes) (j := i) (geA h4)] at hR; replace hR : nag_Stale_k1 out = R := fo2 (fun p : (List Int) => nag_Stale_k1 p) (out) hR rfl; obtain rfl := foll hR rfl; exact ret_seen lw (seen_list 0 _ rfl eqA lnA)
def nag_Over_g1 (s : State) : List Job -> List Int -> Nat -> (List Int)
 | [], out, _ => out
 | x_ :: r, out, i => bif ((x_.state == 2) && (decide (x_.limit <= s.now))) then nag_Over_g1 s r (out ++ ([x_.id] : List Int)) (i + 1) else nag_Over_g1 s r out (i + 1)
def nag_Over_k1 (out : List Int) : (List Int) := out
def nag_Over (s : State) : (List Int) := bif ((state_Check s) != 0) then [] else nag_Over_k1 (nag_Over_g1 s s.jobs [] 0)
theorem nag_Over_c (s : State) (hs0 : s.sz) : ∀ objs, AGives Tryz.prog 20 [State.a s] objs (ints (nag_Over s)) := by
 generalize hR : nag_Over s = R; refine ga (.cons (State.low _ _) .nil) lw (kp 6 [8, 10, 11, 12, 13, 25]) Tryz.func20 ?_; have hk0 := hs0; obtain ⟨z12, z13, z14, z15, z16, z17, z18⟩ := hs0; refine us (state_Check_c s szA _) ?_; refine ai (fun h1 => ?_) (fun h2 => ?_)
 ·obtain rfl := foll hR (ct h1 rfl); exact ret_seen lw (seen_nil)
 ·refine loop_start2 (fun (out : List Int) (i : Nat) => nag_Over_k1 (nag_Over_g1 s (List.drop i s.jobs) out i) = R ∧ i <= s.jobs.length ∧ out.length <= i) (fun out i => s.jobs.length - i) (fun out i => [(1, AVal.ptr 0 0 8 0 0), (2, AVal.lit (.slice none 0 0)), (3, AVal.own 1 0 1 0 out.length), (10, jobL s.jobs), (11, I (s.jobs.length : Int)), (12, I (i : Int))]) (fun out i => [(0, AObj.row 28 8 [[I s.now, nodeL s.nodes, jobL s.jobs, resizeL s.resizes, bookL s.books, usageL s.ledger, I s.nextJob, I s.nextBook]]), (0, AObj.row 3 1 (out.map (fun q_ => [I q_])))]) [] 0 ((weaker_none 3 1).trans (wk [0, 1] (tO rfl (ts State.lo) (tO rfl (tl eqA) .nil)) (sv (turn_ptr 0 rfl rfl) (s1 (sv (turn_nilown 1 rfl) (sl lw (s1 (s1 .nil)))))))) ⟨foll hR (cf h2 rfl), by exact omA, by exact exA⟩ ?_; clear hR; rintro out i ⟨hR, hj, hx⟩; (try dsimp only at hR hj hx); refine ai (fun h3 => ?_) (fun h4 => ?_)
  ·have hlt := ltA h3; rw [drop_getD Job.zero hlt] at hR; have hxz : (s.jobs.getD i Job.zero).sz := getD_sz (by first | assumption | grind) (Job.szz _); have hkz := hxz; obtain ⟨z5, z6, z7, z8, z9⟩ : ((s.jobs.getD i Job.zero).name).size <= 4294967296 ∧ ((s.jobs.getD i Job.zero).user).size <= 4294967296 ∧ ((s.jobs.getD i Job.zero).account).size <= 4294967296 ∧ ((((s.jobs.getD i Job.zero).shape).alts).length <= 4294967296) ∧ ((s.jobs.getD i Job.zero).after).length <= 4294967296 := hxz; refine ai gkA ?_; refine ai (fun h10 => ?_) (fun h11 => ?_)
   ·refine Or.inl ?_; (first | refine ⟨app_ok 8 rfl lnA apA, ?_⟩ | refine ⟨app_nil 8 rfl apA, ?_⟩); exact loop_next2 (out ++ ([(s.jobs.getD i Job.zero).id] : List Int)) (i + 1) (wk [0, 1] (tO rfl (ts State.lo) (tO rfl (tl eqA) .nil)) (sv (turn_ptr 0 rfl rfl) (s1 (sv (to 1 lnA) (sl lw (s1 (sv (turn_eq (I_eq (wr omA)) lx) .nil))))))) omA ⟨foll hR (congrArg (fun p : (List Int) => nag_Over_k1 p) (ct h10 rfl)), by exact omA, by exact exA⟩
   ·exact loop_next2 out (i + 1) (wk [0, 1] (tO rfl (ts State.lo) (tO rfl (tl eqA) .nil)) (sv (turn_ptr 0 rfl rfl) (s1 (sv (to 1 lnA) (sl lw (s1 (sv (turn_eq (I_eq (wr omA)) lx) .nil))))))) omA ⟨foll hR (congrArg (fun p : (List Int) => nag_Over_k1 p) (cf h11 rfl)), by exact omA, by exact exA⟩
  ·rw [drop_none (l := s.jobs) (j := i) (geA h4)] at hR; replace hR : nag_Over_k1 out = R := fo2 (fun p : (List Int) => nag_Over_k1 p) (out) hR rfl; obtain rfl := foll hR rfl; exact ret_seen lw (seen_list 0 _ rfl eqA lnA)
end Go.Proofs.YtigcpfbpmnppcaaGreatDoor
namespace Go.Proofs.YtigcpfbpmnppcaaGreatDoor
set_option linter.unusedSimpArgs false
set_option linter.unusedVariables false
open Go.Fw
set_option maxRecDepth 20000
set_option maxHeartbeats 4000000
attribute [local irreducible] ACalls AMoves
def law27_awake  : Bool := ((((((((((((((((nag_Clock (law27_one 6)).2 == 0) && ((nag_Clock State.zero).2 == 141)) && ((nag_Clock (law27_one 6)).1.now == 7)) && ((((nag_Clock (law27_one 6)).1.jobs).length : Int) == 1)) && ((((nag_Clock (law27_one 6)).1.jobs).getD 0 Job.zero).used == 2)) && ((((nag_Clock (law27_one 6)).1.ledger).length : Int) == 1)) && ((((nag_Clock (law27_one 6)).1.ledger).getD 0 Usage.zero).used == 2)) && ((((nag_Resend (law27_one 6)).2).length : Int) == 0)) && ((((nag_Resend (law27_one 7)).2).length : Int) == 1)) && ((((nag_Resend (law27_one 7)).2).getD 0 Note.zero).node == 1)) && ((((nag_Resend (law27_one 7)).1.nodes).getD 1 Node.zero).asked == 7)) && (((nag_Late (law27_one 16)).length : Int) == 1)) && (((nag_Late (law27_one 15)).length : Int) == 0)) && (((nag_Over (law27_one 64)).length : Int) == 1)) && (((nag_Stale (law27_one 64)).length : Int) == 0))
theorem law27_awake_c  : ∀ objs, AGives Tryz.prog 8 [] objs (Bo law27_awake) := by
 generalize hR : law27_awake = R; refine ga .nil lx (kp 11 []) Tryz.func8 ?_; (have hl : (nag_Resend (law27_one 7)).1.nodes.length = 2 := by kernel_rfl); refine us (law27_one_c 6 _) ?_; refine us (nag_Clock_c (law27_one 6) (by first | (exact law27_one_sz _) | exact szA) _) ?_; refine us (law27_one_c 6 _) ?_; refine us (nag_Resend_c (law27_one 6) (by first | (exact law27_one_sz _) | exact szA) _) ?_; refine us (law27_one_c 7 _) ?_; refine us (nag_Resend_c (law27_one 7) (by first | (exact law27_one_sz _) | exact szA) _) ?_; refine us (law27_one_c 16 _) ?_; refine us (nag_Late_c (law27_one 16) (by first | (exact law27_one_sz _) | exact szA) _) ?_; refine us (law27_one_c 64 _) ?_; refine us (nag_Over_c (law27_one 64) (by first | (exact law27_one_sz _) | exact szA) _) ?_; refine us (AGives.as2 (nag_Clock_c State.zero (by first | (exact law27_one_sz _) | exact szA) _) (av (as_agg (a1 (av (as_nil) (av (as_nil) (av (as_nil) (av (as_nil) (av (as_nil) (a1 (a1 .nil))))))))) .nil)) ?_; refine ai gkA ?_; refine ai gkA ?_; refine ai gkA ?_; refine ai gkA ?_; (first | apply u2 | apply u3 | apply u4 | apply us); exact law27_one_c 15 _; (first | apply u2 | apply u3 | apply u4 | apply us); exact nag_Late_c (law27_one 15) (by first | (exact law27_one_sz _) | exact szA) _; (first | apply u2 | apply u3 | apply u4 | apply us); exact law27_one_c 64 _; (first | apply u2 | apply u3 | apply u4 | apply us); exact nag_Stale_c (law27_one 64) (by first | (exact law27_one_sz _) | exact szA) _; obtain rfl := foll hR rfl; exact ret_seen lx sr
end Go.Proofs.YtigcpfbpmnppcaaGreatDoor
namespace Go.Fw
set_option linter.unusedSimpArgs false
set_option linter.unusedVariables false
theorem w6 {n : Int} (h : -9223372036854775808 <= n ∧ n <= 9223372036854775807) : w64 n = n := wr h
theorem or_f {a b : Bool} (h : (a || b) = false) : a = false ∧ b = false := by simpa using h
def U64 (x : Int) : Prop := 0 <= x ∧ x < 18446744073709551616
def tb (x : Int) (k : Nat) : Bool := x.toNat.testBit k
theorem wu64_eq (n : Int) : wu64 n = n % 18446744073709551616 := by simp [IntKind.wrap, IntKind.bits, IntKind.signed]
theorem wu64_id {n : Int} (h : U64 n) : wu64 n = n := by rw [wu64_eq]; unfold U64 at h; omega
theorem wu64_U (n : Int) : U64 (wu64 n) := by rw [wu64_eq]; unfold U64; omega
theorem U64.zero : U64 0 := ⟨by decide, by decide⟩
theorem wu64_bv (b : BitVec 64) : wu64 (b.toNat : Int) = (b.toNat : Int) := wu64_id ⟨by omega, by have := b.isLt; omega⟩
theorem tb_bv (b : BitVec 64) (k : Nat) : tb (wu64 (b.toNat : Int)) k = b.getLsbD k := by
 rw [wu64_bv, tb, Int.toNat_natCast, BitVec.testBit_toNat]
theorem tb_high {x : Int} (h : U64 x) {k : Nat} (hk : 64 <= k) : tb x k = false := by
 unfold tb U64 at *
 refine Nat.testBit_lt_two_pow (Nat.lt_of_lt_of_le (m := 2 ^ 64) (by omega) (Nat.pow_le_pow_right (by decide) hk))
theorem bit_ofInt {x : Int} (h : U64 x) (k : Nat) : (BitVec.ofInt 64 x).getLsbD k = tb x k := by
 have e : (BitVec.ofInt 64 x).toNat = x.toNat := by
  rw [BitVec.toNat_ofInt]
  unfold U64 at h
  have : x % (2 ^ 64 : Nat) = x := Int.emod_eq_of_lt h.1 (by simpa using h.2)
  rw [this]
 rw [← BitVec.testBit_toNat, e]
 rfl
theorem tb_and {x y : Int} (hx : U64 x) (hy : U64 y) (k : Nat) : tb (wu64 ((BitVec.ofInt 64 x &&& BitVec.ofInt 64 y).toNat : Int)) k = (tb x k && tb y k) := by
 rw [tb_bv, BitVec.getLsbD_and, bit_ofInt hx, bit_ofInt hy]
theorem tb_or {x y : Int} (hx : U64 x) (hy : U64 y) (k : Nat) : tb (wu64 ((BitVec.ofInt 64 x ||| BitVec.ofInt 64 y).toNat : Int)) k = (tb x k || tb y k) := by
 rw [tb_bv, BitVec.getLsbD_or, bit_ofInt hx, bit_ofInt hy]
theorem tb_andnot {x y : Int} (hx : U64 x) (hy : U64 y) (k : Nat) : tb (wu64 ((BitVec.ofInt 64 x &&& ~~~(BitVec.ofInt 64 y)).toNat : Int)) k = (tb x k && !tb y k) := by
 rw [tb_bv, BitVec.getLsbD_and, BitVec.getLsbD_not, bit_ofInt hx, bit_ofInt hy]
 rcases Nat.lt_or_ge k 64 with h | h
 ·simp [h]
 ·simp [tb_high hx h]
theorem tb_ext {x y : Int} (hx : U64 x) (hy : U64 y) (h : ∀ k, k < 64 -> tb x k = tb y k) : x = y := by
 have : x.toNat = y.toNat := by
  refine Nat.eq_of_testBit_eq fun k => ?_
  rcases Nat.lt_or_ge k 64 with hk | hk
  ·exact h k hk
  ·exact (tb_high hx hk).trans (tb_high hy hk).symm
 unfold U64 at hx hy
 omega
theorem tb_zero (k : Nat) : tb 0 k = false := by simp [tb]
theorem eq_zero_iff {x : Int} (hx : U64 x) : (x == 0) = true ↔ ∀ k, k < 64 -> tb x k = false := by
 rw [beq_iff_eq]
 refine ⟨fun h k _ => by rw [h]; exact tb_zero k, fun h => tb_ext hx .zero fun k hk => by rw [h k hk, tb_zero]⟩
theorem ne_zero_iff {x : Int} (hx : U64 x) : (x != 0) = true ↔ ∃ k, k < 64 ∧ tb x k = true := by
 rw [bne_iff_ne]
 constructor
 ·intro h
  apply Classical.byContradiction
  intro hn
  refine h (beq_iff_eq.1 ((eq_zero_iff hx).2 fun k hk => ?_))
  cases hb : tb x k with
  | false => rfl
  | true => exact (hn ⟨k, hk, hb⟩).elim
 ·rintro ⟨k, _, hb⟩ e
  rw [e, tb_zero] at hb
  cases hb
theorem two_pow_cast (k : Nat) : ∃ m : Nat, (2 : Int) ^ k = (m : Int) ∧ 2 ^ k = m := ⟨2 ^ k, by simp, rfl⟩
theorem pow64 : (2 : Nat) ^ 64 = 18446744073709551616 := by decide
theorem pow_U {k : Nat} (hk : k < 64) : U64 ((2 : Int) ^ k) := by
 have h1 : (2 : Nat) ^ k < 2 ^ 64 := Nat.pow_lt_pow_right (by decide) hk
 rw [pow64] at h1
 obtain ⟨m, e, e'⟩ := two_pow_cast k
 rw [e]
 unfold U64
 omega
theorem tb_pow (k j : Nat) : tb ((2 : Int) ^ k) j = decide (k = j) := by
 have e : (2 : Int) ^ k = ((2 ^ k : Nat) : Int) := by simp
 rw [tb, e, Int.toNat_natCast, Nat.testBit_two_pow]
def bitsUpto (p : Nat -> Bool) : Nat -> Int
 | 0 => 0
 | n + 1 => bif p n then bitsUpto p n + 2 ^ n else bitsUpto p n
theorem bitsUpto_lt (p : Nat -> Bool) : ∀ n, 0 <= bitsUpto p n ∧ bitsUpto p n < 2 ^ n
 | 0 => ⟨by simp [bitsUpto], by simp [bitsUpto]⟩
 | n + 1 => by
  have := bitsUpto_lt p n
  have e : (2 : Int) ^ (n + 1) = 2 * 2 ^ n := by rw [Int.pow_succ]; omega
  rw [bitsUpto]
  cases p n <;> simp only [cond_true, cond_false] <;> omega
theorem bitsUpto_U (p : Nat -> Bool) {n : Nat} (hn : n <= 64) : U64 (bitsUpto p n) := by
 have := bitsUpto_lt p n
 have h1 : (2 : Nat) ^ n <= 2 ^ 64 := Nat.pow_le_pow_right (by decide) hn
 rw [pow64] at h1
 obtain ⟨m, e, e'⟩ := two_pow_cast n
 unfold U64
 omega
theorem tb_upto (p : Nat -> Bool) : ∀ n k, tb (bitsUpto p n) k = (decide (k < n) && p k)
 | 0, k => by simp [bitsUpto, tb_zero]
 | n + 1, k => by
  have hl := bitsUpto_lt p n
  have ih := tb_upto p n k
  obtain ⟨m, e, e'⟩ := two_pow_cast n
  have hlt : (bitsUpto p n).toNat < 2 ^ n := by omega
  rw [bitsUpto]
  cases hp : p n with
  | false =>
   simp only [cond_false]
   rw [ih]
   rcases Nat.lt_trichotomy k n with h | h | h
   ·simp [h, Nat.lt_succ_of_lt h]
   ·subst h; simp [hp]
   ·simp [show ¬ k < n by omega, show ¬ k < n + 1 by omega]
  | true =>
   simp only [cond_true]
   have et : (bitsUpto p n + 2 ^ n).toNat = 2 ^ n + (bitsUpto p n).toNat := by omega
   unfold tb at ih ⊢
   rw [et]
   rcases Nat.lt_trichotomy k n with h | h | h
   ·rw [Nat.testBit_two_pow_add_gt h, ih]
    simp [h, Nat.lt_succ_of_lt h]
   ·subst h
    rw [Nat.testBit_two_pow_add_eq, Nat.testBit_lt_two_pow hlt]
    simp [hp]
   ·have : 2 ^ n + (bitsUpto p n).toNat < 2 ^ k := by
     have : (2 : Nat) ^ (n + 1) <= 2 ^ k := Nat.pow_le_pow_right (by decide) h
     rw [Nat.pow_succ] at this
     omega
    rw [Nat.testBit_lt_two_pow this]
    simp [show ¬ k < n + 1 by omega]
def idxL {α : Type} (f : Nat -> α -> Bool) : List α -> Nat -> List Int
 | [], _ => []
 | x :: r, i => bif f i x then (i : Int) :: idxL f r (i + 1) else idxL f r (i + 1)
def hasB {α : Type} (f : Nat -> α -> Bool) (l : List α) (i k : Nat) : Bool := decide (i <= k) && (match l[k - i]? with | some x => f k x | none => false)
theorem hasB_nil {α : Type} (f : Nat -> α -> Bool) (i k : Nat) : hasB f [] i k = false := by simp [hasB]
theorem hasB_cons {α : Type} (f : Nat -> α -> Bool) (x : α) (r : List α) (i k : Nat) : hasB f (x :: r) i k = ((decide (k = i) && f i x) || hasB f r (i + 1) k) := by
 unfold hasB
 rcases Nat.lt_trichotomy k i with h | h | h
 ·simp [show ¬ i <= k by omega, show ¬ i + 1 <= k by omega, show ¬ k = i by omega]
 ·subst h; simp [show ¬ k + 1 <= k by omega]
 ·have e : k - i = (k - (i + 1)) + 1 := by omega
  simp [show i <= k by omega, show i + 1 <= k by omega, show ¬ k = i by omega, e]
theorem hasB_zero {α : Type} (f : Nat -> α -> Bool) (d : α) (l : List α) (k : Nat) : hasB f l 0 k = (decide (k < l.length) && f k (l.getD k d)) := by
 unfold hasB
 rcases Nat.lt_or_ge k l.length with h | h
 ·simp [h, List.getD]
 ·simp [Nat.not_lt.2 h, List.getElem?_eq_none h]
theorem idx_loop {α : Type} (f : Nat -> α -> Bool) (G : List α -> List Int -> Nat -> List Int) (h0 : ∀ out i, G [] out i = out) (h1 : ∀ x r out i, G (x :: r) out i = bif f i x then G r (out ++ [(i : Int)]) (i + 1) else G r out (i + 1)) : ∀ (l : List α) (out : List Int) (i : Nat), G l out i = out ++ idxL f l i
 | [], out, i => by rw [h0, idxL, List.append_nil]
 | x :: r, out, i => by
  rw [h1, idxL]
  cases f i x with
  | true => simp only [cond_true]; rw [idx_loop f G h0 h1 r]; simp
  | false => simp only [cond_false]; exact idx_loop f G h0 h1 r out (i + 1)
end Go.Fw
namespace Go.Proofs.YtigcpfbpmnppcaaGreatDoor
set_option linter.unusedSimpArgs false
set_option linter.unusedVariables false
open Go.Fw
theorem nodeset_one_eq {k : Nat} (h : k < 64) : nodeset_one (k : Int) = (2 : Int) ^ k := by
 unfold nodeset_one
 have e : wu64 (k : Int) = (k : Int) := wu64_id ⟨by omega, by omega⟩
 rw [e, Int.toNat_natCast, Nat.min_eq_left (by omega), Int.one_mul, wu64_id (pow_U h)]
theorem and_one {s : Int} (hs : U64 s) {k : Nat} (hk : k < 64) : ((wu64 (BitVec.ofInt 64 s &&& BitVec.ofInt 64 (nodeset_one (k : Int))).toNat) != 0) = tb s k := by
 have hp : U64 ((2 : Int) ^ k) := pow_U hk
 rw [nodeset_one_eq hk]
 cases hb : tb s k with
 | true =>
  refine (ne_zero_iff (wu64_U _)).2 ⟨k, hk, ?_⟩
  rw [tb_and hs hp, hb, tb_pow]
  simp
 | false =>
  cases hx : ((wu64 (BitVec.ofInt 64 s &&& BitVec.ofInt 64 ((2 : Int) ^ k)).toNat) != 0) with
  | false => rfl
  | true =>
   obtain ⟨j, hj, h⟩ := (ne_zero_iff (wu64_U _)).1 hx
   rw [tb_and hs hp, tb_pow] at h
   simp only [Bool.and_eq_true, decide_eq_true_eq] at h
   rw [← h.2, hb] at h
   cases h.1
theorem nodeset_Has_eq {s : Int} (hs : U64 s) (k : Nat) : nodeset_Has s (k : Int) = (decide (k < 64) && tb s k) := by
 unfold nodeset_Has
 rcases Nat.lt_or_ge k 64 with h | h
 ·rw [and_one hs h]
  simp [h]
  omega
 ·have : ¬ ((k : Int) < 64) := by omega
  simp [this, Nat.not_lt.2 h]
theorem nodeset_Of_idx {α : Type} (f : Nat -> α -> Bool) : ∀ (l : List α) (i : Nat) (s : Int) (j : Nat), i + l.length <= 64 -> U64 s -> (∀ k, i <= k -> tb s k = false) ->
  (nodeset_Of_g1 (idxL f l i) s j).2 = 0 ∧ U64 (nodeset_Of_g1 (idxL f l i) s j).1 ∧ ∀ k, tb (nodeset_Of_g1 (idxL f l i) s j).1 k = (tb s k || hasB f l i k)
 | [], i, s, j, _, hs, _ => ⟨rfl, hs, fun k => by rw [hasB_nil, Bool.or_false]; rfl⟩
 | x :: r, i, s, j, hl, hs, hf => by
  simp only [List.length_cons] at hl
  rw [idxL]
  cases hx : f i x with
  | false =>
   simp only [cond_false]
   obtain ⟨a, b, c⟩ := nodeset_Of_idx f r (i + 1) s j (by omega) hs (fun k hk => hf k (by omega))
   exact ⟨a, b, fun k => by rw [c, hasB_cons, hx]; simp⟩
  | true =>
   simp only [cond_true]
   have hi : i < 64 := by omega
   have hg : (((decide ((i : Int) < 0)) || (decide ((i : Int) >= 64))) || ((wu64 (BitVec.ofInt 64 s &&& BitVec.ofInt 64 (nodeset_one (i : Int))).toNat) != 0)) = false := by
    rw [and_one hs hi, hf i (Nat.le_refl _)]
    simp
    omega
   rw [nodeset_Of_g1, hg]
   simp only [cond_false]
   have hp : U64 ((2 : Int) ^ i) := pow_U hi
   have ht : ∀ k, tb (wu64 (BitVec.ofInt 64 s ||| BitVec.ofInt 64 (nodeset_one (i : Int))).toNat) k = (tb s k || decide (i = k)) := fun k => by
    rw [nodeset_one_eq hi, tb_or hs hp, tb_pow]
   obtain ⟨a, b, c⟩ := nodeset_Of_idx f r (i + 1) (wu64 (BitVec.ofInt 64 s ||| BitVec.ofInt 64 (nodeset_one (i : Int))).toNat) (j + 1) (by omega) (wu64_U _) (fun k hk => by
    rw [ht, hf k (by omega)]
    simp
    omega)
   refine ⟨a, b, fun k => ?_⟩
   rw [c, ht, hasB_cons, hx, Bool.and_true, Bool.or_assoc]
   congr 2
   simp [eq_comm]
theorem set_where {α : Type} (f : Nat -> α -> Bool) (d : α) (l : List α) (hl : l.length <= 64) : U64 (nodeset_Of (idxL f l 0)).1 ∧ ∀ k, tb (nodeset_Of (idxL f l 0)).1 k = (decide (k < l.length) && f k (l.getD k d)) := by
 obtain ⟨_, b, c⟩ := nodeset_Of_idx f l 0 0 0 (by omega) .zero (fun k _ => tb_zero k)
 exact ⟨b, fun k => (c k).trans (by rw [tb_zero, Bool.false_or, hasB_zero f d])⟩
theorem fleet_where_bits (l : List Node) (is : Node -> Bool) (hc : fleet_Check l = 0) (hl : l.length <= 64) : U64 (fleet_where l is) ∧ ∀ k, tb (fleet_where l is) k = (decide (k < l.length) && is (l.getD k Node.zero)) := by
 have e : fleet_where l is = (nodeset_Of (idxL (fun _ x => is x) l 0)).1 := by
  unfold fleet_where
  rw [hc]
  show fleet_where_k1 (fleet_where_g1 is l [] 0) = _
  rw [fleet_where_k1, idx_loop (fun _ x => is x) (fleet_where_g1 is) (fun _ _ => rfl) (fun _ _ _ _ => rfl), List.nil_append]
 rw [e]
 exact set_where (fun _ x => is x) Node.zero l hl
theorem nodeset_All_bits {n : Nat} (h : n <= 64) : U64 (nodeset_All (n : Int)) ∧ ∀ k, tb (nodeset_All (n : Int)) k = decide (k < n) := by
 have low : ∀ m : Nat, m < 64 -> U64 (((2 : Int) ^ m) - 1) ∧ ∀ k, tb (((2 : Int) ^ m) - 1) k = decide (k < m) := by
  intro m hm
  have hu := pow_U hm
  obtain ⟨q, e, e'⟩ := two_pow_cast m
  have hq : 0 < q := by rw [← e']; exact Nat.pow_pos (by decide)
  refine ⟨by unfold U64 at *; omega, fun k => ?_⟩
  have : ((2 : Int) ^ m - 1).toNat = 2 ^ m - 1 := by omega
  rw [tb, this, Nat.testBit_two_pow_sub_one]
 unfold nodeset_All
 rcases Nat.eq_zero_or_pos n with h0 | h0
 ·subst h0
  exact ⟨.zero, fun k => by simp [tb_zero]⟩
 ·have h1 : decide ((n : Int) <= 0) = false := decide_eq_false (by omega)
  rw [h1]
  rcases Nat.lt_or_ge n 64 with h2 | h2
  ·have h3 : decide ((n : Int) >= 64) = false := decide_eq_false (by omega)
   rw [h3]
   simp only [cond_false]
   rw [nodeset_one_eq h2, wu64_id (low n h2).1]
   exact low n h2
  ·have h3 : decide ((n : Int) >= 64) = true := decide_eq_true (by omega)
   rw [h3]
   obtain rfl : n = 64 := by omega
   refine ⟨⟨by decide, by decide⟩, fun k => ?_⟩
   show tb 18446744073709551615 k = _
   have : (18446744073709551615 : Int).toNat = 2 ^ 64 - 1 := by decide
   rw [tb, this, Nat.testBit_two_pow_sub_one]
end Go.Proofs.YtigcpfbpmnppcaaGreatDoor
namespace Go.Fw
set_option linter.unusedSimpArgs false
set_option linter.unusedVariables false
theorem nat_and {n c : Nat} (hn : n < 18446744073709551616) (hc : c < 18446744073709551616) : wu64 ((BitVec.ofInt 64 (n : Int) &&& BitVec.ofInt 64 (c : Int)).toNat : Int) = ((n &&& c : Nat) : Int) := by
 have e : ∀ m : Nat, m < 18446744073709551616 -> (BitVec.ofInt 64 (m : Int)).toNat = m := fun m hm => by
  rw [BitVec.toNat_ofInt]
  omega
 rw [BitVec.toNat_and, e n hn, e c hc, wu64_id]
 have := Nat.and_le_left (n := n) (m := c)
 unfold U64
 omega
theorem nat_shr (n k : Nat) (hk : k <= 64) : Int.fdiv (n : Int) (2 ^ (min (Int.toNat (k : Int)) 64)) = ((n / 2 ^ k : Nat) : Int) := by
 rw [Int.toNat_natCast, Nat.min_eq_left hk, Int.fdiv_eq_ediv_of_nonneg _ (by have := Int.pow_pos (n := 2) (m := k) (by decide); omega)]
 simp
theorem nat_sum {a b : Nat} (h : a + b < 18446744073709551616) : wu64 ((a : Int) + (b : Int)) = ((a + b : Nat) : Int) := by
 rw [wu64_id]
 ·simp
 ·unfold U64; omega
theorem and_byte {a c y m : Nat} (ha : a < 256) (hc : c < 256) : (256 * y + a) &&& (256 * m + c) = 256 * (y &&& m) + (a &&& c) := by
 refine Nat.eq_of_testBit_eq fun k => ?_
 have e : ∀ q r k, r < 256 -> (256 * q + r).testBit k = if k < 8 then r.testBit k else q.testBit (k - 8) := fun q r k hr => Nat.testBit_two_pow_mul_add (i := 8) q hr k
 have hac : a &&& c < 256 := Nat.lt_of_le_of_lt Nat.and_le_left ha
 rw [Nat.testBit_and, e y a k ha, e m c k hc, e _ _ k hac]
 split <;> simp [Nat.testBit_and]
def by8 (a b c d e f g h : Nat) : Nat := 256 * (256 * (256 * (256 * (256 * (256 * (256 * h + g) + f) + e) + d) + c) + b) + a
theorem and8 {a b c d e f g h : Nat} (k : Nat) (hk : k < 256) (ha : a < 256) (hb : b < 256) (hc : c < 256) (hd : d < 256) (he : e < 256) (hf : f < 256) (hg : g < 256) :
  by8 a b c d e f g h &&& by8 k k k k k k k k = by8 (a &&& k) (b &&& k) (c &&& k) (d &&& k) (e &&& k) (f &&& k) (g &&& k) (h &&& k) := by
 unfold by8
 rw [and_byte ha hk, and_byte hb hk, and_byte hc hk, and_byte hd hk, and_byte he hk, and_byte hf hk, and_byte hg hk]
def st1 (y : Nat) : Nat := (y &&& 170) / 2 + (y &&& 85)
def st2 (y : Nat) : Nat := (y &&& 204) / 4 + (y &&& 51)
def st3 (y : Nat) : Nat := (y + y / 16) % 16
def popN : Nat -> Nat -> Nat
 | 0, _ => 0
 | k + 1, n => n % 2 + popN k (n / 2)
theorem pop8 : ∀ y, y < 256 -> st3 (st2 (st1 y)) = popN 8 y ∧ (y &&& 170) % 2 = 0 ∧ (st1 y &&& 204) % 4 = 0 ∧ st1 y < 256 ∧ st2 (st1 y) <= 68 := by decide +kernel
theorem popN_add : ∀ (j k n : Nat), popN (j + k) n = popN j n + popN k (n / 2 ^ j)
 | 0, k, n => by simp [popN]
 | j + 1, k, n => by
  rw [show j + 1 + k = (j + k) + 1 by omega, popN, popN_add j k, popN, Nat.pow_succ, Nat.mul_comm (2 ^ j) 2, Nat.div_div_eq_div_mul]
  omega
theorem popN_low (q : Nat) : ∀ (j r : Nat), r < 2 ^ j -> popN j (2 ^ j * q + r) = popN j r
 | 0, r, _ => rfl
 | j + 1, r, h => by
  rw [popN, popN, Nat.pow_succ]
  rw [Nat.pow_succ] at h
  have e1 : (2 ^ j * 2 * q + r) % 2 = r % 2 := by rw [Nat.mul_right_comm, Nat.mul_comm _ 2, Nat.mul_add_mod]
  have e2 : (2 ^ j * 2 * q + r) / 2 = 2 ^ j * q + r / 2 := by rw [Nat.mul_right_comm, Nat.mul_comm _ 2, Nat.mul_add_div (by decide)]
  rw [e1, e2, popN_low q j (r / 2) (by omega)]
theorem pop_by8 {a b c d e f g h : Nat} (ha : a < 256) (hb : b < 256) (hc : c < 256) (hd : d < 256) (he : e < 256) (hf : f < 256) (hg : g < 256) (hh : h < 256) :
  popN 64 (by8 a b c d e f g h) = popN 8 a + (popN 8 b + (popN 8 c + (popN 8 d + (popN 8 e + (popN 8 f + (popN 8 g + popN 8 h)))))) := by
 have step : ∀ k q r, r < 256 -> popN (8 + k) (256 * q + r) = popN 8 r + popN k q := fun k q r hr => by
  rw [popN_add, popN_low q 8 r hr]
  congr 2
  show (256 * q + r) / 256 = q
  omega
 unfold by8
 rw [show 64 = 8 + (8 + (8 + (8 + (8 + (8 + (8 + 8)))))) from rfl, step _ _ _ ha, step _ _ _ hb, step _ _ _ hc, step _ _ _ hd, step _ _ _ he, step _ _ _ hf, step _ _ _ hg]
theorem exists_by8 {n : Nat} (h : n < 18446744073709551616) : ∃ a b c d e f g h, n = by8 a b c d e f g h ∧ a < 256 ∧ b < 256 ∧ c < 256 ∧ d < 256 ∧ e < 256 ∧ f < 256 ∧ g < 256 ∧ h < 256 := by
 refine ⟨n % 256, n / 256 % 256, n / 65536 % 256, n / 16777216 % 256, n / 4294967296 % 256, n / 1099511627776 % 256, n / 281474976710656 % 256, n / 72057594037927936 % 256, ?_, ?_, ?_, ?_, ?_, ?_, ?_, ?_, ?_⟩
 ·unfold by8; omega
 all_goals omega
theorem shr_and (x m k : Nat) : (x / 2 ^ k) &&& m = (x &&& (m * 2 ^ k)) / 2 ^ k := by
 rw [← Nat.shiftRight_eq_div_pow, ← Nat.shiftRight_eq_div_pow, Nat.shiftRight_and_distrib, Nat.shiftRight_eq_div_pow (m * 2 ^ k), Nat.mul_div_cancel _ (Nat.pow_pos (by decide))]
def sw1 (x : Nat) : Nat := ((x / 2 ^ 1) &&& 6148914691236517205) + (x &&& 6148914691236517205)
def sw2 (x : Nat) : Nat := ((x / 2 ^ 2) &&& 3689348814741910323) + (x &&& 3689348814741910323)
def sw3 (x : Nat) : Nat := (x / 2 ^ 4 + x) &&& 1085102592571150095
theorem sw1_by8 {a b c d e f g h : Nat} (ha : a < 256) (hb : b < 256) (hc : c < 256) (hd : d < 256) (he : e < 256) (hf : f < 256) (hg : g < 256) (hh : h < 256) :
  sw1 (by8 a b c d e f g h) = by8 (st1 a) (st1 b) (st1 c) (st1 d) (st1 e) (st1 f) (st1 g) (st1 h) := by
 unfold sw1
 rw [shr_and, show 6148914691236517205 * 2 ^ 1 = by8 170 170 170 170 170 170 170 170 from rfl, show 6148914691236517205 = by8 85 85 85 85 85 85 85 85 from rfl, and8 170 (by decide) ha hb hc hd he hf hg, and8 85 (by decide) ha hb hc hd he hf hg]
 have pa := (pop8 a ha).2.1; have pb := (pop8 b hb).2.1; have pc := (pop8 c hc).2.1; have pd := (pop8 d hd).2.1; have pe := (pop8 e he).2.1; have pf := (pop8 f hf).2.1; have pg := (pop8 g hg).2.1; have ph := (pop8 h hh).2.1
 unfold by8 st1
 omega
theorem sw2_by8 {a b c d e f g h : Nat} (ha : a < 256) (hb : b < 256) (hc : c < 256) (hd : d < 256) (he : e < 256) (hf : f < 256) (hg : g < 256) (ma : (a &&& 204) % 4 = 0) (mb : (b &&& 204) % 4 = 0) (mc : (c &&& 204) % 4 = 0) (md : (d &&& 204) % 4 = 0) (me : (e &&& 204) % 4 = 0) (mf : (f &&& 204) % 4 = 0) (mg : (g &&& 204) % 4 = 0) (mh : (h &&& 204) % 4 = 0) :
  sw2 (by8 a b c d e f g h) = by8 (st2 a) (st2 b) (st2 c) (st2 d) (st2 e) (st2 f) (st2 g) (st2 h) := by
 unfold sw2
 rw [shr_and, show 3689348814741910323 * 2 ^ 2 = by8 204 204 204 204 204 204 204 204 from rfl, show 3689348814741910323 = by8 51 51 51 51 51 51 51 51 from rfl, and8 204 (by decide) ha hb hc hd he hf hg, and8 51 (by decide) ha hb hc hd he hf hg]
 unfold by8 st2
 omega
theorem and15 (z : Nat) : z &&& 15 = z % 16 := Nat.and_two_pow_sub_one_eq_mod z 4
theorem sw3_by8 {a b c d e f g h : Nat} (ha : a <= 68) (hb : b <= 68) (hc : c <= 68) (hd : d <= 68) (he : e <= 68) (hf : f <= 68) (hg : g <= 68) (hh : h <= 68) (na : a % 16 <= 4) (nb : b % 16 <= 4) (nc : c % 16 <= 4) (nd : d % 16 <= 4) (ne : e % 16 <= 4) (nf : f % 16 <= 4) (ng : g % 16 <= 4) (nh : h % 16 <= 4) :
  sw3 (by8 a b c d e f g h) = by8 (st3 a) (st3 b) (st3 c) (st3 d) (st3 e) (st3 f) (st3 g) (st3 h) := by
 unfold sw3
 have e0 : by8 a b c d e f g h / 2 ^ 4 + by8 a b c d e f g h = by8 (a + a / 16 + 16 * (b % 16)) (b + b / 16 + 16 * (c % 16)) (c + c / 16 + 16 * (d % 16)) (d + d / 16 + 16 * (e % 16)) (e + e / 16 + 16 * (f % 16)) (f + f / 16 + 16 * (g % 16)) (g + g / 16 + 16 * (h % 16)) (h + h / 16) := by
  unfold by8
  omega
 rw [e0, show 1085102592571150095 = by8 15 15 15 15 15 15 15 15 from rfl, and8 15 (by decide) (by omega) (by omega) (by omega) (by omega) (by omega) (by omega) (by omega)]
 simp only [and15]
 unfold st3
 congr 1 <;> omega
theorem pop8_low : ∀ y, y < 256 -> st2 (st1 y) % 16 <= 4 ∧ st3 (st2 (st1 y)) <= 8 ∧ st2 (st1 y) < 256 ∧ st1 y < 256 := by decide +kernel
theorem sw_pop {n : Nat} (hn : n < 18446744073709551616) : ∃ a b c d e f g h, sw3 (sw2 (sw1 n)) = by8 a b c d e f g h ∧ a <= 8 ∧ b <= 8 ∧ c <= 8 ∧ d <= 8 ∧ e <= 8 ∧ f <= 8 ∧ g <= 8 ∧ h <= 8 ∧ popN 64 n = a + (b + (c + (d + (e + (f + (g + h)))))) := by
 obtain ⟨a, b, c, d, e, f, g, h, rfl, ha, hb, hc, hd, he, hf, hg, hh⟩ := exists_by8 hn
 have A := pop8 a ha; have B := pop8 b hb; have C := pop8 c hc; have D := pop8 d hd; have E := pop8 e he; have F := pop8 f hf; have G := pop8 g hg; have H := pop8 h hh
 have A' := pop8_low a ha; have B' := pop8_low b hb; have C' := pop8_low c hc; have D' := pop8_low d hd; have E' := pop8_low e he; have F' := pop8_low f hf; have G' := pop8_low g hg; have H' := pop8_low h hh
 rw [sw1_by8 ha hb hc hd he hf hg hh, sw2_by8 A'.2.2.2 B'.2.2.2 C'.2.2.2 D'.2.2.2 E'.2.2.2 F'.2.2.2 G'.2.2.2 A.2.2.1 B.2.2.1 C.2.2.1 D.2.2.1 E.2.2.1 F.2.2.1 G.2.2.1 H.2.2.1,
  sw3_by8 A.2.2.2.2 B.2.2.2.2 C.2.2.2.2 D.2.2.2.2 E.2.2.2.2 F.2.2.2.2 G.2.2.2.2 H.2.2.2.2 A'.1 B'.1 C'.1 D'.1 E'.1 F'.1 G'.1 H'.1, pop_by8 ha hb hc hd he hf hg hh]
 refine ⟨_, _, _, _, _, _, _, _, rfl, A'.2.1, B'.2.1, C'.2.1, D'.2.1, E'.2.1, F'.2.1, G'.2.1, H'.2.1, ?_⟩
 rw [A.1, B.1, C.1, D.1, E.1, F.1, G.1, H.1]
theorem by8_div {a b c d e f g h : Nat} (ha : a < 256) : by8 a b c d e f g h / 256 = by8 b c d e f g h 0 := by
 unfold by8
 omega
theorem by8_add (a b c d e f g h a' b' c' d' e' f' g' h' : Nat) : by8 a b c d e f g h + by8 a' b' c' d' e' f' g' h' = by8 (a + a') (b + b') (c + c') (d + d') (e + e') (f + f') (g + g') (h + h') := by
 unfold by8
 omega
theorem by8_lt {a b c d e f g h : Nat} (ha : a <= 64) (hb : b <= 64) (hc : c <= 64) (hd : d <= 64) (he : e <= 64) (hf : f <= 64) (hg : g <= 64) (hh : h <= 64) : by8 a b c d e f g h < 9223372036854775808 := by
 unfold by8
 omega
theorem by8_mod {a b c d e f g h : Nat} (ha : a < 128) : by8 a b c d e f g h % 128 = a := by
 unfold by8
 generalize 256 * (256 * (256 * (256 * (256 * (256 * h + g) + f) + e) + d) + c) + b = q
 omega
theorem sum_low {a b c d e f g h : Nat} (ha : a <= 8) (hb : b <= 8) (hc : c <= 8) (hd : d <= 8) (he : e <= 8) (hf : f <= 8) (hg : g <= 8) (hh : h <= 8) (x4 x5 x6 : Nat) (h4 : x4 = by8 a b c d e f g h + by8 a b c d e f g h / 256) (h5 : x5 = x4 + x4 / 65536) (h6 : x6 = x5 + x5 / 4294967296) :
  x6 % 128 = a + (b + (c + (d + (e + (f + (g + h)))))) ∧ x4 < 9223372036854775808 ∧ x5 < 9223372036854775808 ∧ x6 < 9223372036854775808 := by
 have d2 : ∀ x, x / 65536 = x / 256 / 256 := fun x => by omega
 have d4 : ∀ x, x / 4294967296 = x / 256 / 256 / 256 / 256 := fun x => by omega
 have e4 : x4 = by8 (a + b) (b + c) (c + d) (d + e) (e + f) (f + g) (g + h) (h + 0) := by rw [h4, by8_div (by omega), by8_add]
 have e5 : x5 = by8 (a + b + (c + d)) (b + c + (d + e)) (c + d + (e + f)) (d + e + (f + g)) (e + f + (g + h)) (f + g + (h + 0)) (g + h + 0) (h + 0 + 0) := by
  rw [h5, d2, e4, by8_div (by omega), by8_div (by omega), by8_add]
 have e6 : x6 = by8 (a + b + (c + d) + (e + f + (g + h))) (b + c + (d + e) + (f + g + (h + 0))) (c + d + (e + f) + (g + h + 0)) (d + e + (f + g) + (h + 0 + 0)) (e + f + (g + h) + 0) (f + g + (h + 0) + 0) (g + h + 0 + 0) (h + 0 + 0 + 0) := by
  rw [h6, d4, e5, by8_div (by omega), by8_div (by omega), by8_div (by omega), by8_div (by omega), by8_add]
 refine ⟨?_, ?_, ?_, ?_⟩
 ·rw [e6, by8_mod (by omega)]; omega
 ·rw [e4]; exact by8_lt (by omega) (by omega) (by omega) (by omega) (by omega) (by omega) (by omega) (by omega)
 ·rw [e5]; exact by8_lt (by omega) (by omega) (by omega) (by omega) (by omega) (by omega) (by omega) (by omega)
 ·rw [e6]; exact by8_lt (by omega) (by omega) (by omega) (by omega) (by omega) (by omega) (by omega) (by omega)
end Go.Fw
