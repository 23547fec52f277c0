/-
  Contracts of functions, printed by a program of this repo (wip/dec); how arguments are read; what same says of states. No condition.
-/
import Derived.Test.YtoionleakeemlaaGreatDoorG12
import Derived.Test.YtoionleakeemlaaGreatDoorProg
import Derived.Test.YtoionleakeemlaaGreatDoorG6
import Derived.LaidMore
import Derived.Stop.Joined
import Derived.JoinedOf
import Derived.Handed
import Derived.OpenShut
import Derived.KernelRfl
import Derived.Test.YtoionleakeemlaaGreatDoorG8
import Derived.ProofKit
import Derived.SevenTiedAt
namespace Go.Proofs.YtoionleakeemlaaGreatDoor
set_option linter.unusedSimpArgs false
set_option linter.unusedVariables false
open Go.Fw

set_option maxRecDepth 20000
set_option maxHeartbeats 4000000
attribute [local irreducible] ACalls AMoves


-- F muster/room.Check
def room_Check (s : State) : Int :=
  bif (((((decide (s.now < 0)) || (decide (s.now > 1000000))) || ((fleet_Check s.nodes) != 0)) || ((table_Check s.jobs) != 0)) || ((book_Check s.books) != 0)) then
    141
  else
    0

theorem room_Check_c (s : State) (hs0 : s.sz) : ∀ objs, AGives Tryz.prog 70 [State.a s] objs (I (room_Check s)) := by
  generalize hR : room_Check s = R
  refine AGives.any' (.cons (State.low _ _) .nil) lx (ACalls.of_cwp (kp 3 [28]) Tryz.func70 rfl rfl ?_)
  have hk0 := hs0
  obtain ⟨z3, z4, z5, z6, z7, z8, z9⟩ : s.nodes.length ≤ 4294967296 ∧ s.jobs.length ≤ 4294967296 ∧ (∀ y ∈ s.jobs, y.sz) ∧ s.resizes.length ≤ 4294967296 ∧ s.books.length ≤ 4294967296 ∧ s.ledger.length ≤ 4294967296 ∧ (∀ y ∈ s.ledger, y.sz) := hs0
  conv => whnf
  (first | apply u2 | apply u3 | apply u4 | apply ACalls.use); exact fleet_Check_c s.nodes szA _
  conv => whnf
  (first | apply u2 | apply u3 | apply u4 | apply ACalls.use); exact table_Check_c s.jobs szA _
  conv => whnf
  (first | apply u2 | apply u3 | apply u4 | apply ACalls.use); exact book_Check_c s.books szA _
  conv => whnf
  refine And.intro (fun h1 => ?_) (fun h2 => ?_)
  · conv => whnf
    obtain rfl := foll hR (ct h1 rfl)
    exact ret_seen lx sr
  · conv => whnf
    obtain rfl := foll hR (cf h2 rfl)
    exact ret_seen lx sr

-- F muster/table.Find
def table_Find (l : List Job) (id_ : Int) : Job × Bool :=
  bif (((table_Check l) != 0) || (!(table_known id_))) then
    (Job.zero, false)
  else
    bif (!(table_place l id_).2) then
      (Job.zero, false)
    else
      (((List.drop (Int.toNat ((table_place l id_).1)) (List.take (Int.toNat (w64 ((table_place l id_).1 + 1))) l)).getD 0 Job.zero), true)

theorem table_Find_c (l : List Job) (id_ : Int) (hs0 : l.length ≤ 4294967296 ∧ (∀ y ∈ l, y.sz)) : ∀ objs, AGives Tryz.prog 50 [jobL l, I id_] objs (AVal.tup [Job.a ((table_Find l id_).1), Bo ((table_Find l id_).2)]) := by
  generalize hR : table_Find l id_ = R
  refine AGives.any' (.cons lw (l1 .nil)) (Low.tup' (.cons (Job.low _ _) (l1 .nil))) (ACalls.of_cwp (kp 8 [15, 24]) Tryz.func50 rfl rfl ?_)
  have hk0 := hs0
  obtain ⟨z5, z6⟩ : l.length ≤ 4294967296 ∧ (∀ y ∈ l, y.sz) := hs0
  conv => whnf
  refine ACalls.use (table_Check_c l szA _) ?_
  conv => whnf
  (first | apply u2 | apply u3 | apply u4 | apply ACalls.use); exact table_known_c id_ _
  conv => whnf
  refine And.intro (fun h1 => ?_) (fun h2 => ?_)
  · conv => whnf
    obtain rfl := foll hR (ct h1 rfl)
    exact ret_seen (Low.tup' (.cons (Job.low _ _) (l1 .nil))) (Seen.tup (ev (Seen.agg (e1 (e1 (e1 (e1 (e1 (ev (seen_nil) (e1 (e1 (e1 (e1 (ev (seen_nil) (e1 (e1 (e1 (e1 (e1 (e1 (e1 (e1 (e1 .nil))))))))))))))))))))) (e1 .nil)))
  · conv => whnf
    refine ACalls.use (table_place_c l id_ szA _) ?_
    conv => whnf
    refine And.intro (fun h3 => ?_) (fun h4 => ?_)
    · conv => whnf
      obtain rfl := foll hR (cf h2 (ct h3 rfl))
      exact ret_seen (Low.tup' (.cons (Job.low _ _) (l1 .nil))) (Seen.tup (ev (Seen.agg (e1 (e1 (e1 (e1 (e1 (ev (seen_nil) (e1 (e1 (e1 (e1 (ev (seen_nil) (e1 (e1 (e1 (e1 (e1 (e1 (e1 (e1 (e1 .nil))))))))))))))))))))) (e1 .nil)))
    · conv => whnf
      refine And.intro (by first | exact fun hg => decide_eq_true (by first | (have hp := table_place_lt l id_ hk0.1 (by assumption); have pw : IntKind.i64.wrap ((table_place l id_).1 + 1) = (table_place l id_).1 + 1 := wr (by omega); simp only [Option.getD_some, pw, List.length_drop, List.length_take]; omega) | exact ckA) | exact gkA) ?_
      conv => whnf
      refine ACalls.use (mv [] (table_whole_o (List.drop (Int.toNat ((table_place l id_).1)) (List.take (Int.toNat (w64 ((table_place l id_).1 + 1))) l)) szA) .nil (dv (dn_as (as_cut l (Int.toNat ((table_place l id_).1)) (Int.toNat (w64 ((table_place l id_).1 + 1))) leA (by first | (have hp := table_place_lt l id_ hk0.1 (by assumption); have pw : IntKind.i64.wrap ((table_place l id_).1 + 1) = (table_place l id_).1 + 1 := wr (by omega); simp only [Option.getD_some, pw, List.length_drop, List.length_take]; omega) | exact ckA)) lw) .nil) (rO rr .nil) (rw_ 1 0 rfl)) ?_
      conv => whnf
      refine And.intro (by first | exact fun hg => decide_eq_true (by first | (have hp := table_place_lt l id_ hk0.1 (by assumption); have pw : IntKind.i64.wrap ((table_place l id_).1 + 1) = (table_place l id_).1 + 1 := wr (by omega); simp only [Option.getD_some, pw, List.length_drop, List.length_take]; omega) | exact ckA) | exact gkA) ?_
      conv => whnf
      refine ⟨_, evalOp_load rfl rfl rfl (elemI_at Job.zero 0 (by first | rfl | omega) (by first | (have hp := table_place_lt l id_ hk0.1 (by assumption); have pw : IntKind.i64.wrap ((table_place l id_).1 + 1) = (table_place l id_).1 + 1 := wr (by omega); simp only [Option.getD_some, pw, List.length_drop, List.length_take]; omega) | exact ckA)) rfl, ?_⟩
      conv => whnf
      obtain rfl := foll hR (cf h2 (cf h4 rfl))
      exact ret_seen (Low.tup' (.cons (Job.low _ _) (l1 .nil))) (Seen.tup (e1 (e1 .nil)))

end Go.Proofs.YtoionleakeemlaaGreatDoor
namespace Go.Proofs.YtoionleakeemlaaGreatDoor
set_option linter.unusedSimpArgs false
set_option linter.unusedVariables false
open Go.Fw

set_option maxRecDepth 20000
set_option maxHeartbeats 4000000
attribute [local irreducible] ACalls AMoves


-- F muster/plan.Check
def plan_Check (s : State) : Int :=
  bif (((room_Check s) != 0) || ((ledger_Check s.ledger) != 0)) then
    141
  else
    0

theorem plan_Check_c (s : State) (hs0 : s.sz) : ∀ objs, AGives Tryz.prog 34 [State.a s] objs (I (plan_Check s)) := by
  generalize hR : plan_Check s = R
  refine AGives.any' (.cons (State.low _ _) .nil) lx (ACalls.of_cwp (kp 3 [11]) Tryz.func34 rfl rfl ?_)
  have hk0 := hs0
  obtain ⟨z3, z4, z5, z6, z7, z8, z9⟩ : s.nodes.length ≤ 4294967296 ∧ s.jobs.length ≤ 4294967296 ∧ (∀ y ∈ s.jobs, y.sz) ∧ s.resizes.length ≤ 4294967296 ∧ s.books.length ≤ 4294967296 ∧ s.ledger.length ≤ 4294967296 ∧ (∀ y ∈ s.ledger, y.sz) := hs0
  conv => whnf
  refine ACalls.use (room_Check_c s szA _) ?_
  conv => whnf
  (first | apply u2 | apply u3 | apply u4 | apply ACalls.use); exact ledger_Check_c s.ledger szA _
  conv => whnf
  refine And.intro (fun h1 => ?_) (fun h2 => ?_)
  · conv => whnf
    obtain rfl := foll hR (ct h1 rfl)
    exact ret_seen lx sr
  · conv => whnf
    obtain rfl := foll hR (cf h2 rfl)
    exact ret_seen lx sr

theorem u3g {P : Program} {f : FuncId} {args : List AVal} {objs : Objs} {r : AVal} {g : Bool} {K : AVal → Objs → Prop} (h : g = true → ACalls P f args objs fun a b => a = r ∧ b = objs) (k : K r objs) : ∃ r' o', (g = true → ACalls P f args objs (fun a b => a = r' ∧ b = o')) ∧ (g = false → o' = objs) ∧ K r' o' := ⟨r, objs, h, fun _ => rfl, k⟩
theorem u4g {P : Program} {f : FuncId} {args : List AVal} {objs : Objs} {r : AVal} {g : Bool} {K : AVal → Prop} (h : g = true → AGives P f args objs r) (k : K r) : ∃ r', (g = true → AGives P f args objs r') ∧ K r' := ⟨r, h, k⟩

theorem setM_sz (k : Int) (v : Job) : ∀ (l : List (Int × Job)), (∀ y ∈ l, y.2.sz) → v.sz → ∀ y ∈ setM k v l, y.2.sz
  | [], _, hv, y, hy => by
    rw [setM, List.mem_singleton] at hy
    subst hy
    exact hv
  | p :: r, h, hv, y, hy => by
    rw [setM] at hy
    cases hk : (k == p.1) with
    | true =>
      rw [hk] at hy
      rcases List.mem_cons.1 hy with rfl | hy
      · exact hv
      · exact h y (List.mem_cons_of_mem _ hy)
    | false =>
      rw [hk] at hy
      rcases List.mem_cons.1 hy with rfl | hy
      · exact h _ (List.mem_cons_self ..)
      · exact setM_sz k v r (fun z hz => h z (List.mem_cons_of_mem _ hz)) hv y hy

theorem getM_sz (k : Int) : ∀ (l : List (Int × Job)), (∀ y ∈ l, y.2.sz) → ((getM k l).getD Job.zero).sz
  | [], _ => Job.szz _
  | p :: r, h => by
    rw [getM]
    cases (k == p.1) with
    | true => exact h p (List.mem_cons_self ..)
    | false => exact getM_sz k r fun z hz => h z (List.mem_cons_of_mem _ hz)


end Go.Proofs.YtoionleakeemlaaGreatDoor
namespace Go.Proofs.YtoionleakeemlaaGreatDoor
set_option linter.unusedSimpArgs false
set_option linter.unusedVariables false
open Go.Fw

set_option maxRecDepth 20000
set_option maxHeartbeats 4000000
attribute [local irreducible] ACalls AMoves


-- F muster/state.Check
def state_Check_g1  : List Job → Int → Nat → Int
  | [], lastJob, _ =>
    lastJob
  | x_ :: r, _, i =>
    state_Check_g1 r x_.id (i + 1)

def state_Check_g2  : List Book → Int → Nat → Int
  | [], lastBook, _ =>
    lastBook
  | x_1 :: r, _, i1 =>
    state_Check_g2 r x_1.id (i1 + 1)

def state_Check_g3  : List Job → Nat → List (Int × Job) → (List (Int × Job))
  | [], _, c =>
    c
  | x_2 :: r, i2, c =>
    bif (x_2.state == 2) then
      state_Check_g3 r (i2 + 1) (setM x_2.id x_2 c)
    else
      state_Check_g3 r (i2 + 1) c

def state_Check_g4 (s : State) (lastJob : Int) (lastBook : Int) (c : List (Int × Job)) : List Resize → Nat → List (Int × Resize) → Int
  | [], _, c2 =>
    bif ((((!true) || (!(state_next s.nextJob lastJob))) || (!(state_next s.nextBook lastBook))) || (!(state_nodes s c c2))) then
      141
    else
      bif (c.all (fun (en : Int × Job) => (bif ((alloc_Held s.nodes en.1) != en.2.nodes) then false else true))) then
        0
      else
        141
  | x_3 :: r, i3, c2 =>
    bif (((!(getM x_3.job c).isSome) || ((decide ((i3 : Int) > 0)) && (decide ((s.resizes.getD (Int.toNat (w64 ((i3 : Int) - 1))) Resize.zero).job ≥ x_3.job)))) || (!(state_resize s x_3 ((getM x_3.job c).getD Job.zero)))) then
      141
    else
      state_Check_g4 s lastJob lastBook c r (i3 + 1) (setM x_3.job x_3 c2)

def state_Check_k3 (s : State) (lastJob : Int) (lastBook : Int) (c : List (Int × Job)) : Int :=
  state_Check_g4 s lastJob lastBook c s.resizes 0 []

def state_Check_k2 (s : State) (lastJob : Int) (lastBook : Int) : Int :=
  state_Check_k3 s lastJob lastBook (state_Check_g3 s.jobs 0 [])

def state_Check_k1 (s : State) (lastJob : Int) : Int :=
  state_Check_k2 s lastJob (state_Check_g2 s.books 0 0)

def state_Check (s : State) : Int :=
  bif ((plan_Check s) != 0) then
    141
  else
    state_Check_k1 s (state_Check_g1 s.jobs 0 0)

theorem state_Check_c (s : State) (hs0 : s.sz) : ∀ objs, AGives Tryz.prog 13 [State.a s] objs (I (state_Check s)) := by
  generalize hR : state_Check s = R
  refine AGives.any' (.cons (State.low _ _) .nil) lx (ACalls.of_cwp (kp 14 [16, 18, 19, 20, 21, 28, 29, 30, 31, 68, 70, 72, 82]) Tryz.func13 rfl rfl ?_)
  have hk0 := hs0
  obtain ⟨z29, z30, z31, z32, z33, z34, z35⟩ : s.nodes.length ≤ 4294967296 ∧ s.jobs.length ≤ 4294967296 ∧ (∀ y ∈ s.jobs, y.sz) ∧ s.resizes.length ≤ 4294967296 ∧ s.books.length ≤ 4294967296 ∧ s.ledger.length ≤ 4294967296 ∧ (∀ y ∈ s.ledger, y.sz) := hs0
  conv => whnf
  refine ACalls.use (plan_Check_c s (by first | (exact getM_sz _ _ (by assumption)) | exact szA) _) ?_
  conv => whnf
  refine And.intro (fun h1 => ?_) (fun h2 => ?_)
  · conv => whnf
    obtain rfl := foll hR (ct h1 rfl)
    exact ret_seen lx sr
  · conv => whnf
    refine loop_start2 (fun (lastJob : Int) (i : Nat) => state_Check_k1 s (state_Check_g1 (List.drop i s.jobs) lastJob i) = R ∧ i ≤ s.jobs.length) (fun lastJob i => s.jobs.length - i) (fun lastJob i => [(1, AVal.ptr 0 0 8 0 0), (2, I 0), (3, I lastJob), (4, I 0), (18, jobL s.jobs), (19, I (s.jobs.length : Int)), (20, I (i : Int))]) (fun lastJob i => [(0, AObj.row 28 8 [[I s.now, nodeL s.nodes, jobL s.jobs, resizeL s.resizes, bookL s.books, usageL s.ledger, I s.nextJob, I s.nextBook]])]) 0 0 (wk [0] (tO rfl (ts State.lo) .nil) (sv (turn_ptr 0 rfl rfl) (s1 (s1 (s1 (sl lw (s1 (s1 .nil)))))))) ⟨foll hR (cf h2 rfl), by exact omA⟩ ?_
    clear hR
    rintro lastJob i ⟨hR, hj⟩
    try dsimp only at hR hj
    conv => whnf
    refine And.intro (fun h3 => ?_) (fun h4 => ?_)
    · have hlt : i < s.jobs.length := by have := of_decide_eq_true h3; omega
      rw [drop_getD Job.zero hlt] at hR
      have hxz : (s.jobs.getD i Job.zero).sz := getD_sz (by first | assumption | grind) (Job.szz _)
      have hkz := hxz
      obtain ⟨z5, z6, z7, z8, z9⟩ : ((s.jobs.getD i Job.zero).name).size ≤ 4294967296 ∧ ((s.jobs.getD i Job.zero).user).size ≤ 4294967296 ∧ ((s.jobs.getD i Job.zero).account).size ≤ 4294967296 ∧ ((((s.jobs.getD i Job.zero).shape).alts).length ≤ 4294967296) ∧ ((s.jobs.getD i Job.zero).after).length ≤ 4294967296 := hxz
      conv => whnf
      refine And.intro gkA ?_
      conv => whnf
      exact loop_next2 ((s.jobs.getD i Job.zero).id) (i + 1) (wk [0] (tO rfl (ts State.lo) .nil) (sv (turn_ptr 0 rfl rfl) (s1 (s1 (s1 (sl lw (s1 (sv (turn_eq (I_eq (wr omA)) lx) .nil)))))))) omA ⟨foll hR (congrArg (fun p : Int => state_Check_k1 s p) rfl), by exact omA⟩
    · rw [drop_none (l := s.jobs) (j := i) (by have := of_decide_eq_false h4; omega)] at hR
      conv => whnf
      replace hR : state_Check_k1 s lastJob = R := fo2 (fun p : Int => state_Check_k1 s p) (lastJob) hR rfl
      refine loop_start2 (fun (lastBook : Int) (i1 : Nat) => state_Check_k2 s lastJob (state_Check_g2 (List.drop i1 s.books) lastBook i1) = R ∧ i1 ≤ s.books.length) (fun lastBook i1 => s.books.length - i1) (fun lastBook i1 => [(1, AVal.ptr 0 0 8 0 0), (2, I 0), (3, I lastJob), (4, I lastBook), (28, bookL s.books), (29, I (s.books.length : Int)), (30, I (i1 : Int))]) (fun lastBook i1 => [(0, AObj.row 28 8 [[I s.now, nodeL s.nodes, jobL s.jobs, resizeL s.resizes, bookL s.books, usageL s.ledger, I s.nextJob, I s.nextBook]])]) 0 0 (wk [0] (tO rfl (ts State.lo) .nil) (sv (turn_ptr 0 rfl rfl) (s1 (s1 (s1 (sl lw (s1 (s1 .nil)))))))) ⟨foll hR rfl, by exact omA⟩ ?_
      clear hR
      rintro lastBook i1 ⟨hR, hj⟩
      try dsimp only at hR hj
      conv => whnf
      refine And.intro (fun h10 => ?_) (fun h11 => ?_)
      · have hlt : i1 < s.books.length := by have := of_decide_eq_true h10; omega
        rw [drop_getD Book.zero hlt] at hR
        conv => whnf
        refine And.intro gkA ?_
        conv => whnf
        exact loop_next2 ((s.books.getD i1 Book.zero).id) (i1 + 1) (wk [0] (tO rfl (ts State.lo) .nil) (sv (turn_ptr 0 rfl rfl) (s1 (s1 (s1 (sl lw (s1 (sv (turn_eq (I_eq (wr omA)) lx) .nil)))))))) omA ⟨foll hR (congrArg (fun p : Int => state_Check_k2 s lastJob p) rfl), by exact omA⟩
      · rw [drop_none (l := s.books) (j := i1) (by have := of_decide_eq_false h11; omega)] at hR
        conv => whnf
        replace hR : state_Check_k2 s lastJob lastBook = R := fo2 (fun p : Int => state_Check_k2 s lastJob p) (lastBook) hR rfl
        refine ACalls.of_cwp (fun _ => true) Tryz.func35 rfl rfl ?_
        conv => whnf
        refine loop_start2 (fun (i2 : Nat) (c : List (Int × Job)) => state_Check_k3 s lastJob lastBook (state_Check_g3 (List.drop i2 s.jobs) i2 c) = R ∧ i2 ≤ s.jobs.length ∧ ∀ y ∈ c, y.2.sz) (fun i2 c => s.jobs.length - i2) (fun i2 c => [(2, AVal.lit (.map none)), (3, AVal.map 1), (7, jobL s.jobs), (8, I (s.jobs.length : Int)), (9, I (i2 : Int))]) (fun i2 c => [(0, AObj.row 28 8 [[I s.now, nodeL s.nodes, jobL s.jobs, resizeL s.resizes, bookL s.books, usageL s.ledger, I s.nextJob, I s.nextBook]]), (0, AObj.other (.map (mapEs ik Job.a 0 c) c.length))]) 0 [] (wk [0, 1] (tO rfl (ts State.lo) (tO rfl (turn_mapO _ rfl rfl (fun _ => Job.low _ _)) .nil)) (s1 (sv (turn_map 1 rfl rfl) (sl lw (s1 (s1 .nil)))))) ⟨foll hR rfl, by exact omA, by first | (exact setM_sz _ _ _ (by assumption) (by assumption)) | first | (exact fun y hy => absurd hy List.not_mem_nil) | first | (assumption) | exact exA⟩ ?_
        clear hR
        rintro i2 c ⟨hR, hj, hx⟩
        try dsimp only at hR hj hx
        conv => whnf
        refine And.intro (fun h12 => ?_) (fun h13 => ?_)
        · have hlt : i2 < s.jobs.length := by have := of_decide_eq_true h12; omega
          rw [drop_getD Job.zero hlt] at hR
          have hxz : (s.jobs.getD i2 Job.zero).sz := getD_sz (by first | assumption | grind) (Job.szz _)
          have hkz := hxz
          obtain ⟨z14, z15, z16, z17, z18⟩ : ((s.jobs.getD i2 Job.zero).name).size ≤ 4294967296 ∧ ((s.jobs.getD i2 Job.zero).user).size ≤ 4294967296 ∧ ((s.jobs.getD i2 Job.zero).account).size ≤ 4294967296 ∧ ((((s.jobs.getD i2 Job.zero).shape).alts).length ≤ 4294967296) ∧ ((s.jobs.getD i2 Job.zero).after).length ≤ 4294967296 := hxz
          conv => whnf
          refine And.intro gkA ?_
          conv => whnf
          refine And.intro (fun h19 => ?_) (fun h20 => ?_)
          · conv => whnf
            refine ⟨_, _, keys_int rfl _ _, putM_map (ek := ik) ((s.jobs.getD i2 Job.zero).id) (s.jobs.getD i2 Job.zero) c rfl rfl, ?_⟩
            conv => whnf
            exact loop_next2 (i2 + 1) (setM (s.jobs.getD i2 Job.zero).id (s.jobs.getD i2 Job.zero) c) (wk [0, 1] (tO rfl (ts State.lo) (tO rfl (turn_mapO _ rfl rfl (fun _ => Job.low _ _)) .nil)) (s1 (sv (turn_map 1 rfl rfl) (sl lw (s1 (sv (turn_eq (I_eq (wr omA)) lx) .nil)))))) omA ⟨foll hR (congrArg (fun p : (List (Int × Job)) => state_Check_k3 s lastJob lastBook p) (ct h19 rfl)), by exact omA, by first | (exact setM_sz _ _ _ (by assumption) (by assumption)) | first | (exact fun y hy => absurd hy List.not_mem_nil) | first | (assumption) | exact exA⟩
          · conv => whnf
            exact loop_next2 (i2 + 1) c (wk [0, 1] (tO rfl (ts State.lo) (tO rfl (turn_mapO _ rfl rfl (fun _ => Job.low _ _)) .nil)) (s1 (sv (turn_map 1 rfl rfl) (sl lw (s1 (sv (turn_eq (I_eq (wr omA)) lx) .nil)))))) omA ⟨foll hR (congrArg (fun p : (List (Int × Job)) => state_Check_k3 s lastJob lastBook p) (cf h20 rfl)), by exact omA, by first | (exact setM_sz _ _ _ (by assumption) (by assumption)) | first | (exact fun y hy => absurd hy List.not_mem_nil) | first | (assumption) | exact exA⟩
        · rw [drop_none (l := s.jobs) (j := i2) (by have := of_decide_eq_false h13; omega)] at hR
          conv => whnf
          replace hR : state_Check_k3 s lastJob lastBook c = R := fo2 (fun p : (List (Int × Job)) => state_Check_k3 s lastJob lastBook p) (c) hR rfl
          refine ⟨_, _, Told.refl, ?_⟩
          conv => whnf
          refine ACalls.of_cwp (fun _ => true) Tryz.func36 rfl rfl ?_
          conv => whnf
          refine loop_start2 (fun (i3 : Nat) (c2 : List (Int × Resize)) => state_Check_g4 s lastJob lastBook c (List.drop i3 s.resizes) i3 c2 = R ∧ i3 ≤ s.resizes.length) (fun i3 c2 => s.resizes.length - i3) (fun i3 c2 => [(1, AVal.map 1), (2, AVal.ptr 2 0 8 0 0), (4, AVal.lit (.map none)), (5, Bo false), (6, AVal.map 3), (13, resizeL s.resizes), (14, I (s.resizes.length : Int)), (15, I (i3 : Int))]) (fun i3 c2 => [(0, AObj.row 28 8 [[I s.now, nodeL s.nodes, jobL s.jobs, resizeL s.resizes, bookL s.books, usageL s.ledger, I s.nextJob, I s.nextBook]]), (0, AObj.other (.map (mapEs ik Job.a 0 c) c.length)), (0, AObj.row 28 8 [[I s.now, nodeL s.nodes, jobL s.jobs, resizeL s.resizes, bookL s.books, usageL s.ledger, I s.nextJob, I s.nextBook]]), (0, AObj.other (.map (mapEs ik Resize.a 0 c2) c2.length))]) 0 [] (wk [0, 1, 2, 3] (tO rfl (ts State.lo) (tO rfl (turn_mapO _ rfl rfl (fun _ => Job.low _ _)) (tO rfl (ts State.lo) (tO rfl (turn_mapO _ rfl rfl (fun _ => Resize.low _ _)) .nil)))) (sv (turn_map 1 rfl rfl) (sv (turn_ptr 2 rfl rfl) (s1 (s1 (sv (turn_map 3 rfl rfl) (sl lw (s1 (s1 .nil))))))))) ⟨foll hR rfl, by exact omA⟩ ?_
          clear hR
          rintro i3 c2 ⟨hR, hj⟩
          try dsimp only at hR hj
          conv => whnf
          refine And.intro (fun h21 => ?_) (fun h22 => ?_)
          · have hlt : i3 < s.resizes.length := by have := of_decide_eq_true h21; omega
            rw [drop_getD Resize.zero hlt] at hR
            conv => whnf
            refine And.intro gkA ?_
            conv => whnf
            first | refine ⟨_, _, keys_int rfl _ _, lookP_map (ek := ik) ((s.resizes.getD i3 Resize.zero).job) c Job.zero (as_agg (a1 (a1 (a1 (a1 (a1 (av (as_nil) (a1 (a1 (a1 (a1 (av (as_nil) (a1 (a1 (a1 (a1 (a1 (a1 (a1 (a1 (a1 .nil))))))))))))))))))))), ?_⟩ | refine ⟨_, fun _ => ⟨_, _, keys_int rfl _ _, lookP_map (ek := ik) ((s.resizes.getD i3 Resize.zero).job) c Job.zero (as_agg (a1 (a1 (a1 (a1 (a1 (av (as_nil) (a1 (a1 (a1 (a1 (av (as_nil) (a1 (a1 (a1 (a1 (a1 (a1 (a1 (a1 (a1 .nil))))))))))))))))))))), rfl, rfl⟩, ?_⟩ | refine ⟨_, rfl, ⟨_, _, keys_int rfl _ _, lookP_map (ek := ik) ((s.resizes.getD i3 Resize.zero).job) c Job.zero (as_agg (a1 (a1 (a1 (a1 (a1 (av (as_nil) (a1 (a1 (a1 (a1 (av (as_nil) (a1 (a1 (a1 (a1 (a1 (a1 (a1 (a1 (a1 .nil))))))))))))))))))))), Sub.refl _, rfl⟩, ?_⟩
            conv => whnf
            refine dchk (by kernel_rfl) ?_
            conv => whnf
            refine And.intro gkA ?_
            conv => whnf
            (first | apply u2 | apply u3 | apply u4 | apply ACalls.use); exact state_resize_c s (s.resizes.getD i3 Resize.zero) ((getM (s.resizes.getD i3 Resize.zero).job c).getD Job.zero) (by first | (exact getM_sz _ _ (by assumption)) | exact szA) (by first | (exact getM_sz _ _ (by assumption)) | exact szA) _
            conv => whnf
            repeat ((first | refine And.intro rfl ?_ | refine And.intro (fun _ => rfl) ?_ | refine And.intro (fun _ => state_resize_c s (s.resizes.getD i3 Resize.zero) ((getM (s.resizes.getD i3 Resize.zero).job c).getD Job.zero) (by first | (exact getM_sz _ _ (by assumption)) | exact szA) (by first | (exact getM_sz _ _ (by assumption)) | exact szA) _) ?_); conv => whnf)
            refine And.intro (fun h23 => ?_) (fun h24 => ?_)
            · conv => whnf
              refine ⟨_, _, Told.refl, ?_⟩
              conv => whnf
              first | refine ⟨Bo false, _, fun h => absurd h (by decide), fun _ => rfl, ?_⟩ | refine ⟨Bo false, fun h => absurd h (by decide), ?_⟩
              conv => whnf
              first | refine ⟨Bo false, _, fun h => absurd h (by decide), fun _ => rfl, ?_⟩ | refine ⟨Bo false, fun h => absurd h (by decide), ?_⟩
              conv => whnf
              first | refine ⟨Bo false, _, fun h => absurd h (by decide), fun _ => rfl, ?_⟩ | refine ⟨Bo false, fun h => absurd h (by decide), ?_⟩
              conv => whnf
              refine And.intro (fun _ => ?_) (fun h => nomatch h)
              conv => whnf
              obtain rfl := foll hR (ct h23 rfl)
              exact ret_seen lx sr
            · conv => whnf
              refine ⟨_, _, keys_int rfl _ _, putM_map (ek := ik) ((s.resizes.getD i3 Resize.zero).job) (s.resizes.getD i3 Resize.zero) c2 rfl rfl, ?_⟩
              conv => whnf
              exact loop_next2 (i3 + 1) (setM (s.resizes.getD i3 Resize.zero).job (s.resizes.getD i3 Resize.zero) c2) (wk [0, 1, 2, 3] (tO rfl (ts State.lo) (tO rfl (turn_mapO _ rfl rfl (fun _ => Job.low _ _)) (tO rfl (ts State.lo) (tO rfl (turn_mapO _ rfl rfl (fun _ => Resize.low _ _)) .nil)))) (sv (turn_map 1 rfl rfl) (sv (turn_ptr 2 rfl rfl) (s1 (s1 (sv (turn_map 3 rfl rfl) (sl lw (s1 (sv (turn_eq (I_eq (wr omA)) lx) .nil))))))))) omA ⟨foll hR (cf h24 rfl), by exact omA⟩
          · rw [drop_none (l := s.resizes) (j := i3) (by have := of_decide_eq_false h22; omega)] at hR
            conv => whnf
            refine ⟨_, _, Told.refl, ?_⟩
            conv => whnf
            (first | apply u2 | apply u3 | apply u4 | apply ACalls.use); exact state_next_c s.nextJob lastJob _
            conv => whnf
            (first | apply u2 | apply u3 | apply u4 | apply ACalls.use); exact state_next_c s.nextBook lastBook _
            conv => whnf
            (first | apply u2 | apply u3 | apply u4 | apply ACalls.use); exact mv [1, 3] (state_nodes_c s c c2 (by first | (exact getM_sz _ _ (by assumption)) | exact szA)) (dO (.same _ (low_mapEs fun _ => Job.low _ _)) (dO (.same _ (low_mapEs fun _ => Resize.low _ _)) .nil)) (dv (dn_low (Low.agg' (State.lo))) (dv (dn_ren (Ren.map _ _ rfl)) (dv (dn_ren (Ren.map _ _ rfl)) .nil))) (rO (RenO.same _ (low_mapEs fun _ => Job.low _ _)) (rO (RenO.same _ (low_mapEs fun _ => Resize.low _ _)) .nil)) rx
            conv => whnf
            refine And.intro (fun h25 => ?_) (fun h26 => ?_)
            · conv => whnf
              obtain rfl := foll hR (ct h25 rfl)
              exact ret_seen lx sr
            · conv => whnf
              refine loop_start (X := Array Nat) (fun x => (bif (c.all (fun (en : Int × Job) => (bif ((alloc_Held s.nodes en.1) != en.2.nodes) then false else true))) then 0 else 141) = R ∧ ∀ j, j < c.length → x.contains j = true → (fun (en : Int × Job) => (bif ((alloc_Held s.nodes en.1) != en.2.nodes) then false else true)) (c.getD j ((0, Job.zero) : Int × Job)) = true) (fun x => unseen c.length x) (fun seen => [(1, AVal.ptr 0 0 8 0 0), (2, I 0), (70, AVal.ptr 2 0 1 0 0)]) (fun seen => [(0, AObj.row 28 8 [[I s.now, nodeL s.nodes, jobL s.jobs, resizeL s.resizes, bookL s.books, usageL s.ledger, I s.nextJob, I s.nextBook]]), (0, AObj.other (.map (mapEs ik Job.a 0 c) c.length)), (0, AObj.other (.mapIter 1 c.length seen c.length))]) #[] (wk [0, 1, 4] (tO rfl (ts State.lo) (tO rfl (turn_mapO _ rfl rfl (fun _ => Job.low _ _)) (tO rfl (turn_miter 1 rfl rfl) .nil))) (sv (turn_ptr 0 rfl rfl) (s1 (sv (turn_ptr 2 rfl rfl) .nil)))) ⟨foll hR (cf h26 rfl), fun j hj hc => absurd hc (by simp)⟩ ?_
              clear hR
              rintro seen ⟨hR, hx⟩
              conv => whnf
              refine map_round ((0, Job.zero) : Int × Job) (fun j hj hns => ?_) (fun hall => ?_)
              · conv => whnf
                refine And.intro (fun _ => ?_) (fun h => nomatch h)
                conv => whnf
                refine ⟨_, entry_map ((0, Job.zero) : Int × Job) rfl rfl hj, ?_⟩
                conv => whnf
                refine dchk (by kernel_rfl) ?_
                conv => whnf
                (first | apply u2 | apply u3 | apply u4 | apply ACalls.use); exact alloc_Held_c s.nodes ((c.getD j ((0, Job.zero) : Int × Job)).1) (by first | (exact getM_sz _ _ (by assumption)) | exact szA) _
                conv => whnf
                repeat ((first | refine And.intro rfl ?_ | refine And.intro (fun _ => rfl) ?_ | refine And.intro (fun _ => alloc_Held_c s.nodes ((c.getD j ((0, Job.zero) : Int × Job)).1) (by first | (exact getM_sz _ _ (by assumption)) | exact szA) _) ?_); conv => whnf)
                refine And.intro (fun h27 => ?_) (fun h28 => ?_)
                · conv => whnf
                  obtain rfl := foll hR ((cond_f (all_f (p := (fun (en : Int × Job) => (bif ((alloc_Held s.nodes en.1) != en.2.nodes) then false else true))) hj (ct h27 rfl))).trans rfl)
                  exact ret_seen lx sr
                · conv => whnf
                  exact loop_next (seen.push j) (unseen_push hj hns) (wk [0, 1, 2] (tO rfl (ts State.lo) (tO rfl (turn_mapO _ rfl rfl (fun _ => Job.low _ _)) (tO rfl (turn_miter 1 rfl rfl) .nil))) (sv (turn_ptr 0 rfl rfl) (s1 (sv (turn_ptr 2 rfl rfl) .nil)))) ⟨hR, seen_push (p := (fun (en : Int × Job) => (bif ((alloc_Held s.nodes en.1) != en.2.nodes) then false else true))) hx (cf h28 rfl)⟩
              · conv => whnf
                refine And.intro (fun h => nomatch h) (fun _ => ?_)
                conv => whnf
                obtain rfl := foll hR (ct (all_t hall hx) rfl)
                exact ret_seen lx sr

theorem slices_IndexFunc_Resize_lt1 (f : Resize → Bool) : ∀ (l : List Resize) (i : Nat), slices_IndexFunc_Resize_g1 f l i < 0 ∨ ((i : Int) ≤ slices_IndexFunc_Resize_g1 f l i ∧ slices_IndexFunc_Resize_g1 f l i < (i : Int) + (l.length : Int))
  | [], i => by left; rw [slices_IndexFunc_Resize_g1]; decide
  | x :: r, i => by
    rw [slices_IndexFunc_Resize_g1]
    cases (f x) with
    | true => right; simp only [cond_true, List.length_cons]; omega
    | false =>
      have := slices_IndexFunc_Resize_lt1 f r (i + 1)
      simp only [cond_false, List.length_cons]
      omega

theorem slices_IndexFunc_Resize_lt (l : List Resize) (f : Resize → Bool) : slices_IndexFunc_Resize l f < 0 ∨ (0 ≤ slices_IndexFunc_Resize l f ∧ slices_IndexFunc_Resize l f < (l.length : Int)) := by
  have := slices_IndexFunc_Resize_lt1 f l 0
  unfold slices_IndexFunc_Resize
  omega


end Go.Proofs.YtoionleakeemlaaGreatDoor
namespace Go.Proofs.YtoionleakeemlaaGreatDoor
set_option linter.unusedSimpArgs false
set_option linter.unusedVariables false
open Go.Fw

set_option maxRecDepth 20000
set_option maxHeartbeats 4000000
attribute [local irreducible] ACalls AMoves


-- F muster/state.Resizing
def state_Resizing (s : State) (id_ : Int) : Resize × Bool :=
  bif ((decide ((slices_IndexFunc_Resize s.resizes (fun (y : Resize) => (y.job == id_))) < 0)) || ((state_Check s) != 0)) then
    (Resize.zero, false)
  else
    ((s.resizes.getD (Int.toNat (slices_IndexFunc_Resize s.resizes (fun (y : Resize) => (y.job == id_)))) Resize.zero), true)

theorem state_Resizing_c (s : State) (id_ : Int) (hs0 : s.sz) : ∀ objs, AGives Tryz.prog 11 [State.a s, I id_] objs (AVal.tup [Resize.a ((state_Resizing s id_).1), Bo ((state_Resizing s id_).2)]) := by
  generalize hR : state_Resizing s id_ = R
  refine AGives.any' (.cons (State.low _ _) (l1 .nil)) (Low.tup' (.cons (Resize.low _ _) (l1 .nil))) (ACalls.of_cwp (kp 7 [17]) Tryz.func11 rfl rfl ?_)
  have hk0 := hs0
  obtain ⟨z7, z8, z9, z10, z11, z12, z13⟩ : s.nodes.length ≤ 4294967296 ∧ s.jobs.length ≤ 4294967296 ∧ (∀ y ∈ s.jobs, y.sz) ∧ s.resizes.length ≤ 4294967296 ∧ s.books.length ≤ 4294967296 ∧ s.ledger.length ≤ 4294967296 ∧ (∀ y ∈ s.ledger, y.sz) := hs0
  conv => whnf
  have cl1 : ∀ (y1 : Resize), AMoves Tryz.prog 32 [Resize.a y1, AVal.ptr 0 0 1 0 0] [(0, AObj.row 3 1 [[I id_]])] 1 (Bo ((fun (y : Resize) => (y.job == id_)) y1)) [(0, AObj.row 3 1 [[I id_]])] := by
    intro y1
    have hR : (fun (y : Resize) => (y.job == id_)) y1 = (fun (y : Resize) => (y.job == id_)) y1 := rfl
    refine AMoves.of_cwp (kp 4 []) Tryz.func32 rfl rfl rfl ?_
    conv => whnf
    refine ret_moves (fun r : Bool => Bo r) (fun _ => [(0, AObj.row 3 1 [[I id_]])]) (leaf := (y1.job == id_)) (foll hR rfl) ?_
    exact tt [0] (tO rfl (ts (l1 LowL.nil)) .nil) t1
  have hof1 : AMoves Tryz.prog 31 [resizeL s.resizes, AVal.fn (.func 32) [] [AVal.ptr 0 0 1 0 0]] [(0, AObj.row 3 1 [[I id_]])] 1 (I (slices_IndexFunc_Resize s.resizes (fun (y : Resize) => (y.job == id_)))) [(0, AObj.row 3 1 [[I id_]])] := by
    have hR : slices_IndexFunc_Resize s.resizes (fun (y : Resize) => (y.job == id_)) = slices_IndexFunc_Resize s.resizes (fun (y : Resize) => (y.job == id_)) := rfl
    refine AMoves.of_cwp (kp 6 [7, 8, 9, 16]) Tryz.func31 rfl rfl rfl ?_
    conv => whnf
    refine loop_start1 (fun (i : Nat) => slices_IndexFunc_Resize_g1 (fun (y : Resize) => (y.job == id_)) (List.drop i s.resizes) i = slices_IndexFunc_Resize s.resizes (fun (y : Resize) => (y.job == id_)) ∧ i ≤ s.resizes.length) (fun i => s.resizes.length - i) (fun i => [(0, resizeL s.resizes), (1, AVal.fn (.func 32) [] [AVal.ptr 0 0 1 0 0]), (4, I 0), (7, I (s.resizes.length : Int)), (8, I (i : Int))]) (fun i => [(0, AObj.row 3 1 [[I id_]])]) 0 (wk [0] (tO rfl (ts (l1 LowL.nil)) .nil) (sl lw (sv (turn_fn .nil (cv (turn_ptr 0 rfl rfl) .nil)) (s1 (s1 (s1 .nil)))))) ⟨foll hR rfl, by exact omA⟩ ?_
    clear hR
    rintro i ⟨hR, hj⟩
    try dsimp only at hR hj
    conv => whnf
    refine And.intro (fun h1 => ?_) (fun h2 => ?_)
    · have hlt : i < s.resizes.length := by have := of_decide_eq_true h1; omega
      rw [drop_getD Resize.zero hlt] at hR
      conv => whnf
      refine And.intro gkA ?_
      conv => whnf
      refine ACalls.use (mv [0] (cl1 (s.resizes.getD i Resize.zero)) (dO (ds (l1 LowL.nil)) .nil) (dl (Resize.low _ _) (dp .nil)) (rO (re (l1 LowL.nil)) .nil) rx) ?_
      conv => whnf
      refine And.intro (fun h3 => ?_) (fun h4 => ?_)
      · conv => whnf
        refine ret_moves (fun r : Int => I r) (fun r : Int => [(0, AObj.row 3 1 [[I id_]])]) (leaf := (i : Int)) (foll hR (ct h3 rfl)) ?_
        exact tt [0] (tO rfl (ts (l1 LowL.nil)) .nil) t1
      · conv => whnf
        exact loop_next1 (i + 1) (wk [0] (tO rfl (ts (l1 LowL.nil)) .nil) (sl lw (sv (turn_fn .nil (cv (turn_ptr 0 rfl rfl) .nil)) (s1 (s1 (sv (turn_eq (I_eq (wr omA)) lx) .nil)))))) omA ⟨foll hR (cf h4 rfl), by exact omA⟩
    · rw [drop_none (l := s.resizes) (j := i) (by have := of_decide_eq_false h2; omega)] at hR
      conv => whnf
      refine ret_moves (fun r : Int => I r) (fun r : Int => [(0, AObj.row 3 1 [[I id_]])]) (leaf := (-1)) (foll hR rfl) ?_
      exact tt [0] (tO rfl (ts (l1 LowL.nil)) .nil) t1
  refine ACalls.use (mv [1] (hof1) (dO (ds (l1 LowL.nil)) .nil) (dl lw (dv (dn_fn .nil (dp .nil)) .nil)) (rO (re (l1 LowL.nil)) .nil) rx) ?_
  conv => whnf
  (first | apply u2 | apply u3 | apply u4 | apply ACalls.use); exact state_Check_c s szA _
  conv => whnf
  refine And.intro (fun h5 => ?_) (fun h6 => ?_)
  · conv => whnf
    obtain rfl := foll hR (ct h5 rfl)
    exact ret_seen (Low.tup' (.cons (Resize.low _ _) (l1 .nil))) (Seen.tup (e1 (e1 .nil)))
  · conv => whnf
    refine And.intro (by first | exact fun hg => decide_eq_true (by first | (have hp := slices_IndexFunc_Resize_lt s.resizes (fun (y : Resize) => (y.job == id_)); simp only [Bool.or_eq_false_iff, decide_eq_false_iff_not] at *; omega) | exact ckA) | exact gkA) ?_
    conv => whnf
    obtain rfl := foll hR (cf h6 rfl)
    exact ret_seen (Low.tup' (.cons (Resize.low _ _) (l1 .nil))) (Seen.tup (e1 (e1 .nil)))

theorem law25_grown_sz : law25_grown.sz := by
  refine ⟨by decide, by decide, fun y hy => ?_, by decide, by decide, by decide, fun y hy => absurd hy List.not_mem_nil⟩
  rcases List.mem_cons.1 hy with rfl | hy
  · exact ⟨by decide, by decide, by decide, (by decide : (0 : Nat) ≤ 4294967296), by decide⟩
  · exact absurd hy List.not_mem_nil

theorem state_New4_sz : (state_New 4).1.sz := ⟨by decide +kernel, by decide +kernel, fun y hy => absurd (show y ∈ [] from hy) (by simp), by decide +kernel, by decide +kernel, by decide +kernel, fun y hy => absurd (show y ∈ [] from hy) (by simp)⟩


-- F muster/state.Config
def state_Config (s : State) (id_ : Int) : Int :=
  bif (((!(table_Find s.jobs id_).2) || ((table_Find s.jobs id_).1.state != 2)) || ((state_Check s) != 0)) then
    0
  else
    (table_Find s.jobs id_).1.nodes

theorem state_Config_c (s : State) (id_ : Int) (hs0 : s.sz) : ∀ objs, AGives Tryz.prog 16 [State.a s, I id_] objs (U (state_Config s id_)) := by
  generalize hR : state_Config s id_ = R
  refine AGives.any' (.cons (State.low _ _) (l1 .nil)) lx (ACalls.of_cwp (kp 7 [25]) Tryz.func16 rfl rfl ?_)
  have hk0 := hs0
  obtain ⟨z3, z4, z5, z6, z7, z8, z9⟩ : s.nodes.length ≤ 4294967296 ∧ s.jobs.length ≤ 4294967296 ∧ (∀ y ∈ s.jobs, y.sz) ∧ s.resizes.length ≤ 4294967296 ∧ s.books.length ≤ 4294967296 ∧ s.ledger.length ≤ 4294967296 ∧ (∀ y ∈ s.ledger, y.sz) := hs0
  conv => whnf
  refine ACalls.use (table_Find_c s.jobs id_ szA _) ?_
  conv => whnf
  (first | apply u2 | apply u3 | apply u4 | apply ACalls.use); exact state_Check_c s szA _
  conv => whnf
  refine And.intro (fun h1 => ?_) (fun h2 => ?_)
  · conv => whnf
    obtain rfl := foll hR (ct h1 rfl)
    exact ret_seen lx sr
  · conv => whnf
    obtain rfl := foll hR (cf h2 rfl)
    exact ret_seen lx sr

end Go.Proofs.YtoionleakeemlaaGreatDoor
namespace Go.Proofs.YtoionleakeemlaaGreatDoor
set_option linter.unusedSimpArgs false
set_option linter.unusedVariables false
open Go.Fw

set_option maxRecDepth 20000
set_option maxHeartbeats 4000000
attribute [local irreducible] ACalls AMoves


-- F muster/musterlaw25.awake
def law25_awake  : Bool :=
  ((((((((((((state_New 4).2 == 0) && ((((state_New 4).1.nodes).length : Int) == 4)) && ((state_New 4).1.nextJob == 1)) && ((state_Check ((state_New 4).1)) == 0)) && ((state_Check law25_grown) == 0)) && ((state_Check { law25_grown with jobs := (law25_grown.jobs.set 0 { (law25_grown.jobs.getD 0 Job.zero) with nodes := 1 }) }) == 141)) && ((state_Check State.zero) == 141)) && (state_Same law25_grown law25_grown)) && ((state_Config law25_grown 5) == 3)) && ((state_Resizing law25_grown 5).1.nodes == 4)) && (state_Resizing law25_grown 5).2)

theorem law25_awake_c  : ∀ objs, AGives Tryz.prog 8 [] objs (Bo law25_awake) := by
  generalize hR : law25_awake = R
  refine AGives.any' .nil lx (ACalls.of_cwp (kp 8 []) Tryz.func8 rfl rfl ?_)
  have hl : law25_grown.jobs.length = 1 := rfl
  conv => whnf
  refine ACalls.use (state_New_c 4 _) ?_
  conv => whnf
  refine ACalls.use (law25_grown_c _) ?_
  conv => whnf
  refine ACalls.use (mv [] (state_Copy_o law25_grown (by first | (exact law25_grown_sz) | first | (exact state_New4_sz) | first | ((refine ⟨by decide +kernel, by decide +kernel, fun y hy => ?_, by decide +kernel, by decide +kernel, by decide +kernel, fun y hy => absurd hy List.not_mem_nil⟩; rcases List.mem_cons.1 hy with rfl | hy; exact ⟨by decide +kernel, by decide +kernel, by decide +kernel, (by decide : (0 : Nat) ≤ 4294967296), by decide +kernel⟩; exact absurd hy List.not_mem_nil)) | exact szA)) .nil (dv (dn_low (Low.agg' (State.lo))) .nil) (rO rr (rO rr (rO rr (rO rr (rO rr .nil))))) (ren_agg (r1 (.cons _ _ _ _ (rw_ 2 0 rfl) (.cons _ _ _ _ (rw_ 3 0 rfl) (.cons _ _ _ _ (rw_ 4 0 rfl) (.cons _ _ _ _ (rw_ 5 0 rfl) (.cons _ _ _ _ (rw_ 6 0 rfl) (r1 (r1 .nil)))))))))) ?_
  conv => whnf
  refine ACalls.use (state_Resizing_c law25_grown 5 (by first | (exact law25_grown_sz) | first | (exact state_New4_sz) | first | ((refine ⟨by decide +kernel, by decide +kernel, fun y hy => ?_, by decide +kernel, by decide +kernel, by decide +kernel, fun y hy => absurd hy List.not_mem_nil⟩; rcases List.mem_cons.1 hy with rfl | hy; exact ⟨by decide +kernel, by decide +kernel, by decide +kernel, (by decide : (0 : Nat) ≤ 4294967296), by decide +kernel⟩; exact absurd hy List.not_mem_nil)) | exact szA) _) ?_
  conv => whnf
  refine ACalls.use (mv [] (law25_grown_o) .nil .nil (rO rr (rO rr (rO rr (rO rr (rO rr .nil))))) (ren_agg (r1 (.cons _ _ _ _ (rw_ 9 0 rfl) (.cons _ _ _ _ (rw_ 10 0 rfl) (.cons _ _ _ _ (rw_ 11 0 rfl) (.cons _ _ _ _ (rw_ 12 0 rfl) (.cons _ _ _ _ (rw_ 13 0 rfl) (r1 (r1 .nil)))))))))) ?_
  conv => whnf
  refine And.intro gkA ?_
  conv => whnf
  refine ⟨_, evalOp_store rfl rfl rfl rfl (elemI_at Job.zero 0 (by first | rfl | omega) ckA) rfl rfl (set_map 0 { (law25_grown.jobs.getD 0 Job.zero) with nodes := 1 } (by first | rfl | omega) rfl), ?_⟩
  conv => whnf
  (first | apply u2 | apply u3 | apply u4 | apply ACalls.use); exact state_Check_c ((state_New 4).1) (by first | (exact law25_grown_sz) | first | (exact state_New4_sz) | first | ((refine ⟨by decide +kernel, by decide +kernel, fun y hy => ?_, by decide +kernel, by decide +kernel, by decide +kernel, fun y hy => absurd hy List.not_mem_nil⟩; rcases List.mem_cons.1 hy with rfl | hy; exact ⟨by decide +kernel, by decide +kernel, by decide +kernel, (by decide : (0 : Nat) ≤ 4294967296), by decide +kernel⟩; exact absurd hy List.not_mem_nil)) | exact szA) _
  conv => whnf
  (first | apply u2 | apply u3 | apply u4 | apply ACalls.use); exact state_Check_c law25_grown (by first | (exact law25_grown_sz) | first | (exact state_New4_sz) | first | ((refine ⟨by decide +kernel, by decide +kernel, fun y hy => ?_, by decide +kernel, by decide +kernel, by decide +kernel, fun y hy => absurd hy List.not_mem_nil⟩; rcases List.mem_cons.1 hy with rfl | hy; exact ⟨by decide +kernel, by decide +kernel, by decide +kernel, (by decide : (0 : Nat) ≤ 4294967296), by decide +kernel⟩; exact absurd hy List.not_mem_nil)) | exact szA) _
  conv => whnf
  (first | apply u2 | apply u3 | apply u4 | apply ACalls.use); exact AGives.lent (state_Check_c { law25_grown with jobs := (law25_grown.jobs.set 0 { (law25_grown.jobs.getD 0 Job.zero) with nodes := 1 }) } (by first | (exact law25_grown_sz) | first | (exact state_New4_sz) | first | ((refine ⟨by decide +kernel, by decide +kernel, fun y hy => ?_, by decide +kernel, by decide +kernel, by decide +kernel, fun y hy => absurd hy List.not_mem_nil⟩; rcases List.mem_cons.1 hy with rfl | hy; exact ⟨by decide +kernel, by decide +kernel, by decide +kernel, (by decide : (0 : Nat) ≤ 4294967296), by decide +kernel⟩; exact absurd hy List.not_mem_nil)) | exact szA) []) (ev (Seen.agg (e1 (ev (seen_list _ _ rfl eqA lnA) (ev (seen_list _ _ rfl eqA lnA) (ev (seen_list _ _ rfl eqA lnA) (ev (seen_list _ _ rfl eqA lnA) (ev (seen_list _ _ rfl eqA lnA) (e1 (e1 .nil))))))))) .nil) (.cons (State.low _ _) .nil) (bare2_sound rfl)
  conv => whnf
  (first | apply u2 | apply u3 | apply u4 | apply ACalls.use); exact AGives.as2 (state_Check_c State.zero (by first | (exact law25_grown_sz) | first | (exact state_New4_sz) | first | ((refine ⟨by decide +kernel, by decide +kernel, fun y hy => ?_, by decide +kernel, by decide +kernel, by decide +kernel, fun y hy => absurd hy List.not_mem_nil⟩; rcases List.mem_cons.1 hy with rfl | hy; exact ⟨by decide +kernel, by decide +kernel, by decide +kernel, (by decide : (0 : Nat) ≤ 4294967296), by decide +kernel⟩; exact absurd hy List.not_mem_nil)) | exact szA) _) (av (as_agg (a1 (av (as_nil) (av (as_nil) (av (as_nil) (av (as_nil) (av (as_nil) (a1 (a1 .nil))))))))) .nil)
  conv => whnf
  (first | apply u2 | apply u3 | apply u4 | apply ACalls.use); exact AGives.lent (state_Same_c law25_grown law25_grown (by first | (exact law25_grown_sz) | first | (exact state_New4_sz) | first | ((refine ⟨by decide +kernel, by decide +kernel, fun y hy => ?_, by decide +kernel, by decide +kernel, by decide +kernel, fun y hy => absurd hy List.not_mem_nil⟩; rcases List.mem_cons.1 hy with rfl | hy; exact ⟨by decide +kernel, by decide +kernel, by decide +kernel, (by decide : (0 : Nat) ≤ 4294967296), by decide +kernel⟩; exact absurd hy List.not_mem_nil)) | exact szA) (by first | (exact law25_grown_sz) | first | (exact state_New4_sz) | first | ((refine ⟨by decide +kernel, by decide +kernel, fun y hy => ?_, by decide +kernel, by decide +kernel, by decide +kernel, fun y hy => absurd hy List.not_mem_nil⟩; rcases List.mem_cons.1 hy with rfl | hy; exact ⟨by decide +kernel, by decide +kernel, by decide +kernel, (by decide : (0 : Nat) ≤ 4294967296), by decide +kernel⟩; exact absurd hy List.not_mem_nil)) | exact szA) []) (e1 (ev (Seen.agg (e1 (ev (seen_list _ _ rfl eqA lnA) (ev (seen_list _ _ rfl eqA lnA) (ev (seen_list _ _ rfl eqA lnA) (ev (seen_list _ _ rfl eqA lnA) (ev (seen_list _ _ rfl eqA lnA) (e1 (e1 .nil))))))))) .nil)) (.cons (State.low _ _) (.cons (State.low _ _) .nil)) (bare2_sound rfl)
  conv => whnf
  (first | apply u2 | apply u3 | apply u4 | apply ACalls.use); exact state_Config_c law25_grown 5 (by first | (exact law25_grown_sz) | first | (exact state_New4_sz) | first | ((refine ⟨by decide +kernel, by decide +kernel, fun y hy => ?_, by decide +kernel, by decide +kernel, by decide +kernel, fun y hy => absurd hy List.not_mem_nil⟩; rcases List.mem_cons.1 hy with rfl | hy; exact ⟨by decide +kernel, by decide +kernel, by decide +kernel, (by decide : (0 : Nat) ≤ 4294967296), by decide +kernel⟩; exact absurd hy List.not_mem_nil)) | exact szA) _
  conv => whnf
  obtain rfl := foll hR rfl
  exact ret_seen lx sr

theorem law17_Few_ok : ∀ (l : List Usage) (i : Nat), law17_Few_g1 l i = true → ∀ y ∈ l, y.sz
  | [], _, _, y, hy => nomatch hy
  | x :: r, i, h, y, hy => by
    rw [law17_Few_g1] at h
    cases hc : ((decide ((ByteArray.size x.user : Int) > 1000)) || (decide ((ByteArray.size x.account : Int) > 1000))) with
    | true => rw [hc] at h; cases h
    | false =>
      rw [hc] at h
      rcases List.mem_cons.1 hy with rfl | hy
      · simp only [Bool.or_eq_false_iff, decide_eq_false_iff_not] at hc
        exact ⟨by omega, by omega⟩
      · exact law17_Few_ok r (i + 1) h y hy

theorem law14_Few_sz {j : Job} (h : law14_Few j = true) : j.sz := by
  simp only [law14_Few, law07_Few, Bool.and_eq_true, decide_eq_true_eq] at h
  exact ⟨by omega, by omega, by omega, by show j.shape.alts.length ≤ _; omega, by omega⟩

theorem law15_Few_ok : ∀ (l : List Job) (i : Nat), law15_Few_g1 l i = true → ∀ y ∈ l, y.sz
  | [], _, _, y, hy => nomatch hy
  | x :: r, i, h, y, hy => by
    rw [law15_Few_g1] at h
    cases hc : law14_Few x with
    | false => rw [hc] at h; cases h
    | true =>
      rw [hc] at h
      rcases List.mem_cons.1 hy with rfl | hy
      · exact law14_Few_sz hc
      · exact law15_Few_ok r (i + 1) h y hy

theorem law20_Few_sz {s : State} (h : law20_Few s = true) : s.sz := by
  simp only [law20_Few, law12_Few, law15_Few, law19_Few, law17_Few, Bool.and_eq_true, decide_eq_true_eq] at h
  obtain ⟨⟨⟨⟨h1, h2⟩, h3⟩, h4⟩, h5⟩ := h
  cases hj : decide ((s.jobs.length : Int) > 60) with
  | true => rw [hj] at h2; cases h2
  | false =>
    cases hl : decide ((s.ledger.length : Int) > 300) with
    | true => rw [hl] at h4; cases h4
    | false =>
      rw [hj] at h2
      rw [hl] at h4
      have qj := of_decide_eq_false hj
      have ql := of_decide_eq_false hl
      exact ⟨by omega, by omega, law15_Few_ok _ _ h2, by omega, by omega, by omega, law17_Few_ok _ _ h4⟩

end Go.Proofs.YtoionleakeemlaaGreatDoor
namespace Go.Fw
set_option linter.unusedSimpArgs false
set_option linter.unusedVariables false
open Go.RowKit Go.ChangeShapes Go.WideShapes Go.Deep

/-- THE LAW's STEP. -/
theorem law_lifted_laid {C : Checked} {os : Os} {f : FuncId} {fn : Func} {s : ChangeSpec} {laid0 : List (String × DataW Unit)} {conds : List PathCond} {apart fresh handsOn again : Bool} {H : Type} {enc : TypeId × Value → H} {Q : List AVal → Prop} {tb : TypeId}
    (own : ownKnob C.prog.godebug = none) (started : os.Started) (noInit : C.prog.inits.idxOf? f = none) (hfn : C.prog.funcs[f]? = some fn)
    (witness : ∃ (w : World) (tape : Tape) (i : Input), w.os = os ∧ (w.forCall tape i).Shaped C.prog ∧ i.vars = [] ∧ Input.okWide C.prog (w.forCall tape i) .any w.heap.size f i ∧
      ((s.pre enc C.prog fn conds apart (w.forCall tape i).memory i.args ∧ laidMetH C.prog laid0 (w.forCall tape i).memory) ∧ sizedMet enc C.prog fn (OpenSpec.ofChange s) apart (w.forCall tape i).memory i.args) ∧ ({} : Assume).holds C.prog (lone (Frame.enter C.prog f i.args .normal) [] (w.forCall tape i)))
    (hvars : s.vars = []) (hres : fn.resultTypes = #[tb]) (hbool : C.prog.underlying tb = some .bool) (laid : laidOutB C.prog = true)
    (hts : fn.params.toList.all (fun t => C.prog.readableRec t && decide (t < C.prog.types.size)) = true)
    (hspec : ∀ ds : List (DataW H), ds.length = fn.params.size → s.fn H ds = { results := [.lit (.bool true)], args := ds })
    (hargs : ArgsAs C.prog fn.params.toList Q) (hlaw : ∀ l, Q l → AGives C.prog f l [] (.lit (.bool true))) :
    ReturnsInHanded {} C os f .any (fun w args => (s.pre enc C.prog fn conds apart w args ∧ laidMetH C.prog laid0 w) ∧ sizedMet enc C.prog fn (OpenSpec.ofChange s) apart w args) (s.post enc C.prog fn apart fresh handsOn again) := by
  refine returnsInHanded_of_change_and (X := fun w _ => laidMetH C.prog laid0 w) (fun _ _ _ hh h => h.of_heap hh) own started noInit hfn witness ?_
  intro W base args ds gs before hval hW hcnd _ _ _
  have hW' := hW
  obtain ⟨p, q, hA, hV, hpq, hfz, hnd⟩ := hW
  rw [hvars] at hV
  obtain ⟨rfl, rfl⟩ := trodVars_none hV
  rw [List.append_nil] at hpq
  subst hpq
  obtain ⟨l, hQ, hreps⟩ := hargs.read (base := base) (vs := args.toList) (fun j t v hj hv => hval j t v (by simpa using hj) (by simpa using hv)) hA
  have hc := law_calls (hlaw l hQ) hreps
  rw [show args.toList.toArray = args by simp] at hc
  refine hc.mono fun e W' ⟨he, hb⟩ => ?_
  subst he
  have hlen : ds.length = fn.params.size := by
    have : ∀ {ts : List TypeId} {vs : List Value} {ds : List (DataW H)} {ps : List MemPlace}, DataW.TrodAll enc C.prog W 0 (fun _ => true) true ts vs ds ps → ds.length = ts.length := by
      intro ts
      induction ts with
      | nil => intro vs ds ps h; obtain ⟨rfl, rfl, rfl⟩ := trodAll_nil h; rfl
      | cons t ts ih => intro vs ds ps h; obtain ⟨v, vs', d, ds', p, q, rfl, rfl, rfl, hd, hrest⟩ := trodAll_cons h; simp [ih hrest]
    simpa using this hA
  have hfn2 := hspec ds hlen
  have hold : ∀ p ∈ before, p.block < W.heap.size := fun p hp => by simpa using hW'.lt p hp
  have hR : ∀ (b : Nat) (sp : Nat → Bool) (hd : Bool), DataW.TrodAll enc C.prog W' b sp hd fn.resultTypes.toList ((Value.bool true).resultList fn.resultTypes.size) (s.fn H (ds ++ [])).results [] := by
    intro b sp hd
    rw [List.append_nil, hfn2, hres]
    exact trodAll_cons_mk (shut_bool hbool _) trodAll_mk0
  have hAr : ∀ sp : Nat → Bool, (∀ p ∈ before, sp p.block = true) → DataW.TrodAll enc C.prog W' 0 sp true fn.params.toList args.toList (s.fn H (ds ++ [])).args before := by
    intro sp hsp
    rw [List.append_nil, hfn2]
    exact trodAll_below laid hb hts hA hold hsp
  have hVr : ∀ sp : Nat → Bool, DataW.TrodVars enc C.prog W' sp s.vars (s.fn H (ds ++ [])).vars [] := by
    intro sp
    rw [List.append_nil, hfn2, hvars]
    rfl
  refine ⟨_, rfl, ds, [], before, [], before, [], hW', hR _ _ _, hAr _ (fun p hp => by simpa using hold p hp), hVr _, hb.frame _, fun _ => ⟨ok_one hres rfl (okWide_bool_mk hbool _), _, _, ([] ++ before) ++ [], ⟨[] ++ before, [], trodAll_append (hAr _ (fun _ _ => rfl)) (hR _ _ _), hVr _, rfl, ?_, ?_⟩, ?_⟩⟩
  · intro b off hp
    have hp : MemPlace.cell b off ∈ before := by simpa using hp
    rw [hb.frozen (p := ⟨b, off, none⟩) (hold _ hp)]
    exact hfz b off (by simpa using hp)
  · intro ha
    simpa using hnd ha
  · intro p hp _
    simpa using hp

end Go.Fw
namespace Go.Proofs.YtoionleakeemlaaGreatDoor
set_option linter.unusedSimpArgs false
set_option linter.unusedVariables false
open Go.Fw

set_option maxRecDepth 100000

theorem ty3 : Tryz.prog.underlying 36 = some (.int .u64) := by kernel_rfl
theorem ty2 : Tryz.prog.underlying 9 = some (.string) := by kernel_rfl
theorem ty1 : Tryz.prog.underlying 4 = some (.bool) := by kernel_rfl
theorem ty0 : Tryz.prog.underlying 3 = some (.int .i64) := by kernel_rfl
def Node.wf (x : Node) : Prop := (Lit.int .i64 x.state).wf = true ∧ (Lit.int .i64 x.job).wf = true ∧ (Lit.int .i64 x.epoch).wf = true ∧ True ∧ (Lit.int .i64 x.want).wf = true ∧ (Lit.int .i64 x.since).wf = true ∧ (Lit.int .i64 x.asked).wf = true ∧ True
theorem readNode : ReadAs Tryz.prog 48 Node.cells Node.wf := by
  have h := ReadAs.struct (P := Tryz.prog) (t := 48) rfl (by kernel_rfl) (.cons rfl (ReadAs.int ty0) (.cons rfl (ReadAs.int ty0) (.cons rfl (ReadAs.int ty0) (.cons rfl (ReadAs.bool ty1) (.cons rfl (ReadAs.int ty0) (.cons rfl (ReadAs.int ty0) (.cons rfl (ReadAs.int ty0) .nil)))))))
  exact h.map (fun p => (⟨p.1, p.2.1, p.2.2.1, p.2.2.2.1, p.2.2.2.2.1, p.2.2.2.2.2.1, p.2.2.2.2.2.2.1⟩ : Node)) (fun _ => rfl) (fun _ h => h)
theorem readNodes : ReadAs Tryz.prog 22 (fun l => [nodeL l]) fun l => l.length ≤ maxLen ∧ ∀ a ∈ l, Node.wf a :=
  ReadAs.slice Node.zero rfl (by kernel_rfl) (by decide) readNode (fun _ => rfl)
def Alt.wf (x : Alt) : Prop := (Lit.int .i64 x.nodes).wf = true ∧ (Lit.int .i64 x.wall).wf = true ∧ True
theorem readAlt : ReadAs Tryz.prog 56 Alt.cells Alt.wf := by
  have h := ReadAs.struct (P := Tryz.prog) (t := 56) rfl (by kernel_rfl) (.cons rfl (ReadAs.int ty0) (.cons rfl (ReadAs.int ty0) .nil))
  exact h.map (fun p => (⟨p.1, p.2.1⟩ : Alt)) (fun _ => rfl) (fun _ h => h)
theorem readAlts : ReadAs Tryz.prog 49 (fun l => [altL l]) fun l => l.length ≤ maxLen ∧ ∀ a ∈ l, Alt.wf a :=
  ReadAs.slice Alt.zero rfl (by kernel_rfl) (by decide) readAlt (fun _ => rfl)
def Shape.wf (x : Shape) : Prop := (Lit.int .i64 x.kind).wf = true ∧ (x.alts.length ≤ maxLen ∧ ∀ a ∈ x.alts, Alt.wf a) ∧ (Lit.int .i64 x.min).wf = true ∧ (Lit.int .i64 x.max).wf = true ∧ (Lit.int .i64 x.wall).wf = true ∧ True
theorem readShape : ReadAs Tryz.prog 51 Shape.cells Shape.wf := by
  have h := ReadAs.struct (P := Tryz.prog) (t := 51) rfl (by kernel_rfl) (.cons rfl (ReadAs.int ty0) (.cons rfl (readAlts) (.cons rfl (ReadAs.int ty0) (.cons rfl (ReadAs.int ty0) (.cons rfl (ReadAs.int ty0) .nil)))))
  exact h.map (fun p => (⟨p.1, p.2.1, p.2.2.1, p.2.2.2.1, p.2.2.2.2.1⟩ : Shape)) (fun _ => rfl) (fun _ h => h)
def Dep.wf (x : Dep) : Prop := (Lit.int .i64 x.how).wf = true ∧ (Lit.int .i64 x.job).wf = true ∧ True
theorem readDep : ReadAs Tryz.prog 58 Dep.cells Dep.wf := by
  have h := ReadAs.struct (P := Tryz.prog) (t := 58) rfl (by kernel_rfl) (.cons rfl (ReadAs.int ty0) (.cons rfl (ReadAs.int ty0) .nil))
  exact h.map (fun p => (⟨p.1, p.2.1⟩ : Dep)) (fun _ => rfl) (fun _ h => h)
theorem readDeps : ReadAs Tryz.prog 52 (fun l => [depL l]) fun l => l.length ≤ maxLen ∧ ∀ a ∈ l, Dep.wf a :=
  ReadAs.slice Dep.zero rfl (by kernel_rfl) (by decide) readDep (fun _ => rfl)
def Job.wf (x : Job) : Prop := (Lit.int .i64 x.id).wf = true ∧ x.name.size ≤ maxLen ∧ x.user.size ≤ maxLen ∧ x.account.size ≤ maxLen ∧ Shape.wf x.shape ∧ (Lit.int .i64 x.prio).wf = true ∧ (x.after.length ≤ maxLen ∧ ∀ a ∈ x.after, Dep.wf a) ∧ (Lit.int .i64 x.state).wf = true ∧ True ∧ (Lit.int .i64 x.born).wf = true ∧ (Lit.int .i64 x.promise).wf = true ∧ (Lit.int .i64 x.choice).wf = true ∧ (Lit.int .i64 x.start).wf = true ∧ (Lit.int .i64 x.limit).wf = true ∧ (Lit.int .u64 x.nodes).wf = true ∧ (Lit.int .i64 x.used).wf = true ∧ True
theorem readJob : ReadAs Tryz.prog 54 Job.cells Job.wf := by
  have h := ReadAs.struct (P := Tryz.prog) (t := 54) rfl (by kernel_rfl) (.cons rfl (ReadAs.int ty0) (.cons rfl (ReadAs.string ty2) (.cons rfl (ReadAs.string ty2) (.cons rfl (ReadAs.string ty2) (.cons rfl (readShape) (.cons rfl (ReadAs.int ty0) (.cons rfl (readDeps) (.cons rfl (ReadAs.int ty0) (.cons rfl (ReadAs.bool ty1) (.cons rfl (ReadAs.int ty0) (.cons rfl (ReadAs.int ty0) (.cons rfl (ReadAs.int ty0) (.cons rfl (ReadAs.int ty0) (.cons rfl (ReadAs.int ty0) (.cons rfl (ReadAs.int ty3) (.cons rfl (ReadAs.int ty0) .nil))))))))))))))))
  exact h.map (fun p => (⟨p.1, p.2.1, p.2.2.1, p.2.2.2.1, p.2.2.2.2.1, p.2.2.2.2.2.1, p.2.2.2.2.2.2.1, p.2.2.2.2.2.2.2.1, p.2.2.2.2.2.2.2.2.1, p.2.2.2.2.2.2.2.2.2.1, p.2.2.2.2.2.2.2.2.2.2.1, p.2.2.2.2.2.2.2.2.2.2.2.1, p.2.2.2.2.2.2.2.2.2.2.2.2.1, p.2.2.2.2.2.2.2.2.2.2.2.2.2.1, p.2.2.2.2.2.2.2.2.2.2.2.2.2.2.1, p.2.2.2.2.2.2.2.2.2.2.2.2.2.2.2.1⟩ : Job)) (fun _ => rfl) (fun _ h => h)
theorem readJobs : ReadAs Tryz.prog 23 (fun l => [jobL l]) fun l => l.length ≤ maxLen ∧ ∀ a ∈ l, Job.wf a :=
  ReadAs.slice Job.zero rfl (by kernel_rfl) (by decide) readJob (fun _ => rfl)
def Resize.wf (x : Resize) : Prop := (Lit.int .i64 x.job).wf = true ∧ True ∧ (Lit.int .u64 x.nodes).wf = true ∧ (Lit.int .u64 x.said).wf = true ∧ (Lit.int .i64 x.since).wf = true ∧ True
theorem readResize : ReadAs Tryz.prog 38 Resize.cells Resize.wf := by
  have h := ReadAs.struct (P := Tryz.prog) (t := 38) rfl (by kernel_rfl) (.cons rfl (ReadAs.int ty0) (.cons rfl (ReadAs.bool ty1) (.cons rfl (ReadAs.int ty3) (.cons rfl (ReadAs.int ty3) (.cons rfl (ReadAs.int ty0) .nil)))))
  exact h.map (fun p => (⟨p.1, p.2.1, p.2.2.1, p.2.2.2.1, p.2.2.2.2.1⟩ : Resize)) (fun _ => rfl) (fun _ h => h)
theorem readResizes : ReadAs Tryz.prog 24 (fun l => [resizeL l]) fun l => l.length ≤ maxLen ∧ ∀ a ∈ l, Resize.wf a :=
  ReadAs.slice Resize.zero rfl (by kernel_rfl) (by decide) readResize (fun _ => rfl)
def Book.wf (x : Book) : Prop := (Lit.int .i64 x.id).wf = true ∧ (Lit.int .i64 x.from_).wf = true ∧ (Lit.int .i64 x.to).wf = true ∧ (Lit.int .i64 x.nodes).wf = true ∧ True
theorem readBook : ReadAs Tryz.prog 60 Book.cells Book.wf := by
  have h := ReadAs.struct (P := Tryz.prog) (t := 60) rfl (by kernel_rfl) (.cons rfl (ReadAs.int ty0) (.cons rfl (ReadAs.int ty0) (.cons rfl (ReadAs.int ty0) (.cons rfl (ReadAs.int ty0) .nil))))
  exact h.map (fun p => (⟨p.1, p.2.1, p.2.2.1, p.2.2.2.1⟩ : Book)) (fun _ => rfl) (fun _ h => h)
theorem readBooks : ReadAs Tryz.prog 25 (fun l => [bookL l]) fun l => l.length ≤ maxLen ∧ ∀ a ∈ l, Book.wf a :=
  ReadAs.slice Book.zero rfl (by kernel_rfl) (by decide) readBook (fun _ => rfl)
def Usage.wf (x : Usage) : Prop := x.user.size ≤ maxLen ∧ x.account.size ≤ maxLen ∧ (Lit.int .i64 x.used).wf = true ∧ (Lit.int .i64 x.share).wf = true ∧ True
theorem readUsage : ReadAs Tryz.prog 62 Usage.cells Usage.wf := by
  have h := ReadAs.struct (P := Tryz.prog) (t := 62) rfl (by kernel_rfl) (.cons rfl (ReadAs.string ty2) (.cons rfl (ReadAs.string ty2) (.cons rfl (ReadAs.int ty0) (.cons rfl (ReadAs.int ty0) .nil))))
  exact h.map (fun p => (⟨p.1, p.2.1, p.2.2.1, p.2.2.2.1⟩ : Usage)) (fun _ => rfl) (fun _ h => h)
theorem readUsages : ReadAs Tryz.prog 26 (fun l => [usageL l]) fun l => l.length ≤ maxLen ∧ ∀ a ∈ l, Usage.wf a :=
  ReadAs.slice Usage.zero rfl (by kernel_rfl) (by decide) readUsage (fun _ => rfl)
def State.wf (x : State) : Prop := (Lit.int .i64 x.now).wf = true ∧ (x.nodes.length ≤ maxLen ∧ ∀ a ∈ x.nodes, Node.wf a) ∧ (x.jobs.length ≤ maxLen ∧ ∀ a ∈ x.jobs, Job.wf a) ∧ (x.resizes.length ≤ maxLen ∧ ∀ a ∈ x.resizes, Resize.wf a) ∧ (x.books.length ≤ maxLen ∧ ∀ a ∈ x.books, Book.wf a) ∧ (x.ledger.length ≤ maxLen ∧ ∀ a ∈ x.ledger, Usage.wf a) ∧ (Lit.int .i64 x.nextJob).wf = true ∧ (Lit.int .i64 x.nextBook).wf = true ∧ True
theorem readState : ReadAs Tryz.prog 28 State.cells State.wf := by
  have h := ReadAs.struct (P := Tryz.prog) (t := 28) rfl (by kernel_rfl) (.cons rfl (ReadAs.int ty0) (.cons rfl (readNodes) (.cons rfl (readJobs) (.cons rfl (readResizes) (.cons rfl (readBooks) (.cons rfl (readUsages) (.cons rfl (ReadAs.int ty0) (.cons rfl (ReadAs.int ty0) .nil))))))))
  exact h.map (fun p => (⟨p.1, p.2.1, p.2.2.1, p.2.2.2.1, p.2.2.2.2.1, p.2.2.2.2.2.1, p.2.2.2.2.2.2.1, p.2.2.2.2.2.2.2.1⟩ : State)) (fun _ => rfl) (fun _ h => h)

end Go.Proofs.YtoionleakeemlaaGreatDoor
namespace Go.Proofs.YtoionleakeemlaaGreatDoor
set_option linter.unusedSimpArgs false
set_option linter.unusedVariables false
open Go.Fw

theorem same_go {α : Type} (d : α) (b : List α) (e : α → α → Bool) (he : ∀ x y, e x y = true ↔ x = y) (G : List α → Nat → Bool) (h0 : ∀ i, G [] i = true) (h1 : ∀ x r i, G (x :: r) i = bif !(e x (b.getD i d)) then false else G r (i + 1)) :
    ∀ (l : List α) (i : Nat), i + l.length = b.length → (G l i = true ↔ l = b.drop i)
  | [], i, h => by
    rw [h0, drop_none (by simp at h; omega)]
    simp
  | x :: r, i, h => by
    have hi : i < b.length := by simp at h; omega
    rw [h1, drop_getD d hi]
    cases hx : e x (b.getD i d) with
    | false =>
      have hne : x ≠ b.getD i d := fun hq => by rw [(he _ _).2 hq] at hx; cases hx
      simp only [Bool.not_false, cond_true]
      exact ⟨fun h => (nomatch h), fun h => absurd (List.cons.inj h).1 hne⟩
    | true =>
      have hq := (he _ _).1 hx
      have := same_go d b e he G h0 h1 r (i + 1) (by simp at h ⊢; omega)
      simp only [Bool.not_true, cond_false]
      rw [this, hq]
      simp

theorem same_list {α : Type} (d : α) (a b : List α) (e : α → α → Bool) (he : ∀ x y, e x y = true ↔ x = y) (G : List α → Nat → Bool) (h0 : ∀ i, G [] i = true) (h1 : ∀ x r i, G (x :: r) i = bif !(e x (b.getD i d)) then false else G r (i + 1)) :
    (bif ((a.length : Int) != (b.length : Int)) then false else G a 0) = true ↔ a = b := by
  cases hl : ((a.length : Int) != (b.length : Int)) with
  | true =>
    have : (a.length : Int) ≠ (b.length : Int) := by simpa using hl
    simp only [cond_true]
    refine ⟨fun h => (nomatch h), fun h => ?_⟩
    subst h
    exact absurd rfl this
  | false =>
    have h : (a.length : Int) = (b.length : Int) := by simpa using hl
    simp only [cond_false]
    have := same_go d b e he G h0 h1 a 0 (by omega)
    simpa using this

theorem bytes_inj (a b : ByteArray) : (ByteArray.toList a == ByteArray.toList b) = true ↔ a = b := by
  rw [beq_iff_eq, ByteArray.toList_eq, ByteArray.toList_eq]
  refine ⟨fun h => ?_, fun h => by rw [h]⟩
  exact ByteArray.ext (Array.toList_inj.1 h)

theorem bytes_inj2 (a b : ByteArray) : ByteArray.toList a = ByteArray.toList b ↔ a = b := by
  rw [← bytes_inj, beq_iff_eq]

theorem bytes_beq (a b : ByteArray) : (a == b) = true ↔ a = b := by
  cases a with | mk a => cases b with | mk b =>
  show (a == b) = true ↔ ByteArray.mk a = ByteArray.mk b
  simp

theorem equal_Node (a b : List Node) : slices_Equal_Node a b = true ↔ a = b :=
  same_list Node.zero a b (fun x y => ((x.state == y.state) && ((x.job == y.job) && ((x.epoch == y.epoch) && ((x.drain == y.drain) && ((x.want == y.want) && ((x.since == y.since) && (x.asked == y.asked)))))))) (fun x y => by cases x; cases y; simp) (slices_Equal_Node_g1 b) (fun _ => rfl) (fun _ _ _ => rfl)
theorem equal_Book (a b : List Book) : slices_Equal_Book a b = true ↔ a = b :=
  same_list Book.zero a b (fun x y => ((x.id == y.id) && ((x.from_ == y.from_) && ((x.to == y.to) && (x.nodes == y.nodes))))) (fun x y => by cases x; cases y; simp) (slices_Equal_Book_g1 b) (fun _ => rfl) (fun _ _ _ => rfl)
theorem equal_Resize (a b : List Resize) : slices_Equal_Resize a b = true ↔ a = b :=
  same_list Resize.zero a b (fun x y => ((x.job == y.job) && ((x.grow == y.grow) && ((x.nodes == y.nodes) && ((x.said == y.said) && (x.since == y.since)))))) (fun x y => by cases x; cases y; simp) (slices_Equal_Resize_g1 b) (fun _ => rfl) (fun _ _ _ => rfl)
theorem equal_Usage (a b : List Usage) : slices_Equal_Usage a b = true ↔ a = b :=
  same_list Usage.zero a b (fun x y => ((x.user == y.user) && ((x.account == y.account) && ((x.used == y.used) && (x.share == y.share))))) (fun x y => by cases x; cases y; simp only [Bool.and_eq_true, beq_iff_eq, bytes_beq, Usage.mk.injEq]) (slices_Equal_Usage_g1 b) (fun _ => rfl) (fun _ _ _ => rfl)
theorem equal_Alt (a b : List Alt) : slices_Equal_Alt a b = true ↔ a = b :=
  same_list Alt.zero a b (fun x y => ((x.nodes == y.nodes) && (x.wall == y.wall))) (fun x y => by cases x; cases y; simp) (slices_Equal_Alt_g1 b) (fun _ => rfl) (fun _ _ _ => rfl)
theorem equal_Dep (a b : List Dep) : slices_Equal_Dep a b = true ↔ a = b :=
  same_list Dep.zero a b (fun x y => ((x.how == y.how) && (x.job == y.job))) (fun x y => by cases x; cases y; simp) (slices_Equal_Dep_g1 b) (fun _ => rfl) (fun _ _ _ => rfl)

theorem shape_same (a b : Shape) : shape_Same a b = true ↔ a = b := by
  cases a; cases b
  simp only [shape_Same, Bool.and_eq_true, beq_iff_eq, equal_Alt, Shape.mk.injEq]
  grind

theorem job_same (y y1 : Job) : job_Same y y1 = true ↔ y = y1 := by
  unfold job_Same
  cases h1 : shape_Same y.shape y1.shape with
  | false =>
    have : y.shape ≠ y1.shape := fun h => by rw [(shape_same _ _).2 h] at h1; cases h1
    simp only [Bool.not_false, Bool.true_or, cond_true]
    exact ⟨fun h => (nomatch h), fun h => absurd (by rw [h]) this⟩
  | true =>
    have e1 := (shape_same _ _).1 h1
    cases h2 : slices_Equal_Dep y.after y1.after with
    | false =>
      have : y.after ≠ y1.after := fun h => by rw [(equal_Dep _ _).2 h] at h2; cases h2
      simp only [Bool.not_false, Bool.or_true, cond_true]
      exact ⟨fun h => (nomatch h), fun h => absurd (by rw [h]) this⟩
    | true =>
      have e2 := (equal_Dep _ _).1 h2
      simp only [Bool.not_true, Bool.or_false, cond_false, Bool.and_eq_true, beq_iff_eq, bytes_inj2]
      cases y; cases y1
      simp only at e1 e2
      simp only [Job.mk.injEq]
      grind

theorem table_same (a b : List Job) : table_Same a b = true ↔ a = b :=
  same_list Job.zero a b job_Same job_same (slices_EqualFunc_Job_g1 b job_Same) (fun _ => rfl) (fun _ _ _ => rfl)

theorem ref12_same (a b : List Node) : ref12_Same a b = true ↔ a = b :=
  same_list Node.zero a b (fun x y => ((x.state == y.state) && ((x.job == y.job) && ((x.epoch == y.epoch) && ((x.drain == y.drain) && ((x.want == y.want) && ((x.since == y.since) && (x.asked == y.asked)))))))) (fun x y => by cases x; cases y; simp) (ref12_Same_g1 b) (fun _ => rfl) (fun _ _ _ => rfl)
theorem ref19_same (a b : List Book) : ref19_Same a b = true ↔ a = b :=
  same_list Book.zero a b (fun x y => ((x.id == y.id) && ((x.from_ == y.from_) && ((x.to == y.to) && (x.nodes == y.nodes))))) (fun x y => by cases x; cases y; simp) (ref19_Same_g1 b) (fun _ => rfl) (fun _ _ _ => rfl)
theorem ref25_sameResizes (a b : List Resize) : ref25_SameResizes a b = true ↔ a = b :=
  same_list Resize.zero a b (fun x y => ((x.job == y.job) && ((x.grow == y.grow) && ((x.nodes == y.nodes) && ((x.said == y.said) && (x.since == y.since)))))) (fun x y => by cases x; cases y; simp) (ref25_SameResizes_g1 b) (fun _ => rfl) (fun _ _ _ => rfl)
theorem ref17_same (a b : List Usage) : ref17_Same a b = true ↔ a = b :=
  same_list Usage.zero a b (fun x y => !((((!(ByteArray.toList x.user == ByteArray.toList y.user)) || (!(ByteArray.toList x.account == ByteArray.toList y.account))) || (x.used != y.used)) || (x.share != y.share)))
    (fun x y => by
      have b1 := bytes_inj x.user y.user
      have b2 := bytes_inj x.account y.account
      cases x; cases y
      simp only at b1 b2
      simp only [Bool.not_eq_true', Bool.or_eq_false_iff, Bool.not_eq_false', b1, b2, bne_eq_false_iff_eq, Usage.mk.injEq]
      grind) (ref17_Same_g1 b) (fun _ => rfl) (fun _ _ _ => by rw [ref17_Same_g1, Bool.not_not])

theorem ref07_sameAlts (a b : List Alt) : ref07_SameAlts a b = true ↔ a = b :=
  same_list Alt.zero a b (fun x y => !((x.nodes != y.nodes) || (x.wall != y.wall))) (fun x y => by cases x; cases y; simp) (ref07_SameAlts_g1 b) (fun _ => rfl) (fun _ _ _ => by rw [ref07_SameAlts_g1, Bool.not_not])
theorem ref07_same (a b : Shape) : ref07_Same a b = true ↔ a = b := by
  cases a; cases b
  simp only [ref07_Same, Bool.and_eq_true, beq_iff_eq, ref07_sameAlts, Shape.mk.injEq]
  grind

theorem ref14_same_g1 (a b : Job) : ∀ (l : List Dep) (i : Nat), i + l.length = b.after.length → (ref14_Same_g1 a b l i = true ↔ (l = b.after.drop i ∧ ref14_Same_g1 a b [] 0 = true))
  | [], i, h => by
    rw [drop_none (by simp at h; omega)]
    simp [ref14_Same_g1]
  | x :: r, i, h => by
    have hi : i < b.after.length := by simp at h; omega
    rw [ref14_Same_g1.eq_2, drop_getD Dep.zero hi]
    have ih := ref14_same_g1 a b r (i + 1) (by simp at h ⊢; omega)
    cases hx : ((x.how == (b.after.getD i Dep.zero).how) && (x.job == (b.after.getD i Dep.zero).job)) with
    | false =>
      have hne : x ≠ b.after.getD i Dep.zero := fun hq => by rw [hq] at hx; simp at hx
      simp only [Bool.not_false, cond_true]
      exact ⟨fun h => (nomatch h), fun h => absurd (List.cons.inj h.1).1 hne⟩
    | true =>
      have hq : x = b.after.getD i Dep.zero := by
        revert hx
        cases x; cases (b.after.getD i Dep.zero)
        simp
      simp only [Bool.not_true, cond_false]
      rw [ih, hq]
      simp

theorem ref14_same (a b : Job) : ref14_Same a b = true ↔ a = b := by
  unfold ref14_Same
  cases hl : ((a.after.length : Int) != (b.after.length : Int)) with
  | true =>
    have : (a.after.length : Int) ≠ (b.after.length : Int) := by simpa using hl
    simp only [Bool.true_or, cond_true]
    exact ⟨fun h => (nomatch h), fun h => absurd (by rw [h]) this⟩
  | false =>
    have hl' : (a.after.length : Int) = (b.after.length : Int) := by simpa using hl
    cases h1 : ref07_Same a.shape b.shape with
    | false =>
      have : a.shape ≠ b.shape := fun h => by rw [(ref07_same _ _).2 h] at h1; cases h1
      simp only [Bool.not_false, Bool.or_true, cond_true]
      exact ⟨fun h => (nomatch h), fun h => absurd (by rw [h]) this⟩
    | true =>
      have e1 := (ref07_same _ _).1 h1
      simp only [Bool.not_true, Bool.or_false, cond_false]
      rw [ref14_same_g1 a b a.after 0 (by omega)]
      simp only [ref14_Same_g1, List.drop_zero, Bool.and_eq_true, beq_iff_eq, bytes_inj2]
      cases a; cases b
      simp only at e1
      simp only [Job.mk.injEq]
      grind

theorem ref15_same (a b : List Job) : ref15_Same a b = true ↔ a = b :=
  same_list Job.zero a b ref14_Same ref14_same (ref15_Same_g1 b) (fun _ => rfl) (fun _ _ _ => rfl)

theorem ref25_same (a b : State) : ref25_Same a b = true ↔ a = b := by
  cases a; cases b
  simp only [ref25_Same, Bool.and_eq_true, beq_iff_eq, ref12_same, ref15_same, ref25_sameResizes, ref19_same, ref17_same, State.mk.injEq]
  grind

theorem state_same (a b : State) : state_Same a b = true ↔ a = b := by
  unfold state_Same
  cases hr : slices_Equal_Resize a.resizes b.resizes with
  | false =>
    have : a.resizes ≠ b.resizes := fun h => by rw [(equal_Resize _ _).2 h] at hr; cases hr
    simp only [Bool.not_false, Bool.or_true, cond_true]
    exact ⟨fun h => (nomatch h), fun h => absurd (by rw [h]) this⟩
  | true =>
    have er := (equal_Resize _ _).1 hr
    simp only [Bool.not_true, Bool.or_false]
    cases hn : (((a.now != b.now) || (a.nextJob != b.nextJob)) || (a.nextBook != b.nextBook)) with
    | true =>
      simp only [cond_true]
      refine ⟨fun h => (nomatch h), fun h => ?_⟩
      subst h
      simp at hn
    | false =>
      simp only [Bool.or_eq_false_iff, bne_eq_false_iff_eq] at hn
      simp only [cond_false, Bool.and_eq_true, fleet_Same, equal_Node, table_same, book_Same, equal_Book, ledger_Same, equal_Usage]
      cases a; cases b
      simp only at er hn
      simp only [State.mk.injEq]
      grind

theorem state_same_ref (a b : State) : (state_Same a b == ref25_Same a b) = true := by
  rw [beq_iff_eq]
  have h1 := state_same a b
  have h2 := ref25_same a b
  cases hx : state_Same a b <;> cases hy : ref25_Same a b <;> simp_all

theorem awake25 : law25_awake = true := by kernel_rfl

end Go.Proofs.YtoionleakeemlaaGreatDoor
