/-
  Contracts of functions, printed by a program of this repo (wip/dec). No condition beyond those that stand in each.
-/
import Derived.Test.YtoionleakeemlaaGreatDoorG10
import Derived.Test.YtoionleakeemlaaGreatDoorProg
namespace Go.Proofs.YtoionleakeemlaaGreatDoor
set_option linter.unusedSimpArgs false
set_option linter.unusedVariables false
open Go.Fw

set_option maxRecDepth 20000
set_option maxHeartbeats 4000000
attribute [local irreducible] ACalls AMoves


-- F muster/musterlaw15.Few
def law15_Few_g1  : List Job → Nat → Bool
  | [], _ =>
    true
  | x_ :: r, i =>
    bif (!(law14_Few x_)) then
      false
    else
      law15_Few_g1 r (i + 1)

def law15_Few (l : List Job) : Bool :=
  bif (decide ((l.length : Int) > 60)) then
    false
  else
    law15_Few_g1 l 0

theorem law15_Few_c (l : List Job) (hs0 : l.length ≤ 9223372036854775807 ∧ (∀ y ∈ l, y.szM)) : ∀ objs, AGives Tryz.prog 25 [jobL l] objs (Bo (law15_Few l)) := by
  generalize hR : law15_Few l = R
  refine AGives.any' (.cons lw .nil) lx (ACalls.of_cwp (kp 4 [6, 10, 18]) Tryz.func25 rfl rfl ?_)
  have hk0 := hs0
  obtain ⟨z12, z13⟩ : l.length ≤ 9223372036854775807 ∧ (∀ y ∈ l, y.szM) := hs0
  conv => whnf
  refine And.intro (fun h1 => ?_) (fun h2 => ?_)
  · conv => whnf
    have qh1 := of_decide_eq_true h1
    obtain rfl := foll hR (ct h1 rfl)
    exact ret_seen lx sr
  · conv => whnf
    have qh2 := of_decide_eq_false h2
    refine loop_start1 (fun (i : Nat) => law15_Few_g1 (List.drop i l) i = R ∧ i ≤ l.length) (fun i => l.length - i) (fun i => [(0, jobL l), (2, Bo false), (3, I (i : Int))]) (fun i => []) 0 (wk [] .nil (sl lw (s1 (s1 .nil)))) ⟨foll hR (cf h2 rfl), by exact omA⟩ ?_
    clear hR
    rintro i ⟨hR, hj⟩
    try dsimp only at hR hj
    conv => whnf
    refine And.intro (fun h3 => ?_) (fun h4 => ?_)
    · have hlt : i < l.length := by have := of_decide_eq_true h3; omega
      rw [drop_getD Job.zero hlt] at hR
      have hxz : (l.getD i Job.zero).szM := getD_sz (by first | assumption | grind) (Job.szz _)
      have hkz := hxz
      obtain ⟨z5, z6, z7, z8, z9⟩ : ((l.getD i Job.zero).name).size ≤ 9223372036854775807 ∧ ((l.getD i Job.zero).user).size ≤ 9223372036854775807 ∧ ((l.getD i Job.zero).account).size ≤ 9223372036854775807 ∧ ((((l.getD i Job.zero).shape).alts).length ≤ 9223372036854775807) ∧ ((l.getD i Job.zero).after).length ≤ 9223372036854775807 := hxz
      conv => whnf
      refine And.intro gkA ?_
      conv => whnf
      refine ACalls.use (law14_Few_c (l.getD i Job.zero) _) ?_
      conv => whnf
      refine And.intro (fun h10 => ?_) (fun h11 => ?_)
      · conv => whnf
        obtain rfl := foll hR (ct h10 rfl)
        exact ret_seen lx sr
      · conv => whnf
        exact loop_next1 (i + 1) (wk [] .nil (sl lw (s1 (sv (turn_eq (I_eq (wr omA)) lx) .nil)))) omA ⟨foll hR (cf h11 rfl), by exact omA⟩
    · rw [drop_none (l := l) (j := i) (by have := of_decide_eq_false h4; omega)] at hR
      conv => whnf
      obtain rfl := foll hR rfl
      exact ret_seen lx sr

-- F muster/shape.apart
def shape_apart_g1 (l : List Alt) : List Alt → Nat → Bool
  | [], _ =>
    true
  | x_ :: r, i =>
    bif (slices_ContainsFunc_Alt (List.take i l) (fun (y : Alt) => (x_.nodes == y.nodes))) then
      false
    else
      shape_apart_g1 l r (i + 1)

def shape_apart (l : List Alt) : Bool :=
  shape_apart_g1 l l 0

theorem shape_apart_c (l : List Alt) (hs0 : l.length ≤ 4294967296) : ∀ objs, AGives Tryz.prog 124 [altL l] objs (Bo (shape_apart l)) := by
  generalize hR : shape_apart l = R
  refine AGives.any' (.cons lw .nil) lx (ACalls.of_cwp (kp 5 [5, 6, 7, 8, 16]) Tryz.func124 rfl rfl ?_)
  have hk0 := hs0
  obtain z9 : l.length ≤ 4294967296 := hs0
  conv => whnf
  refine loop_start1 (fun (i : Nat) => shape_apart_g1 l (List.drop i l) i = R ∧ i ≤ l.length) (fun i => l.length - i) (fun i => [(0, altL l), (2, Bo false), (5, altL l), (6, I (l.length : Int)), (7, I (i : Int))]) (fun i => []) 0 (wk [] .nil (sl lw (s1 (sl lw (s1 (s1 .nil)))))) ⟨foll hR rfl, by exact omA⟩ ?_
  clear hR
  rintro i ⟨hR, hj⟩
  try dsimp only at hR hj
  conv => whnf
  refine And.intro (fun h1 => ?_) (fun h2 => ?_)
  · have hlt : i < l.length := by have := of_decide_eq_true h1; omega
    rw [drop_getD Alt.zero hlt] at hR
    conv => whnf
    refine And.intro gkA ?_
    conv => whnf
    refine And.intro gkA ?_
    conv => whnf
    have cl1 : ∀ (y1 : Alt), AMoves Tryz.prog 149 [Alt.a y1, AVal.ptr 0 0 2 0 0] [(0, AObj.row 56 2 [[I (l.getD i Alt.zero).nodes, I (l.getD i Alt.zero).wall]])] 1 (Bo ((fun (y : Alt) => ((l.getD i Alt.zero).nodes == y.nodes)) y1)) [(0, AObj.row 56 2 [[I (l.getD i Alt.zero).nodes, I (l.getD i Alt.zero).wall]])] := by
      intro y1
      have hR : (fun (y : Alt) => ((l.getD i Alt.zero).nodes == y.nodes)) y1 = (fun (y : Alt) => ((l.getD i Alt.zero).nodes == y.nodes)) y1 := rfl
      refine AMoves.of_cwp (kp 4 []) Tryz.func149 rfl rfl rfl ?_
      conv => whnf
      refine ret_moves (fun r : Bool => Bo r) (fun _ => [(0, AObj.row 56 2 [[I (l.getD i Alt.zero).nodes, I (l.getD i Alt.zero).wall]])]) (leaf := ((l.getD i Alt.zero).nodes == y1.nodes)) (foll hR rfl) ?_
      exact tt [0] (tO rfl (ts Alt.lo) .nil) t1
    have hof1 : AMoves Tryz.prog 125 [altL (List.take i l), AVal.fn (.func 149) [] [AVal.ptr 0 0 2 0 0]] [(0, AObj.row 56 2 [[I (l.getD i Alt.zero).nodes, I (l.getD i Alt.zero).wall]])] 1 (Bo (slices_ContainsFunc_Alt (List.take i l) (fun (y : Alt) => ((l.getD i Alt.zero).nodes == y.nodes)))) [(0, AObj.row 56 2 [[I (l.getD i Alt.zero).nodes, I (l.getD i Alt.zero).wall]])] := by
      have hR : slices_ContainsFunc_Alt (List.take i l) (fun (y : Alt) => ((l.getD i Alt.zero).nodes == y.nodes)) = slices_ContainsFunc_Alt (List.take i l) (fun (y : Alt) => ((l.getD i Alt.zero).nodes == y.nodes)) := rfl
      refine AMoves.of_cwp (kp 5 []) Tryz.func125 rfl rfl rfl ?_
      conv => whnf
      have hof2 : AMoves Tryz.prog 150 [altL (List.take i l), AVal.fn (.func 149) [] [AVal.ptr 0 0 2 0 0]] [(0, AObj.row 56 2 [[I (l.getD i Alt.zero).nodes, I (l.getD i Alt.zero).wall]])] 1 (I (slices_IndexFunc_Alt (List.take i l) (fun (y : Alt) => ((l.getD i Alt.zero).nodes == y.nodes)))) [(0, AObj.row 56 2 [[I (l.getD i Alt.zero).nodes, I (l.getD i Alt.zero).wall]])] := by
        have hR : slices_IndexFunc_Alt (List.take i l) (fun (y : Alt) => ((l.getD i Alt.zero).nodes == y.nodes)) = slices_IndexFunc_Alt (List.take i l) (fun (y : Alt) => ((l.getD i Alt.zero).nodes == y.nodes)) := rfl
        refine AMoves.of_cwp (kp 6 [7, 8, 9, 16]) Tryz.func150 rfl rfl rfl ?_
        conv => whnf
        refine loop_start1 (fun (i1 : Nat) => slices_IndexFunc_Alt_g1 (fun (y : Alt) => ((l.getD i Alt.zero).nodes == y.nodes)) (List.drop i1 (List.take i l)) i1 = slices_IndexFunc_Alt (List.take i l) (fun (y : Alt) => ((l.getD i Alt.zero).nodes == y.nodes)) ∧ i1 ≤ (List.take i l).length) (fun i1 => (List.take i l).length - i1) (fun i1 => [(0, altL (List.take i l)), (1, AVal.fn (.func 149) [] [AVal.ptr 0 0 2 0 0]), (4, I 0), (7, I ((List.take i l).length : Int)), (8, I (i1 : Int))]) (fun i1 => [(0, AObj.row 56 2 [[I (l.getD i Alt.zero).nodes, I (l.getD i Alt.zero).wall]])]) 0 (wk [0] (tO rfl (ts Alt.lo) .nil) (sl lw (sv (turn_fn .nil (cv (turn_ptr 0 rfl rfl) .nil)) (s1 (s1 (s1 .nil)))))) ⟨foll hR rfl, by exact omA⟩ ?_
        clear hR
        rintro i1 ⟨hR, hj⟩
        try dsimp only at hR hj
        conv => whnf
        refine And.intro (fun h3 => ?_) (fun h4 => ?_)
        · have hlt : i1 < (List.take i l).length := by have := of_decide_eq_true h3; omega
          rw [drop_getD Alt.zero hlt] at hR
          conv => whnf
          refine And.intro gkA ?_
          conv => whnf
          refine ACalls.use (mv [0] (cl1 ((List.take i l).getD i1 Alt.zero)) (dO (ds Alt.lo) .nil) (dl (Alt.low _ _) (dp .nil)) (rO (re Alt.lo) .nil) rx) ?_
          conv => whnf
          refine And.intro (fun h5 => ?_) (fun h6 => ?_)
          · conv => whnf
            refine ret_moves (fun r : Int => I r) (fun r : Int => [(0, AObj.row 56 2 [[I (l.getD i Alt.zero).nodes, I (l.getD i Alt.zero).wall]])]) (leaf := (i1 : Int)) (foll hR (ct h5 rfl)) ?_
            exact tt [0] (tO rfl (ts Alt.lo) .nil) t1
          · conv => whnf
            exact loop_next1 (i1 + 1) (wk [0] (tO rfl (ts Alt.lo) .nil) (sl lw (sv (turn_fn .nil (cv (turn_ptr 0 rfl rfl) .nil)) (s1 (s1 (sv (turn_eq (I_eq (wr omA)) lx) .nil)))))) omA ⟨foll hR (cf h6 rfl), by exact omA⟩
        · rw [drop_none (l := (List.take i l)) (j := i1) (by have := of_decide_eq_false h4; omega)] at hR
          conv => whnf
          refine ret_moves (fun r : Int => I r) (fun r : Int => [(0, AObj.row 56 2 [[I (l.getD i Alt.zero).nodes, I (l.getD i Alt.zero).wall]])]) (leaf := (-1)) (foll hR rfl) ?_
          exact tt [0] (tO rfl (ts Alt.lo) .nil) t1
      refine ACalls.use (mv [0] (hof2) (dO (ds Alt.lo) .nil) (dl lw (dv (dn_fn .nil (dp .nil)) .nil)) (rO (re Alt.lo) .nil) rx) ?_
      conv => whnf
      refine ret_moves (fun r : Bool => Bo r) (fun r : Bool => [(0, AObj.row 56 2 [[I (l.getD i Alt.zero).nodes, I (l.getD i Alt.zero).wall]])]) (leaf := (decide ((slices_IndexFunc_Alt (List.take i l) (fun (y : Alt) => ((l.getD i Alt.zero).nodes == y.nodes))) ≥ 0))) (foll hR rfl) ?_
      exact tt [0] (tO rfl (ts Alt.lo) .nil) t1
    refine ACalls.use (mv [0] (hof1) (dO (ds Alt.lo) .nil) (dv (dn_as (as_take l i ckA) lw) (dv (dn_fn .nil (dp .nil)) .nil)) (rO (re Alt.lo) .nil) rx) ?_
    conv => whnf
    refine And.intro (fun h7 => ?_) (fun h8 => ?_)
    · conv => whnf
      obtain rfl := foll hR (ct h7 rfl)
      exact ret_seen lx sr
    · conv => whnf
      exact loop_next1 (i + 1) (wk [] .nil (sl lw (s1 (sl lw (s1 (sv (turn_eq (I_eq (wr omA)) lx) .nil)))))) omA ⟨foll hR (cf h8 rfl), by exact omA⟩
  · rw [drop_none (l := l) (j := i) (by have := of_decide_eq_false h2; omega)] at hR
    conv => whnf
    obtain rfl := foll hR rfl
    exact ret_seen lx sr

-- F muster/cmd.name
def cmd_name (s : ByteArray) : Bool :=
  (((runes_Check s).2 == 0) && (cmd_within ((runes_Check s).1) 1 16))

theorem cmd_name_c (s : ByteArray) (hs0 : s.size ≤ 4294967296) : ∀ objs, AGives Tryz.prog 176 [Sg s] objs (Bo (cmd_name s)) := by
  generalize hR : cmd_name s = R
  refine AGives.any' (l1 .nil) lx (ACalls.of_cwp (kp 5 []) Tryz.func176 rfl rfl ?_)
  have hk0 := hs0
  obtain z1 : s.size ≤ 4294967296 := hs0
  conv => whnf
  refine ACalls.use (runes_Check_c s szA _) ?_
  conv => whnf
  (first | apply u2 | apply u3 | apply u4 | apply ACalls.use); exact cmd_within_c ((runes_Check s).1) 1 16 _
  conv => whnf
  obtain rfl := foll hR rfl
  exact ret_seen lx sr

-- F muster/lex.number
def lex_number (s : ByteArray) : Int × Bool :=
  bif (((!(lex_digits s)) || (decide ((ByteArray.size s : Int) > 9))) || ((decide ((ByteArray.size s : Int) > 1)) && (((s.data.toList.getD 0 0).toNat : Int) == 48))) then
    (0, false)
  else
    ((strconv_Atoi s).1, true)

theorem lex_number_c (s : ByteArray) (hs0 : s.size ≤ 4294967296) : ∀ objs, AGives Tryz.prog 224 [Sg s] objs (AVal.tup [I ((lex_number s).1), Bo ((lex_number s).2)]) := by
  generalize hR : lex_number s = R
  refine AGives.any' (l1 .nil) (Low.tup' (l1 (l1 .nil))) (ACalls.of_cwp (kp 6 [23]) Tryz.func224 rfl rfl ?_)
  have hk0 := hs0
  obtain z3 : s.size ≤ 4294967296 := hs0
  conv => whnf
  refine ACalls.use (lex_digits_c s szA _) ?_
  conv => whnf
  refine And.intro gkA ?_
  conv => whnf
  refine And.intro (fun h1 => ?_) (fun h2 => ?_)
  · conv => whnf
    obtain rfl := foll hR (ct h1 rfl)
    exact ret_seen (Low.tup' (l1 (l1 .nil))) (Seen.tup (e1 (e1 .nil)))
  · conv => whnf
    refine ACalls.use (strconv_Atoi_c s szA (by exact lex_digits_ok (by assumption)) _) ?_
    conv => whnf
    refine dchk (by kernel_rfl) ?_
    conv => whnf
    repeat ((first | refine And.intro rfl ?_ | refine And.intro (fun _ => rfl) ?_); conv => whnf)
    obtain rfl := foll hR (cf h2 rfl)
    exact ret_seen (Low.tup' (l1 (l1 .nil))) (Seen.tup (e1 (e1 .nil)))

-- F (*strings.Builder).WriteRune
theorem WriteRune_c (l : List Int) (r_ : Int) (hl : l.length ≤ 4294967296) : AMoves Tryz.prog 216 [.ptr 0 0 2 0 0, J r_] [(0, .row 222 2 [[.sel 0 0 2 0 0, .own 1 0 1 0 l.length]]), (0, bytesRow l)] 1 (.tup [I (w64 (((utf8_AppendRune l r_).length : Int) - (l.length : Int))), .lit .nilIface]) [(0, .row 222 2 [[.ptr 0 0 2 0 0, .own 1 0 1 0 (utf8_AppendRune l r_).length]]), (0, bytesRow (utf8_AppendRune l r_))] := by
  refine AMoves.of_cwp (fun t => Nat.ble 1000000 t || Nat.blt t 7) Tryz.func216 rfl rfl rfl ?_
  conv => whnf
  refine ACalls.use (AMoves.on [0, 1] (copyCheck_m (x := .own 1 0 1 0 l.length) (rest := [(0, bytesRow l)]) (n0 := 2) (by simp)) (by decide) rfl rfl rfl (.cons _ _ _ _ (.row1 _ _ _ _ (.cons _ _ _ _ (dn_sel rfl) (.cons _ _ _ _ (dn_own rfl) .nil))) (.cons _ _ _ _ (.same _ (low_map fun _ => lowL1 rfl)) .nil)) rfl (.cons _ _ _ _ (dn_ptr rfl) .nil) (.cons _ _ _ _ (RenO.row1 _ _ _ _ (.cons _ _ _ _ (Ren.ptr _ _ _ _ _ _ rfl) (.cons _ _ _ _ (Ren.own _ _ _ _ _ _ rfl) .nil))) (.cons _ _ _ _ (RenO.same _ (low_map fun _ => lowL1 rfl)) .nil)) (Ren.low _ (.tup _ (fun x h => nomatch h)))) ?_
  conv => whnf
  refine ACalls.use (AMoves.on [1] (utf8_AppendRune_o l r_ hl) (by decide) rfl rfl rfl (.cons _ _ _ _ (dn_row rfl (low_map fun _ => lowL1 rfl)) .nil) rfl (.cons _ _ _ _ (dn_ownl rfl rfl) (.cons _ _ _ _ (dn_low (low2_sound rfl)) .nil)) (.cons _ _ _ _ (RenO.same _ (low_map fun _ => lowL1 rfl)) .nil) (Ren.own _ _ _ _ _ _ rfl)) ?_
  conv => whnf
  refine ret_moves (fun _ : Unit => .tup [I (w64 (((utf8_AppendRune l r_).length : Int) - (l.length : Int))), .lit .nilIface]) (fun _ : Unit => [(0, .row 222 2 [[.ptr 0 0 2 0 0, .own 1 0 1 0 (utf8_AppendRune l r_).length]]), (0, bytesRow (utf8_AppendRune l r_))]) (leaf := ()) rfl ?_
  exact told_turnI [0, 2] rfl (by decide) (.cons 0 _ _ _ _ rfl (turn_row1 (.cons _ _ _ _ (turn_ptr 0 rfl rfl) (.cons _ _ _ _ (turn_own 1 rfl rfl rfl) .nil))) (.cons 2 _ _ _ _ rfl (turn_same rfl (low_map fun _ => lowL1 rfl)) .nil)) (turn_tup (.cons _ _ _ _ (turn_low (low2_sound rfl)) (.cons _ _ _ _ (turn_low (low2_sound rfl)) .nil)))

-- F muster/cmd.deps
def cmd_deps_g1 (l : List Dep) : List Dep → Nat → Bool
  | [], _ =>
    (decide ((l.length : Int) ≤ 4))
  | x_ :: r, i =>
    bif (((!(cmd_within x_.how 1 3)) || (!(cmd_id x_.job))) || (slices_ContainsFunc_Dep (List.take i l) (fun (y : Dep) => (y.job == x_.job)))) then
      false
    else
      cmd_deps_g1 l r (i + 1)

def cmd_deps (l : List Dep) : Bool :=
  cmd_deps_g1 l l 0

theorem cmd_deps_c (l : List Dep) (hs0 : l.length ≤ 4294967296) : ∀ objs, AGives Tryz.prog 178 [depL l] objs (Bo (cmd_deps l)) := by
  generalize hR : cmd_deps l = R
  refine AGives.any' (.cons lw .nil) lx (ACalls.of_cwp (kp 6 [6, 7, 8, 9, 30]) Tryz.func178 rfl rfl ?_)
  have hk0 := hs0
  obtain z9 : l.length ≤ 4294967296 := hs0
  conv => whnf
  refine loop_start1 (fun (i : Nat) => cmd_deps_g1 l (List.drop i l) i = R ∧ i ≤ l.length) (fun i => l.length - i) (fun i => [(0, depL l), (2, Bo false), (6, depL l), (7, I (l.length : Int)), (8, I (i : Int))]) (fun i => []) 0 (wk [] .nil (sl lw (s1 (sl lw (s1 (s1 .nil)))))) ⟨foll hR rfl, by exact omA⟩ ?_
  clear hR
  rintro i ⟨hR, hj⟩
  try dsimp only at hR hj
  conv => whnf
  refine And.intro (fun h1 => ?_) (fun h2 => ?_)
  · have hlt : i < l.length := by have := of_decide_eq_true h1; omega
    rw [drop_getD Dep.zero hlt] at hR
    conv => whnf
    refine And.intro gkA ?_
    conv => whnf
    refine And.intro gkA ?_
    conv => whnf
    have cl1 : ∀ (y1 : Dep), AMoves Tryz.prog 187 [Dep.a y1, AVal.ptr 0 0 2 0 0] [(0, AObj.row 58 2 [[I (l.getD i Dep.zero).how, I (l.getD i Dep.zero).job]])] 1 (Bo ((fun (y : Dep) => (y.job == (l.getD i Dep.zero).job)) y1)) [(0, AObj.row 58 2 [[I (l.getD i Dep.zero).how, I (l.getD i Dep.zero).job]])] := by
      intro y1
      have hR : (fun (y : Dep) => (y.job == (l.getD i Dep.zero).job)) y1 = (fun (y : Dep) => (y.job == (l.getD i Dep.zero).job)) y1 := rfl
      refine AMoves.of_cwp (kp 4 []) Tryz.func187 rfl rfl rfl ?_
      conv => whnf
      refine ret_moves (fun r : Bool => Bo r) (fun _ => [(0, AObj.row 58 2 [[I (l.getD i Dep.zero).how, I (l.getD i Dep.zero).job]])]) (leaf := (y1.job == (l.getD i Dep.zero).job)) (foll hR rfl) ?_
      exact tt [0] (tO rfl (ts Dep.lo) .nil) t1
    have hof1 : AMoves Tryz.prog 143 [depL (List.take i l), AVal.fn (.func 187) [] [AVal.ptr 0 0 2 0 0]] [(0, AObj.row 58 2 [[I (l.getD i Dep.zero).how, I (l.getD i Dep.zero).job]])] 1 (Bo (slices_ContainsFunc_Dep (List.take i l) (fun (y : Dep) => (y.job == (l.getD i Dep.zero).job)))) [(0, AObj.row 58 2 [[I (l.getD i Dep.zero).how, I (l.getD i Dep.zero).job]])] := by
      have hR : slices_ContainsFunc_Dep (List.take i l) (fun (y : Dep) => (y.job == (l.getD i Dep.zero).job)) = slices_ContainsFunc_Dep (List.take i l) (fun (y : Dep) => (y.job == (l.getD i Dep.zero).job)) := rfl
      refine AMoves.of_cwp (kp 5 []) Tryz.func143 rfl rfl rfl ?_
      conv => whnf
      have hof2 : AMoves Tryz.prog 160 [depL (List.take i l), AVal.fn (.func 187) [] [AVal.ptr 0 0 2 0 0]] [(0, AObj.row 58 2 [[I (l.getD i Dep.zero).how, I (l.getD i Dep.zero).job]])] 1 (I (slices_IndexFunc_Dep (List.take i l) (fun (y : Dep) => (y.job == (l.getD i Dep.zero).job)))) [(0, AObj.row 58 2 [[I (l.getD i Dep.zero).how, I (l.getD i Dep.zero).job]])] := by
        have hR : slices_IndexFunc_Dep (List.take i l) (fun (y : Dep) => (y.job == (l.getD i Dep.zero).job)) = slices_IndexFunc_Dep (List.take i l) (fun (y : Dep) => (y.job == (l.getD i Dep.zero).job)) := rfl
        refine AMoves.of_cwp (kp 6 [7, 8, 9, 16]) Tryz.func160 rfl rfl rfl ?_
        conv => whnf
        refine loop_start1 (fun (i1 : Nat) => slices_IndexFunc_Dep_g1 (fun (y : Dep) => (y.job == (l.getD i Dep.zero).job)) (List.drop i1 (List.take i l)) i1 = slices_IndexFunc_Dep (List.take i l) (fun (y : Dep) => (y.job == (l.getD i Dep.zero).job)) ∧ i1 ≤ (List.take i l).length) (fun i1 => (List.take i l).length - i1) (fun i1 => [(0, depL (List.take i l)), (1, AVal.fn (.func 187) [] [AVal.ptr 0 0 2 0 0]), (4, I 0), (7, I ((List.take i l).length : Int)), (8, I (i1 : Int))]) (fun i1 => [(0, AObj.row 58 2 [[I (l.getD i Dep.zero).how, I (l.getD i Dep.zero).job]])]) 0 (wk [0] (tO rfl (ts Dep.lo) .nil) (sl lw (sv (turn_fn .nil (cv (turn_ptr 0 rfl rfl) .nil)) (s1 (s1 (s1 .nil)))))) ⟨foll hR rfl, by exact omA⟩ ?_
        clear hR
        rintro i1 ⟨hR, hj⟩
        try dsimp only at hR hj
        conv => whnf
        refine And.intro (fun h3 => ?_) (fun h4 => ?_)
        · have hlt : i1 < (List.take i l).length := by have := of_decide_eq_true h3; omega
          rw [drop_getD Dep.zero hlt] at hR
          conv => whnf
          refine And.intro gkA ?_
          conv => whnf
          refine ACalls.use (mv [0] (cl1 ((List.take i l).getD i1 Dep.zero)) (dO (ds Dep.lo) .nil) (dl (Dep.low _ _) (dp .nil)) (rO (re Dep.lo) .nil) rx) ?_
          conv => whnf
          refine And.intro (fun h5 => ?_) (fun h6 => ?_)
          · conv => whnf
            refine ret_moves (fun r : Int => I r) (fun r : Int => [(0, AObj.row 58 2 [[I (l.getD i Dep.zero).how, I (l.getD i Dep.zero).job]])]) (leaf := (i1 : Int)) (foll hR (ct h5 rfl)) ?_
            exact tt [0] (tO rfl (ts Dep.lo) .nil) t1
          · conv => whnf
            exact loop_next1 (i1 + 1) (wk [0] (tO rfl (ts Dep.lo) .nil) (sl lw (sv (turn_fn .nil (cv (turn_ptr 0 rfl rfl) .nil)) (s1 (s1 (sv (turn_eq (I_eq (wr omA)) lx) .nil)))))) omA ⟨foll hR (cf h6 rfl), by exact omA⟩
        · rw [drop_none (l := (List.take i l)) (j := i1) (by have := of_decide_eq_false h4; omega)] at hR
          conv => whnf
          refine ret_moves (fun r : Int => I r) (fun r : Int => [(0, AObj.row 58 2 [[I (l.getD i Dep.zero).how, I (l.getD i Dep.zero).job]])]) (leaf := (-1)) (foll hR rfl) ?_
          exact tt [0] (tO rfl (ts Dep.lo) .nil) t1
      refine ACalls.use (mv [0] (hof2) (dO (ds Dep.lo) .nil) (dl lw (dv (dn_fn .nil (dp .nil)) .nil)) (rO (re Dep.lo) .nil) rx) ?_
      conv => whnf
      refine ret_moves (fun r : Bool => Bo r) (fun r : Bool => [(0, AObj.row 58 2 [[I (l.getD i Dep.zero).how, I (l.getD i Dep.zero).job]])]) (leaf := (decide ((slices_IndexFunc_Dep (List.take i l) (fun (y : Dep) => (y.job == (l.getD i Dep.zero).job))) ≥ 0))) (foll hR rfl) ?_
      exact tt [0] (tO rfl (ts Dep.lo) .nil) t1
    refine ACalls.use (mv [0] (hof1) (dO (ds Dep.lo) .nil) (dv (dn_as (as_take l i ckA) lw) (dv (dn_fn .nil (dp .nil)) .nil)) (rO (re Dep.lo) .nil) rx) ?_
    conv => whnf
    refine ACalls.use (cmd_within_c ((l.getD i Dep.zero).how) 1 3 _) ?_
    conv => whnf
    (first | apply u2 | apply u3 | apply u4 | apply ACalls.use); exact cmd_id_c ((l.getD i Dep.zero).job) _
    conv => whnf
    refine And.intro (fun h7 => ?_) (fun h8 => ?_)
    · conv => whnf
      obtain rfl := foll hR (ct h7 rfl)
      exact ret_seen lx sr
    · conv => whnf
      exact loop_next1 (i + 1) (wk [] .nil (sl lw (s1 (sl lw (s1 (sv (turn_eq (I_eq (wr omA)) lx) .nil)))))) omA ⟨foll hR (cf h8 rfl), by exact omA⟩
  · rw [drop_none (l := l) (j := i) (by have := of_decide_eq_false h2; omega)] at hR
    conv => whnf
    obtain rfl := foll hR rfl
    exact ret_seen lx sr

-- F muster/cmd.Same
def cmd_Same (a : Cmd) (b : Cmd) : Bool :=
  bif ((!(shape_Same a.shape b.shape)) || (!(slices_Equal_Dep a.after b.after))) then
    false
  else
    ((((((((((((a.kind == b.kind) && (a.job == b.job)) && (ByteArray.toList a.name == ByteArray.toList b.name)) && (ByteArray.toList a.user == ByteArray.toList b.user)) && (ByteArray.toList a.account == ByteArray.toList b.account)) && (a.prio == b.prio)) && (a.hasPrio == b.hasPrio)) && (a.time == b.time)) && (a.hasTime == b.hasTime)) && (a.node == b.node)) && (a.nodes == b.nodes)) && (a.from_ == b.from_))

theorem cmd_Same_c (a : Cmd) (b : Cmd) (hs0 : a.sz) (hs1 : b.sz) : ∀ objs, AGives Tryz.prog 158 [Cmd.a a, Cmd.a b] objs (Bo (cmd_Same a b)) := by
  generalize hR : cmd_Same a b = R
  refine AGives.any' (.cons (Cmd.low _ _) (.cons (Cmd.low _ _) .nil)) lx (ACalls.of_cwp (kp 5 [18]) Tryz.func158 rfl rfl ?_)
  have hk0 := hs0
  obtain ⟨z3, z4, z5, z6, z7⟩ : a.name.size ≤ 4294967296 ∧ a.user.size ≤ 4294967296 ∧ a.account.size ≤ 4294967296 ∧ (a.shape.alts.length ≤ 4294967296) ∧ a.after.length ≤ 4294967296 := hs0
  have hk1 := hs1
  obtain ⟨z8, z9, z10, z11, z12⟩ : b.name.size ≤ 4294967296 ∧ b.user.size ≤ 4294967296 ∧ b.account.size ≤ 4294967296 ∧ (b.shape.alts.length ≤ 4294967296) ∧ b.after.length ≤ 4294967296 := hs1
  conv => whnf
  refine ACalls.use (shape_Same_c a.shape b.shape szA szA _) ?_
  conv => whnf
  (first | apply u2 | apply u3 | apply u4 | apply ACalls.use); exact slices_Equal_Dep_c a.after b.after szA szA _
  conv => whnf
  refine And.intro (fun h1 => ?_) (fun h2 => ?_)
  · conv => whnf
    obtain rfl := foll hR (ct h1 rfl)
    exact ret_seen lx sr
  · conv => whnf
    obtain rfl := foll hR (cf h2 rfl)
    exact ret_seen lx sr

-- F muster/job.nodes
def job_nodes (set_ : Int) : Bool :=
  ((wu64 (BitVec.ofInt 64 set_ &&& ~~~(BitVec.ofInt 64 (nodeset_All 48))).toNat) == 0)

theorem job_nodes_c (set_ : Int) : ∀ objs, AGives Tryz.prog 162 [U set_] objs (Bo (job_nodes set_)) := by
  generalize hR : job_nodes set_ = R
  refine AGives.any' (l1 .nil) lx (ACalls.of_cwp (kp 3 []) Tryz.func162 rfl rfl ?_)
  conv => whnf
  refine ACalls.use (nodeset_All_c 48 _) ?_
  conv => whnf
  obtain rfl := foll hR rfl
  exact ret_seen lx sr

-- F muster/fleet.fine
def fleet_fine (x_ : Node) : Bool :=
  bif ((((decide (x_.epoch < 0)) || (decide (x_.epoch > 999999999))) || (!(fleet_tick x_.since))) || (!(fleet_tick x_.asked))) then
    false
  else
    bif (x_.state == 0) then
      ((x_.job == 0) && (slices_Contains_int ([0] : List Int) x_.want))
    else
      bif (x_.state == 1) then
        (((decide (x_.job ≥ 1)) && (decide (x_.job ≤ 99999))) && (slices_Contains_int ([0, 1, 3, 4] : List Int) x_.want))
      else
        bif (x_.state == 2) then
          (((decide (x_.job ≥ 1)) && (decide (x_.job ≤ 99999))) && (slices_Contains_int ([0, 2] : List Int) x_.want))
        else
          bif (x_.state == 3) then
            (((decide (x_.job ≥ 1)) && (decide (x_.job ≤ 99999))) && (slices_Contains_int ([5] : List Int) x_.want))
          else
            bif (x_.state == 4) then
              ((x_.job == 0) && (slices_Contains_int ([0, 6] : List Int) x_.want))
            else
              false

theorem fleet_fine_c (x_ : Node) : ∀ objs, AGives Tryz.prog 130 [Node.a x_] objs (Bo (fleet_fine x_)) := by
  generalize hR : fleet_fine x_ = R
  refine AGives.any' (.cons (Node.low _ _) .nil) lx (ACalls.of_cwp (kp 5 [24, 35, 36, 41, 44, 47, 50]) Tryz.func130 rfl rfl ?_)
  conv => whnf
  (first | apply u2 | apply u3 | apply u4 | apply ACalls.use); exact fleet_tick_c x_.since _
  conv => whnf
  (first | apply u2 | apply u3 | apply u4 | apply ACalls.use); exact fleet_tick_c x_.asked _
  conv => whnf
  refine And.intro (fun h1 => ?_) (fun h2 => ?_)
  · conv => whnf
    obtain rfl := foll hR (ct h1 rfl)
    exact ret_seen lx sr
  · conv => whnf
    refine Or.inl ?_
    conv => whnf
    refine And.intro (fun h3 => ?_) (fun h4 => ?_)
    · conv => whnf
      (first | apply u2 | apply u3 | apply u4 | apply ACalls.use); exact AGives.as2 (slices_Contains_int_c ([0] : List Int) x_.want szA _) (av (as_lits (c := (fun q_ => [I q_])) (d := 0) ([0] : List Int) rfl) (a1 .nil))
      conv => whnf
      obtain rfl := foll hR (cf h2 (ct h3 rfl))
      exact ret_seen lx sr
    · conv => whnf
      refine And.intro (fun h5 => ?_) (fun h6 => ?_)
      · conv => whnf
        refine Or.inl ?_
        conv => whnf
        (first | apply u2 | apply u3 | apply u4 | apply ACalls.use); exact AGives.as2 (slices_Contains_int_c ([0, 1, 3, 4] : List Int) x_.want szA _) (av (as_lits (c := (fun q_ => [I q_])) (d := 0) ([0, 1, 3, 4] : List Int) rfl) (a1 .nil))
        conv => whnf
        obtain rfl := foll hR (cf h2 (cf h4 (ct h5 rfl)))
        exact ret_seen lx sr
      · conv => whnf
        refine And.intro (fun h7 => ?_) (fun h8 => ?_)
        · conv => whnf
          refine Or.inl ?_
          conv => whnf
          (first | apply u2 | apply u3 | apply u4 | apply ACalls.use); exact AGives.as2 (slices_Contains_int_c ([0, 2] : List Int) x_.want szA _) (av (as_lits (c := (fun q_ => [I q_])) (d := 0) ([0, 2] : List Int) rfl) (a1 .nil))
          conv => whnf
          obtain rfl := foll hR (cf h2 (cf h4 (cf h6 (ct h7 rfl))))
          exact ret_seen lx sr
        · conv => whnf
          refine And.intro (fun h9 => ?_) (fun h10 => ?_)
          · conv => whnf
            refine Or.inl ?_
            conv => whnf
            (first | apply u2 | apply u3 | apply u4 | apply ACalls.use); exact AGives.as2 (slices_Contains_int_c ([5] : List Int) x_.want szA _) (av (as_lits (c := (fun q_ => [I q_])) (d := 0) ([5] : List Int) rfl) (a1 .nil))
            conv => whnf
            obtain rfl := foll hR (cf h2 (cf h4 (cf h6 (cf h8 (ct h9 rfl)))))
            exact ret_seen lx sr
          · conv => whnf
            refine And.intro (fun h11 => ?_) (fun h12 => ?_)
            · conv => whnf
              refine Or.inl ?_
              conv => whnf
              (first | apply u2 | apply u3 | apply u4 | apply ACalls.use); exact AGives.as2 (slices_Contains_int_c ([0, 6] : List Int) x_.want szA _) (av (as_lits (c := (fun q_ => [I q_])) (d := 0) ([0, 6] : List Int) rfl) (a1 .nil))
              conv => whnf
              obtain rfl := foll hR (cf h2 (cf h4 (cf h6 (cf h8 (cf h10 (ct h11 rfl))))))
              exact ret_seen lx sr
            · conv => whnf
              obtain rfl := foll hR (cf h2 (cf h4 (cf h6 (cf h8 (cf h10 (cf h12 rfl))))))
              exact ret_seen lx sr

-- F muster/ledger.order
def ledger_order (a : Usage) (b : Usage) : Int :=
  (cmp_Or_int ([(cmp_Compare_string a.user b.user), (cmp_Compare_string a.account b.account)] : List Int))

theorem ledger_order_c (a : Usage) (b : Usage) (hs0 : a.sz) (hs1 : b.sz) : ∀ objs, AGives Tryz.prog 102 [Usage.a a, Usage.a b] objs (I (ledger_order a b)) := by
  generalize hR : ledger_order a b = R
  refine AGives.any' (.cons (Usage.low _ _) (.cons (Usage.low _ _) .nil)) lx (ACalls.of_cwp (kp 5 []) Tryz.func102 rfl rfl ?_)
  have hk0 := hs0
  obtain ⟨z1, z2⟩ : a.user.size ≤ 4294967296 ∧ a.account.size ≤ 4294967296 := hs0
  have hk1 := hs1
  obtain ⟨z3, z4⟩ : b.user.size ≤ 4294967296 ∧ b.account.size ≤ 4294967296 := hs1
  conv => whnf
  refine dchk (by kernel_rfl) ?_
  conv => whnf
  (first | apply u2 | apply u3 | apply u4 | apply ACalls.use); exact cmp_Compare_string_c a.user b.user _
  conv => whnf
  (first | apply u2 | apply u3 | apply u4 | apply ACalls.use); exact cmp_Compare_string_c a.account b.account _
  conv => whnf
  (first | apply u2 | apply u3 | apply u4 | apply ACalls.use); exact AGives.as2 (cmp_Or_int_c ([(cmp_Compare_string a.user b.user), (cmp_Compare_string a.account b.account)] : List Int) szA _) (av (as_lits (c := (fun q_ => [I q_])) (d := 0) ([(cmp_Compare_string a.user b.user), (cmp_Compare_string a.account b.account)] : List Int) rfl) .nil)
  conv => whnf
  repeat ((first | refine And.intro rfl ?_ | refine And.intro (fun _ => rfl) ?_ | refine And.intro (fun _ => cmp_Compare_string_c a.user b.user _) ?_ | refine And.intro (fun _ => cmp_Compare_string_c a.account b.account _) ?_ | refine And.intro (fun _ => AGives.as2 (cmp_Or_int_c ([(cmp_Compare_string a.user b.user), (cmp_Compare_string a.account b.account)] : List Int) szA _) (av (as_lits (c := (fun q_ => [I q_])) (d := 0) ([(cmp_Compare_string a.user b.user), (cmp_Compare_string a.account b.account)] : List Int) rfl) .nil)) ?_); conv => whnf)
  obtain rfl := foll hR rfl
  exact ret_seen lx sr

-- F muster/state.where
def state_where_g1 (is : Int → Node → Bool) : List Node → List Int → Nat → (List Int)
  | [], l, _ =>
    l
  | x_ :: r, l, i =>
    bif (is (i : Int) x_) then
      state_where_g1 is r (l ++ ([(i : Int)] : List Int)) (i + 1)
    else
      state_where_g1 is r l (i + 1)

def state_where_k1 (l : List Int) : Int :=
  (nodeset_Of l).1

def state_where (s : State) (is : Int → Node → Bool) : Int :=
  state_where_k1 (state_where_g1 is s.nodes [] 0)

-- F muster/state.nodes
def state_nodes_g1 (s : State) (jobs : List (Int × Job)) (all_ : List (Int × Resize)) : List Node → Nat → Bool
  | [], _ =>
    true
  | x_ :: r, i =>
    bif ((x_.state == 1) && ((!(getM x_.job jobs).isSome) || (!(nodeset_Has (((getM x_.job jobs).getD Job.zero).nodes) (i : Int))))) then
      false
    else
      bif ((x_.state == 2) && (!(getM x_.job jobs).isSome)) then
        false
      else
        bif (((x_.state == 2) || (x_.want == 4)) && (!(nodeset_Has (((getM x_.job all_).getD Resize.zero).nodes) (i : Int)))) then
          false
        else
          bif ((x_.state == 3) && (decide (x_.job ≥ s.nextJob))) then
            false
          else
            state_nodes_g1 s jobs all_ r (i + 1)

def state_nodes (s : State) (jobs : List (Int × Job)) (all_ : List (Int × Resize)) : Bool :=
  state_nodes_g1 s jobs all_ s.nodes 0

theorem state_nodes_c (s : State) (jobs : List (Int × Job)) (all_ : List (Int × Resize)) (hs0 : s.sz) : AMoves Tryz.prog 38 [State.a s, AVal.map 0, AVal.map 1] [(0, AObj.other (.map (mapEs ik Job.a 0 jobs) jobs.length)), (0, AObj.other (.map (mapEs ik Resize.a 0 all_) all_.length))] 2 (Bo (state_nodes s jobs all_)) [(0, AObj.other (.map (mapEs ik Job.a 0 jobs) jobs.length)), (0, AObj.other (.map (mapEs ik Resize.a 0 all_) all_.length))] := by
  generalize hR : state_nodes s jobs all_ = R
  refine AMoves.of_cwp (kp 12 [13, 14, 15, 16, 35, 50, 58, 70]) Tryz.func38 rfl rfl rfl ?_
  have hk0 := hs0
  obtain ⟨z11, z12, z13, z14, z15, z16, z17⟩ : s.nodes.length ≤ 4294967296 ∧ s.jobs.length ≤ 4294967296 ∧ (∀ y ∈ s.jobs, y.sz) ∧ s.resizes.length ≤ 4294967296 ∧ s.books.length ≤ 4294967296 ∧ s.ledger.length ≤ 4294967296 ∧ (∀ y ∈ s.ledger, y.sz) := hs0
  conv => whnf
  refine loop_start1 (fun (i : Nat) => state_nodes_g1 s jobs all_ (List.drop i s.nodes) i = R ∧ i ≤ s.nodes.length) (fun i => s.nodes.length - i) (fun i => [(1, AVal.map 0), (2, AVal.map 1), (3, AVal.ptr 2 0 8 0 0), (6, Bo false), (13, nodeL s.nodes), (14, I (s.nodes.length : Int)), (15, I (i : Int))]) (fun i => [(0, AObj.other (.map (mapEs ik Job.a 0 jobs) jobs.length)), (0, AObj.other (.map (mapEs ik Resize.a 0 all_) all_.length)), (0, AObj.row 28 8 [[I s.now, nodeL s.nodes, jobL s.jobs, resizeL s.resizes, bookL s.books, usageL s.ledger, I s.nextJob, I s.nextBook]])]) 0 (wk [0, 1, 2] (tO rfl (turn_mapO _ rfl rfl (fun _ => Job.low _ _)) (tO rfl (turn_mapO _ rfl rfl (fun _ => Resize.low _ _)) (tO rfl (ts State.lo) .nil))) (sv (turn_map 0 rfl rfl) (sv (turn_map 1 rfl rfl) (sv (turn_ptr 2 rfl rfl) (s1 (sl lw (s1 (s1 .nil)))))))) ⟨foll hR rfl, by exact omA⟩ ?_
  clear hR
  rintro i ⟨hR, hj⟩
  try dsimp only at hR hj
  conv => whnf
  refine And.intro (fun h1 => ?_) (fun h2 => ?_)
  · have hlt : i < s.nodes.length := by have := of_decide_eq_true h1; omega
    rw [drop_getD Node.zero hlt] at hR
    conv => whnf
    refine And.intro gkA ?_
    conv => whnf
    first | refine ⟨_, _, keys_int rfl _ _, lookP_map (ek := ik) ((s.nodes.getD i Node.zero).job) jobs Job.zero (as_agg (a1 (a1 (a1 (a1 (a1 (av (as_nil) (a1 (a1 (a1 (a1 (av (as_nil) (a1 (a1 (a1 (a1 (a1 (a1 (a1 (a1 (a1 .nil))))))))))))))))))))), ?_⟩ | refine ⟨_, fun _ => ⟨_, _, keys_int rfl _ _, lookP_map (ek := ik) ((s.nodes.getD i Node.zero).job) jobs Job.zero (as_agg (a1 (a1 (a1 (a1 (a1 (av (as_nil) (a1 (a1 (a1 (a1 (av (as_nil) (a1 (a1 (a1 (a1 (a1 (a1 (a1 (a1 (a1 .nil))))))))))))))))))))), rfl, rfl⟩, ?_⟩ | refine ⟨_, rfl, ⟨_, _, keys_int rfl _ _, lookP_map (ek := ik) ((s.nodes.getD i Node.zero).job) jobs Job.zero (as_agg (a1 (a1 (a1 (a1 (a1 (av (as_nil) (a1 (a1 (a1 (a1 (av (as_nil) (a1 (a1 (a1 (a1 (a1 (a1 (a1 (a1 (a1 .nil))))))))))))))))))))), Sub.refl _, rfl⟩, ?_⟩
    conv => whnf
    (first | apply u2 | apply u3 | apply u4 | apply ACalls.use); exact nodeset_Has_c (((getM (s.nodes.getD i Node.zero).job jobs).getD Job.zero).nodes) (i : Int) _
    conv => whnf
    refine And.intro (fun h3 => ?_) (fun h4 => ?_)
    · conv => whnf
      obtain rfl := foll hR (ct h3 rfl)
      exact rq (tt [0, 1] (tO rfl (turn_mapO _ rfl rfl (fun _ => Job.low _ _)) (tO rfl (turn_mapO _ rfl rfl (fun _ => Resize.low _ _)) .nil)) t1)
    · conv => whnf
      refine And.intro (fun h5 => ?_) (fun h6 => ?_)
      · conv => whnf
        obtain rfl := foll hR (cf h4 (ct h5 rfl))
        exact rq (tt [0, 1] (tO rfl (turn_mapO _ rfl rfl (fun _ => Job.low _ _)) (tO rfl (turn_mapO _ rfl rfl (fun _ => Resize.low _ _)) .nil)) t1)
      · conv => whnf
        first | refine ⟨_, _, keys_int rfl _ _, lookP_map (ek := ik) ((s.nodes.getD i Node.zero).job) all_ Resize.zero (AsA.refl _), ?_⟩ | refine ⟨_, fun _ => ⟨_, _, keys_int rfl _ _, lookP_map (ek := ik) ((s.nodes.getD i Node.zero).job) all_ Resize.zero (AsA.refl _), rfl, rfl⟩, ?_⟩ | refine ⟨_, rfl, ⟨_, _, keys_int rfl _ _, lookP_map (ek := ik) ((s.nodes.getD i Node.zero).job) all_ Resize.zero (AsA.refl _), Sub.refl _, rfl⟩, ?_⟩
        conv => whnf
        (first | apply u2 | apply u3 | apply u4 | apply ACalls.use); exact nodeset_Has_c (((getM (s.nodes.getD i Node.zero).job all_).getD Resize.zero).nodes) (i : Int) _
        conv => whnf
        refine And.intro (fun h7 => ?_) (fun h8 => ?_)
        · conv => whnf
          obtain rfl := foll hR (cf h4 (cf h6 (ct h7 rfl)))
          exact rq (tt [0, 1] (tO rfl (turn_mapO _ rfl rfl (fun _ => Job.low _ _)) (tO rfl (turn_mapO _ rfl rfl (fun _ => Resize.low _ _)) .nil)) t1)
        · conv => whnf
          refine And.intro (fun h9 => ?_) (fun h10 => ?_)
          · conv => whnf
            obtain rfl := foll hR (cf h4 (cf h6 (cf h8 (ct h9 rfl))))
            exact rq (tt [0, 1] (tO rfl (turn_mapO _ rfl rfl (fun _ => Job.low _ _)) (tO rfl (turn_mapO _ rfl rfl (fun _ => Resize.low _ _)) .nil)) t1)
          · conv => whnf
            exact loop_next1 (i + 1) (wk [0, 1, 2] (tO rfl (turn_mapO _ rfl rfl (fun _ => Job.low _ _)) (tO rfl (turn_mapO _ rfl rfl (fun _ => Resize.low _ _)) (tO rfl (ts State.lo) .nil))) (sv (turn_map 0 rfl rfl) (sv (turn_map 1 rfl rfl) (sv (turn_ptr 2 rfl rfl) (s1 (sl lw (s1 (sv (turn_eq (I_eq (wr omA)) lx) .nil)))))))) omA ⟨foll hR (cf h4 (cf h6 (cf h8 (cf h10 rfl)))), by exact omA⟩
  · rw [drop_none (l := s.nodes) (j := i) (by have := of_decide_eq_false h2; omega)] at hR
    conv => whnf
    obtain rfl := foll hR rfl
    exact rq (tt [0, 1] (tO rfl (turn_mapO _ rfl rfl (fun _ => Job.low _ _)) (tO rfl (turn_mapO _ rfl rfl (fun _ => Resize.low _ _)) .nil)) t1)

-- F muster/job.Same
def job_Same (a : Job) (b : Job) : Bool :=
  bif ((!(shape_Same a.shape b.shape)) || (!(slices_Equal_Dep a.after b.after))) then
    false
  else
    ((((((((((((((ByteArray.toList a.name == ByteArray.toList b.name) && (ByteArray.toList a.user == ByteArray.toList b.user)) && (ByteArray.toList a.account == ByteArray.toList b.account)) && (a.id == b.id)) && (a.prio == b.prio)) && (a.state == b.state)) && (a.held == b.held)) && (a.born == b.born)) && (a.promise == b.promise)) && (a.choice == b.choice)) && (a.start == b.start)) && (a.limit == b.limit)) && (a.nodes == b.nodes)) && (a.used == b.used))

theorem job_Same_c (a : Job) (b : Job) (hs0 : a.sz) (hs1 : b.sz) : ∀ objs, AGives Tryz.prog 90 [Job.a a, Job.a b] objs (Bo (job_Same a b)) := by
  generalize hR : job_Same a b = R
  refine AGives.any' (.cons (Job.low _ _) (.cons (Job.low _ _) .nil)) lx (ACalls.of_cwp (kp 6 [19]) Tryz.func90 rfl rfl ?_)
  have hk0 := hs0
  obtain ⟨z3, z4, z5, z6, z7⟩ : a.name.size ≤ 4294967296 ∧ a.user.size ≤ 4294967296 ∧ a.account.size ≤ 4294967296 ∧ (a.shape.alts.length ≤ 4294967296) ∧ a.after.length ≤ 4294967296 := hs0
  have hk1 := hs1
  obtain ⟨z8, z9, z10, z11, z12⟩ : b.name.size ≤ 4294967296 ∧ b.user.size ≤ 4294967296 ∧ b.account.size ≤ 4294967296 ∧ (b.shape.alts.length ≤ 4294967296) ∧ b.after.length ≤ 4294967296 := hs1
  conv => whnf
  refine ACalls.use (shape_Same_c a.shape b.shape szA szA _) ?_
  conv => whnf
  (first | apply u2 | apply u3 | apply u4 | apply ACalls.use); exact slices_Equal_Dep_c a.after b.after szA szA _
  conv => whnf
  refine And.intro (fun h1 => ?_) (fun h2 => ?_)
  · conv => whnf
    obtain rfl := foll hR (ct h1 rfl)
    exact ret_seen lx sr
  · conv => whnf
    obtain rfl := foll hR (cf h2 rfl)
    exact ret_seen lx sr

-- F muster/musterref14.Same
def ref14_Same_g1 (a : Job) (b : Job) : List Dep → Nat → Bool
  | [], _ =>
    ((((((((((((((a.id == b.id) && (ByteArray.toList a.name == ByteArray.toList b.name)) && (ByteArray.toList a.user == ByteArray.toList b.user)) && (ByteArray.toList a.account == ByteArray.toList b.account)) && (a.prio == b.prio)) && (a.state == b.state)) && (a.held == b.held)) && (a.born == b.born)) && (a.promise == b.promise)) && (a.choice == b.choice)) && (a.start == b.start)) && (a.limit == b.limit)) && (a.nodes == b.nodes)) && (a.used == b.used))
  | x_ :: r, i =>
    bif (!((x_.how == (b.after.getD i Dep.zero).how) && (x_.job == (b.after.getD i Dep.zero).job))) then
      false
    else
      ref14_Same_g1 a b r (i + 1)

def ref14_Same (a : Job) (b : Job) : Bool :=
  bif (((a.after.length : Int) != (b.after.length : Int)) || (!(ref07_Same a.shape b.shape))) then
    false
  else
    ref14_Same_g1 a b a.after 0

theorem ref14_Same_c (a : Job) (b : Job) (hs0 : a.sz) (hs1 : b.sz) : ∀ objs, AGives Tryz.prog 82 [Job.a a, Job.a b] objs (Bo (ref14_Same a b)) := by
  generalize hR : ref14_Same a b = R
  refine AGives.any' (.cons (Job.low _ _) (.cons (Job.low _ _) .nil)) lx (ACalls.of_cwp (kp 7 [21, 26, 39]) Tryz.func82 rfl rfl ?_)
  have hk0 := hs0
  obtain ⟨z7, z8, z9, z10, z11⟩ : a.name.size ≤ 4294967296 ∧ a.user.size ≤ 4294967296 ∧ a.account.size ≤ 4294967296 ∧ (a.shape.alts.length ≤ 4294967296) ∧ a.after.length ≤ 4294967296 := hs0
  have hk1 := hs1
  obtain ⟨z12, z13, z14, z15, z16⟩ : b.name.size ≤ 4294967296 ∧ b.user.size ≤ 4294967296 ∧ b.account.size ≤ 4294967296 ∧ (b.shape.alts.length ≤ 4294967296) ∧ b.after.length ≤ 4294967296 := hs1
  conv => whnf
  (first | apply u2 | apply u3 | apply u4 | apply ACalls.use); exact ref07_Same_c a.shape b.shape szA szA _
  conv => whnf
  refine And.intro (fun h1 => ?_) (fun h2 => ?_)
  · conv => whnf
    obtain rfl := foll hR (ct h1 rfl)
    exact ret_seen lx sr
  · conv => whnf
    refine loop_start1 (fun (i : Nat) => ref14_Same_g1 a b (List.drop i a.after) i = R ∧ i ≤ a.after.length) (fun i => a.after.length - i) (fun i => [(2, AVal.ptr 0 0 20 0 0), (3, AVal.ptr 1 0 20 0 0), (4, Bo false), (5, I (i : Int))]) (fun i => [(0, AObj.row 54 20 [[I a.id, Sg a.name, Sg a.user, Sg a.account, I a.shape.kind, altL a.shape.alts, I a.shape.min, I a.shape.max, I a.shape.wall, I a.prio, depL a.after, I a.state, Bo a.held, I a.born, I a.promise, I a.choice, I a.start, I a.limit, U a.nodes, I a.used]]), (0, AObj.row 54 20 [[I b.id, Sg b.name, Sg b.user, Sg b.account, I b.shape.kind, altL b.shape.alts, I b.shape.min, I b.shape.max, I b.shape.wall, I b.prio, depL b.after, I b.state, Bo b.held, I b.born, I b.promise, I b.choice, I b.start, I b.limit, U b.nodes, I b.used]])]) 0 (wk [0, 1] (tO rfl (ts Job.lo) (tO rfl (ts Job.lo) .nil)) (sv (turn_ptr 0 rfl rfl) (sv (turn_ptr 1 rfl rfl) (s1 (s1 .nil))))) ⟨foll hR (cf h2 rfl), by exact omA⟩ ?_
    clear hR
    rintro i ⟨hR, hj⟩
    try dsimp only at hR hj
    conv => whnf
    refine And.intro (fun h3 => ?_) (fun h4 => ?_)
    · have hlt : i < a.after.length := by have := of_decide_eq_true h3; omega
      rw [drop_getD Dep.zero hlt] at hR
      conv => whnf
      refine dchk (by kernel_rfl) ?_
      conv => whnf
      refine And.intro gkA ?_
      conv => whnf
      refine And.intro gkA ?_
      conv => whnf
      refine And.intro (fun _ => (by kernel_rfl : eqOK _ _ = true)) ?_
      conv => whnf
      repeat ((first | refine And.intro rfl ?_ | refine And.intro (fun _ => rfl) ?_); conv => whnf)
      refine And.intro (fun h5 => ?_) (fun h6 => ?_)
      · conv => whnf
        obtain rfl := foll hR (ct h5 rfl)
        exact ret_seen lx sr
      · conv => whnf
        exact loop_next1 (i + 1) (wk [0, 1] (tO rfl (ts Job.lo) (tO rfl (ts Job.lo) .nil)) (sv (turn_ptr 0 rfl rfl) (sv (turn_ptr 1 rfl rfl) (s1 (sv (turn_eq (I_eq (wr omA)) lx) .nil))))) omA ⟨foll hR (cf h6 rfl), by exact omA⟩
    · rw [drop_none (l := a.after) (j := i) (by have := of_decide_eq_false h4; omega)] at hR
      conv => whnf
      obtain rfl := foll hR rfl
      exact ret_seen lx sr

end Go.Proofs.YtoionleakeemlaaGreatDoor
namespace Go.Proofs.YtoionleakeemlaaGreatDoor
set_option linter.unusedSimpArgs false
set_option linter.unusedVariables false
open Go.Fw

set_option maxRecDepth 20000
set_option maxHeartbeats 4000000
attribute [local irreducible] ACalls AMoves


-- F muster/musterlaw20.Few
def law20_Few (s : State) : Bool :=
  (((((law12_Few s.nodes) && (law15_Few s.jobs)) && (law19_Few s.books)) && (law17_Few s.ledger)) && (decide ((s.resizes.length : Int) ≤ 100)))

theorem law20_Few_c (s : State) (hs0 : s.szM) : ∀ objs, AGives Tryz.prog 7 [State.a s] objs (Bo (law20_Few s)) := by
  generalize hR : law20_Few s = R
  refine AGives.any' (.cons (State.low _ _) .nil) lx (ACalls.of_cwp (kp 3 []) Tryz.func7 rfl rfl ?_)
  have hk0 := hs0
  obtain ⟨z1, z2, z3, z4, z5, z6, z7⟩ : s.nodes.length ≤ 9223372036854775807 ∧ s.jobs.length ≤ 9223372036854775807 ∧ (∀ y ∈ s.jobs, y.szM) ∧ s.resizes.length ≤ 9223372036854775807 ∧ s.books.length ≤ 9223372036854775807 ∧ s.ledger.length ≤ 9223372036854775807 ∧ (∀ y ∈ s.ledger, y.szM) := hs0
  conv => whnf
  refine ACalls.use (law12_Few_c s.nodes _) ?_
  conv => whnf
  (first | apply u2 | apply u3 | apply u4 | apply ACalls.use); exact law15_Few_c s.jobs szA _
  conv => whnf
  (first | apply u2 | apply u3 | apply u4 | apply ACalls.use); exact law19_Few_c s.books _
  conv => whnf
  (first | apply u2 | apply u3 | apply u4 | apply ACalls.use); exact law17_Few_c s.ledger szA _
  conv => whnf
  obtain rfl := foll hR rfl
  exact ret_seen lx sr

-- F muster/shape.Check
def shape_Check_k1 (ok : Bool) : Int :=
  bif (!ok) then
    70
  else
    0

def shape_Check (s : Shape) : Int :=
  bif (s.kind == 1) then
    shape_Check_k1 (((((s.min == 0) && (s.max == 0)) && (s.wall == 0)) && ((s.alts.length : Int) == 1)) && (shape_fine (s.alts.getD 0 Alt.zero)))
  else
    bif (s.kind == 2) then
      shape_Check_k1 (((((((s.min == 0) && (s.max == 0)) && (s.wall == 0)) && (decide ((s.alts.length : Int) ≥ 1))) && (decide ((s.alts.length : Int) ≤ 6))) && (shape_apart s.alts)) && (!(slices_ContainsFunc_Alt s.alts (fun (y : Alt) => (!(shape_fine y))))))
    else
      bif (s.kind == 3) then
        shape_Check_k1 (((((s.alts.length : Int) == 0) && (decide (s.min ≤ s.max))) && (shape_fine (⟨s.min, s.wall⟩ : Alt))) && (decide (s.max ≤ 48)))
      else
        shape_Check_k1 false

theorem shape_Check_c (s : Shape) (hs0 : s.sz) : ∀ objs, AGives Tryz.prog 93 [Shape.a s] objs (I (shape_Check s)) := by
  generalize hR : shape_Check s = R
  refine AGives.any' (.cons (Shape.low _ _) .nil) lx (ACalls.of_cwp (kj [1000011] 6 [23, 24, 38, 60, 85]) Tryz.func93 rfl rfl ?_)
  have hk0 := hs0
  obtain z13 : s.alts.length ≤ 4294967296 := hs0
  conv => whnf
  refine join_start1 (fun (ok : Bool) => shape_Check_k1 ok = R) (fun ok => [(2, I 0), (5, Bo ok)]) (fun ok => []) ?_ ?_
  · clear hR
    rintro ok hR
    try dsimp only at hR
    conv => whnf
    refine And.intro (fun h1 => ?_) (fun h2 => ?_)
    · conv => whnf
      obtain rfl := foll hR (ct h1 rfl)
      exact ret_seen lx sr
    · conv => whnf
      obtain rfl := foll hR (cf h2 rfl)
      exact ret_seen lx sr
  · conv => whnf
    refine And.intro (fun h3 => ?_) (fun h4 => ?_)
    · conv => whnf
      refine And.intro gkA ?_
      conv => whnf
      (first | apply u2 | apply u3 | apply u4 | apply ACalls.use); exact shape_fine_c (s.alts.getD 0 Alt.zero) _
      conv => whnf
      exact join_here1 (((((s.min == 0) && (s.max == 0)) && (s.wall == 0)) && ((s.alts.length : Int) == 1)) && (shape_fine (s.alts.getD 0 Alt.zero))) (wk [] .nil (s1 (s1 .nil))) (foll hR (ct h3 rfl))
    · conv => whnf
      refine And.intro (fun h5 => ?_) (fun h6 => ?_)
      · conv => whnf
        (first | apply u2 | apply u3 | apply u4 | apply ACalls.use); exact shape_apart_c s.alts szA _
        conv => whnf
        have cl1 : ∀ (y1 : Alt), AMoves Tryz.prog 126 [Alt.a y1] [] 0 (Bo ((fun (y : Alt) => (!(shape_fine y))) y1)) [] := by
          intro y1
          have hR : (fun (y : Alt) => (!(shape_fine y))) y1 = (fun (y : Alt) => (!(shape_fine y))) y1 := rfl
          refine AMoves.of_cwp (kp 3 []) Tryz.func126 rfl rfl rfl ?_
          conv => whnf
          refine ACalls.use (shape_fine_c y1 _) ?_
          conv => whnf
          refine ret_moves (fun r : Bool => Bo r) (fun _ => []) (leaf := (!(shape_fine y1))) (foll hR rfl) ?_
          exact tt [] .nil t1
        have hof1 : AMoves Tryz.prog 125 [altL s.alts, AVal.fn (.func 126) [] []] [] 0 (Bo (slices_ContainsFunc_Alt s.alts (fun (y : Alt) => (!(shape_fine y))))) [] := by
          have hR : slices_ContainsFunc_Alt s.alts (fun (y : Alt) => (!(shape_fine y))) = slices_ContainsFunc_Alt s.alts (fun (y : Alt) => (!(shape_fine y))) := rfl
          refine AMoves.of_cwp (kp 5 []) Tryz.func125 rfl rfl rfl ?_
          conv => whnf
          have hof2 : AMoves Tryz.prog 150 [altL s.alts, AVal.fn (.func 126) [] []] [] 0 (I (slices_IndexFunc_Alt s.alts (fun (y : Alt) => (!(shape_fine y))))) [] := by
            have hR : slices_IndexFunc_Alt s.alts (fun (y : Alt) => (!(shape_fine y))) = slices_IndexFunc_Alt s.alts (fun (y : Alt) => (!(shape_fine y))) := rfl
            refine AMoves.of_cwp (kp 6 [7, 8, 9, 16]) Tryz.func150 rfl rfl rfl ?_
            conv => whnf
            refine loop_start1 (fun (i : Nat) => slices_IndexFunc_Alt_g1 (fun (y : Alt) => (!(shape_fine y))) (List.drop i s.alts) i = slices_IndexFunc_Alt s.alts (fun (y : Alt) => (!(shape_fine y))) ∧ i ≤ s.alts.length) (fun i => s.alts.length - i) (fun i => [(0, altL s.alts), (1, AVal.fn (.func 126) [] []), (4, I 0), (7, I (s.alts.length : Int)), (8, I (i : Int))]) (fun i => []) 0 (wk [] .nil (sl lw (sv (turn_low (Low.fn _ _ _ LowL.nil LowL.nil)) (s1 (s1 (s1 .nil)))))) ⟨foll hR rfl, by exact omA⟩ ?_
            clear hR
            rintro i ⟨hR, hj⟩
            try dsimp only at hR hj
            conv => whnf
            refine And.intro (fun h7 => ?_) (fun h8 => ?_)
            · have hlt : i < s.alts.length := by have := of_decide_eq_true h7; omega
              rw [drop_getD Alt.zero hlt] at hR
              conv => whnf
              refine And.intro gkA ?_
              conv => whnf
              refine ACalls.use (mv [] (cl1 (s.alts.getD i Alt.zero)) .nil (dl (Alt.low _ _) .nil) .nil rx) ?_
              conv => whnf
              refine And.intro (fun h9 => ?_) (fun h10 => ?_)
              · conv => whnf
                refine ret_moves (fun r : Int => I r) (fun r : Int => []) (leaf := (i : Int)) (foll hR (ct h9 rfl)) ?_
                exact tt [] .nil t1
              · conv => whnf
                exact loop_next1 (i + 1) (wk [] .nil (sl lw (sv (turn_low (Low.fn _ _ _ LowL.nil LowL.nil)) (s1 (s1 (sv (turn_eq (I_eq (wr omA)) lx) .nil)))))) omA ⟨foll hR (cf h10 rfl), by exact omA⟩
            · rw [drop_none (l := s.alts) (j := i) (by have := of_decide_eq_false h8; omega)] at hR
              conv => whnf
              refine ret_moves (fun r : Int => I r) (fun r : Int => []) (leaf := (-1)) (foll hR rfl) ?_
              exact tt [] .nil t1
          refine ACalls.use (mv [] (hof2) .nil (dl lw (dv (dn_low (Low.fn _ _ _ LowL.nil LowL.nil)) .nil)) .nil rx) ?_
          conv => whnf
          refine ret_moves (fun r : Bool => Bo r) (fun r : Bool => []) (leaf := (decide ((slices_IndexFunc_Alt s.alts (fun (y : Alt) => (!(shape_fine y)))) ≥ 0))) (foll hR rfl) ?_
          exact tt [] .nil t1
        (first | apply u2 | apply u3 | apply u4 | apply ACalls.use); exact mv [] (hof1) .nil (dl lw (dv (dn_low (Low.fn _ _ _ LowL.nil LowL.nil)) .nil)) .nil rx
        conv => whnf
        exact join_here1 (((((((s.min == 0) && (s.max == 0)) && (s.wall == 0)) && (decide ((s.alts.length : Int) ≥ 1))) && (decide ((s.alts.length : Int) ≤ 6))) && (shape_apart s.alts)) && (!(slices_ContainsFunc_Alt s.alts (fun (y : Alt) => (!(shape_fine y)))))) (wk [] .nil (s1 (s1 .nil))) (foll hR (cf h4 (ct h5 rfl)))
      · conv => whnf
        refine And.intro (fun h11 => ?_) (fun h12 => ?_)
        · conv => whnf
          (first | apply u2 | apply u3 | apply u4 | apply ACalls.use); exact shape_fine_c (⟨s.min, s.wall⟩ : Alt) _
          conv => whnf
          exact join_here1 (((((s.alts.length : Int) == 0) && (decide (s.min ≤ s.max))) && (shape_fine (⟨s.min, s.wall⟩ : Alt))) && (decide (s.max ≤ 48))) (wk [] .nil (s1 (s1 .nil))) (foll hR (cf h4 (cf h6 (ct h11 rfl))))
        · conv => whnf
          exact join_here1 false (wk [] .nil (s1 (s1 .nil))) (foll hR (cf h4 (cf h6 (cf h12 rfl))))

-- F (*muster/lex.reader).count
def lex_reader_count (r_ : LexReader) : Token × LexReader :=
  bif (!(lex_digits ((lex_reader_while r_ (fun (y : Int) => (((decide (y ≥ 48)) && (decide (y ≤ 57))) || ((decide (y ≥ 97)) && (decide (y ≤ 122)))))).1))) then
    ((⟨3, (lex_reader_while r_ (fun (y : Int) => (((decide (y ≥ 48)) && (decide (y ≤ 57))) || ((decide (y ≥ 97)) && (decide (y ≤ 122)))))).1, 0, 0⟩ : Token), (lex_reader_while r_ (fun (y : Int) => (((decide (y ≥ 48)) && (decide (y ≤ 57))) || ((decide (y ≥ 97)) && (decide (y ≤ 122)))))).2)
  else
    bif (!(lex_number ((lex_reader_while r_ (fun (y : Int) => (((decide (y ≥ 48)) && (decide (y ≤ 57))) || ((decide (y ≥ 97)) && (decide (y ≤ 122)))))).1)).2) then
      ((⟨2, ⟨#[]⟩, (lex_number ((lex_reader_while r_ (fun (y : Int) => (((decide (y ≥ 48)) && (decide (y ≤ 57))) || ((decide (y ≥ 97)) && (decide (y ≤ 122)))))).1)).1, 0⟩ : Token), (lex_reader_fail ((lex_reader_while r_ (fun (y : Int) => (((decide (y ≥ 48)) && (decide (y ≤ 57))) || ((decide (y ≥ 97)) && (decide (y ≤ 122)))))).2) r_.at_ 50))
    else
      ((⟨2, ⟨#[]⟩, (lex_number ((lex_reader_while r_ (fun (y : Int) => (((decide (y ≥ 48)) && (decide (y ≤ 57))) || ((decide (y ≥ 97)) && (decide (y ≤ 122)))))).1)).1, 0⟩ : Token), (lex_reader_while r_ (fun (y : Int) => (((decide (y ≥ 48)) && (decide (y ≤ 57))) || ((decide (y ≥ 97)) && (decide (y ≤ 122)))))).2)

theorem lex_reader_count_c (r_ : LexReader) (hs0 : r_.sz) (hp0 : 0 ≤ r_.at_ ∧ r_.at_ ≤ (r_.line.length : Int) ∧ r_.line.length ≤ 400) : AMoves Tryz.prog 210 [AVal.ptr 0 0 4 0 0] [(0, AObj.row 206 4 [[runes r_.line, I r_.at_, I r_.bad, I r_.error]])] 1 (Token.a ((lex_reader_count r_).1)) [(0, AObj.row 206 4 [[runes ((lex_reader_count r_).2.line), I ((lex_reader_count r_).2.at_), I ((lex_reader_count r_).2.bad), I ((lex_reader_count r_).2.error)]])] := by
  generalize hR : lex_reader_count r_ = R
  refine AMoves.of_cwp (kp 7 [15, 24]) Tryz.func210 rfl rfl rfl ?_
  have hk0 := hs0
  obtain z7 : r_.line.length ≤ 4294967296 := hs0
  conv => whnf
  have cl1 : ∀ (y1 : Int), AMoves Tryz.prog 222 [J y1] [] 0 (Bo ((fun (y : Int) => (((decide (y ≥ 48)) && (decide (y ≤ 57))) || ((decide (y ≥ 97)) && (decide (y ≤ 122))))) y1)) [] := by
    intro y1
    have hR : (fun (y : Int) => (((decide (y ≥ 48)) && (decide (y ≤ 57))) || ((decide (y ≥ 97)) && (decide (y ≤ 122))))) y1 = (fun (y : Int) => (((decide (y ≥ 48)) && (decide (y ≤ 57))) || ((decide (y ≥ 97)) && (decide (y ≤ 122))))) y1 := rfl
    refine AMoves.of_cwp (kp 3 []) Tryz.func222 rfl rfl rfl ?_
    conv => whnf
    refine ret_moves (fun r : Bool => Bo r) (fun _ => []) (leaf := (((decide (y1 ≥ 48)) && (decide (y1 ≤ 57))) || ((decide (y1 ≥ 97)) && (decide (y1 ≤ 122))))) (foll hR rfl) ?_
    exact tt [] .nil t1
  have hof1 : AMoves Tryz.prog 199 [AVal.ptr 0 0 4 0 0, AVal.fn (.func 222) [] []] [(0, AObj.row 206 4 [[runes r_.line, I r_.at_, I r_.bad, I r_.error]])] 1 (Sg ((lex_reader_while r_ (fun (y : Int) => (((decide (y ≥ 48)) && (decide (y ≤ 57))) || ((decide (y ≥ 97)) && (decide (y ≤ 122)))))).1)) [(0, AObj.row 206 4 [[runes (((lex_reader_while r_ (fun (y : Int) => (((decide (y ≥ 48)) && (decide (y ≤ 57))) || ((decide (y ≥ 97)) && (decide (y ≤ 122)))))).2).line), I (((lex_reader_while r_ (fun (y : Int) => (((decide (y ≥ 48)) && (decide (y ≤ 57))) || ((decide (y ≥ 97)) && (decide (y ≤ 122)))))).2).at_), I (((lex_reader_while r_ (fun (y : Int) => (((decide (y ≥ 48)) && (decide (y ≤ 57))) || ((decide (y ≥ 97)) && (decide (y ≤ 122)))))).2).bad), I (((lex_reader_while r_ (fun (y : Int) => (((decide (y ≥ 48)) && (decide (y ≤ 57))) || ((decide (y ≥ 97)) && (decide (y ≤ 122)))))).2).error)]])] := by
    have hR : lex_reader_while r_ (fun (y : Int) => (((decide (y ≥ 48)) && (decide (y ≤ 57))) || ((decide (y ≥ 97)) && (decide (y ≤ 122))))) = lex_reader_while r_ (fun (y : Int) => (((decide (y ≥ 48)) && (decide (y ≤ 57))) || ((decide (y ≥ 97)) && (decide (y ≤ 122))))) := rfl
    refine AMoves.of_cwp (kp 6 [33]) Tryz.func199 rfl rfl rfl ?_
    conv => whnf
    refine loop_start1 (fun (c : LexReader) => ∃ m, (Int.toNat ((c.line.length : Int) - c.at_)) < m ∧ lex_reader_while_k1 r_ (lex_reader_while_g1 (fun (y : Int) => (((decide (y ≥ 48)) && (decide (y ≤ 57))) || ((decide (y ≥ 97)) && (decide (y ≤ 122))))) m c) = lex_reader_while r_ (fun (y : Int) => (((decide (y ≥ 48)) && (decide (y ≤ 57))) || ((decide (y ≥ 97)) && (decide (y ≤ 122))))) ∧ 0 ≤ c.at_ ∧ c.at_ ≤ (c.line.length : Int) ∧ c.line.length ≤ 400 ∧ r_.at_ ≤ c.at_ ∧ 0 ≤ r_.at_) (fun c => (Int.toNat ((c.line.length : Int) - c.at_))) (fun c => [(0, AVal.ptr 0 0 4 0 0), (1, AVal.fn (.func 222) [] []), (4, Sg ⟨#[]⟩), (5, I r_.at_)]) (fun c => [(0, AObj.row 206 4 [[runes c.line, I c.at_, I c.bad, I c.error]])]) r_ (wk [0] (tO rfl (ts LexReader.lo) .nil) (sv (turn_ptr 0 rfl rfl) (sv (turn_low (Low.fn _ _ _ LowL.nil LowL.nil)) (s1 (s1 .nil))))) ⟨_, Nat.lt_succ_self _, foll hR rfl, by exact exA⟩ ?_
    clear hR
    rintro c ⟨m, hm, hR, hx⟩
    try dsimp only at hR hm hx
    obtain ⟨m, rfl⟩ : ∃ k, m = k + 1 := ⟨m - 1, by omega⟩
    conv => whnf
    refine dchk (by kernel_rfl) ?_
    conv => whnf
    refine And.intro gkA ?_
    conv => whnf
    (first | apply u2 | apply u3 | apply u4 | apply ACalls.use); exact mv [] (cl1 (c.line.getD (Int.toNat c.at_) 0)) .nil (d1 .nil) .nil rx
    conv => whnf
    repeat ((first | refine And.intro rfl ?_ | refine And.intro (fun _ => rfl) ?_); conv => whnf)
    refine And.intro (fun h1 => ?_) (fun h2 => ?_)
    · conv => whnf
      have hq1 := of_decide_eq_true ((Bool.and_eq_true _ _).mp h1).1; have hwr : w64 (c.at_ + 1) = c.at_ + 1 := wr (by omega)
      exact loop_next1 { c with at_ := (w64 (c.at_ + 1)) } (wk [0] (tO rfl (ts LexReader.lo) .nil) (sv (turn_ptr 0 rfl rfl) (sv (turn_low (Low.fn _ _ _ LowL.nil LowL.nil)) (s1 (s1 .nil))))) omA ⟨m, by exact omA, foll hR (congrArg (fun p : LexReader => lex_reader_while_k1 r_ p) (ct h1 rfl)), by exact exA⟩
    · conv => whnf
      replace hR : lex_reader_while_k1 r_ c = lex_reader_while r_ (fun (y : Int) => (((decide (y ≥ 48)) && (decide (y ≤ 57))) || ((decide (y ≥ 97)) && (decide (y ≤ 122))))) := fo2 (fun p : LexReader => lex_reader_while_k1 r_ p) (c) hR (cf h2 rfl)
      refine dchk (by kernel_rfl) ?_
      conv => whnf
      refine And.intro gkA ?_
      conv => whnf
      first | refine ⟨(List.drop (Int.toNat r_.at_) (List.take (Int.toNat c.at_) c.line)), by exact cvA, ?_⟩ | refine ⟨_, fun _ => ⟨(List.drop (Int.toNat r_.at_) (List.take (Int.toNat c.at_) c.line)), by exact cvA, rfl, rfl⟩, ?_⟩ | refine ⟨_, rfl, ⟨(List.drop (Int.toNat r_.at_) (List.take (Int.toNat c.at_) c.line)), by exact cvA, Sub.refl _, rfl⟩, ?_⟩
      conv => whnf
      repeat ((first | refine And.intro rfl ?_ | refine And.intro (fun _ => rfl) ?_); conv => whnf)
      refine ret_moves (fun r : ByteArray × LexReader => Sg r.1) (fun r : ByteArray × LexReader => [(0, AObj.row 206 4 [[runes r.2.line, I r.2.at_, I r.2.bad, I r.2.error]])]) (leaf := ((runesBytes (List.drop (Int.toNat r_.at_) (List.take (Int.toNat c.at_) c.line))), c)) (foll hR rfl) ?_
      exact tt [0] (tO rfl (ts LexReader.lo) .nil) t1
  refine ACalls.use (mv [0] (hof1) (dO (ds LexReader.lo) .nil) (dp (dv (dn_low (Low.fn _ _ _ LowL.nil LowL.nil)) .nil)) (rO (re LexReader.lo) .nil) rx) ?_
  conv => whnf
  refine ACalls.use (lex_digits_c ((lex_reader_while r_ (fun (y : Int) => (((decide (y ≥ 48)) && (decide (y ≤ 57))) || ((decide (y ≥ 97)) && (decide (y ≤ 122)))))).1) (by first | (exact lex_while_sz _ _ hp0.2.2) | exact szA) _) ?_
  conv => whnf
  refine And.intro (fun h3 => ?_) (fun h4 => ?_)
  · conv => whnf
    obtain rfl := foll hR (ct h3 rfl)
    exact rq (tt [0] (tO rfl (ts LexReader.lo) .nil) (turn_low (Low.agg' (Token.lo))))
  · conv => whnf
    refine ACalls.use (lex_number_c ((lex_reader_while r_ (fun (y : Int) => (((decide (y ≥ 48)) && (decide (y ≤ 57))) || ((decide (y ≥ 97)) && (decide (y ≤ 122)))))).1) (by first | (exact lex_while_sz _ _ hp0.2.2) | exact szA) _) ?_
    conv => whnf
    refine And.intro (fun h5 => ?_) (fun h6 => ?_)
    · conv => whnf
      refine ACalls.use (mv [0] (lex_reader_fail_c ((lex_reader_while r_ (fun (y : Int) => (((decide (y ≥ 48)) && (decide (y ≤ 57))) || ((decide (y ≥ 97)) && (decide (y ≤ 122)))))).2) r_.at_ 50) (dO (ds LexReader.lo) .nil) (dp (d1 (d1 .nil))) (rO (re LexReader.lo) .nil) rx) ?_
      conv => whnf
      obtain rfl := foll hR (cf h4 (ct h5 rfl))
      exact rq (tt [0] (tO rfl (ts LexReader.lo) .nil) (turn_low (Low.agg' (Token.lo))))
    · conv => whnf
      obtain rfl := foll hR (cf h4 (cf h6 rfl))
      exact rq (tt [0] (tO rfl (ts LexReader.lo) .nil) (turn_low (Low.agg' (Token.lo))))

-- F muster/runes.Unquote
attribute [local irreducible] utf8_AppendRune

def runes_Unquote_g1  : List (Nat × Int) → Bool → List Int → ByteArray × Int
  | [], held, buf =>
    bif held then
      (⟨#[]⟩, 50)
    else
      ((bytesStr buf), 0)
  | x_ :: r, held, buf =>
    bif ((held && (x_.2 != 34)) && (x_.2 != 92)) then
      bif ((held && (x_.2 != 34)) && (x_.2 != 92)) then
        (⟨#[]⟩, 50)
      else
        bif ((!held) && (x_.2 == 92)) then
          runes_Unquote_g1 r true buf
        else
          runes_Unquote_g1 r false (utf8_AppendRune buf x_.2)
    else
      bif ((!held) && (x_.2 == 34)) then
        (⟨#[]⟩, 50)
      else
        bif ((!held) && (x_.2 == 92)) then
          runes_Unquote_g1 r true buf
        else
          runes_Unquote_g1 r false (utf8_AppendRune buf x_.2)

def runes_Unquote (s : ByteArray) : ByteArray × Int :=
  bif ((runes_Check s).2 != 0) then
    (⟨#[]⟩, (runes_Check s).2)
  else
    bif (((decide ((ByteArray.size s : Int) < 2)) || (((s.data.toList.getD 0 0).toNat : Int) != 34)) || (((s.data.toList.getD (Int.toNat (w64 ((ByteArray.size s : Int) - 1))) 0).toNat : Int) != 34)) then
      (⟨#[]⟩, 50)
    else
      runes_Unquote_g1 (runeList (s.extract 1 (Int.toNat (w64 ((ByteArray.size s : Int) - 1))))) false []

theorem runes_Unquote_c (s : ByteArray) (hs0 : s.size ≤ 4294967296) (hp0 : ByteArray.size s ≤ 1000000) : ∀ objs, AGives Tryz.prog 226 [Sg s] objs (AVal.tup [Sg ((runes_Unquote s).1), I ((runes_Unquote s).2)]) := by
  generalize hR : runes_Unquote s = R
  refine AGives.any' (l1 .nil) (Low.tup' (l1 (l1 .nil))) (ACalls.of_cwp (kp 10 [16, 33, 39, 40, 41, 43, 59, 68]) Tryz.func226 rfl rfl ?_)
  have hk0 := hs0
  obtain z19 : s.size ≤ 4294967296 := hs0
  have hw0 : w64 ((ByteArray.size s : Int) - 1) = (ByteArray.size s : Int) - 1 := wr (by omega)
  conv => whnf
  refine ACalls.use (runes_Check_c s szA _) ?_
  conv => whnf
  refine And.intro (fun h1 => ?_) (fun h2 => ?_)
  · conv => whnf
    obtain rfl := foll hR (ct h1 rfl)
    exact ret_seen (Low.tup' (l1 (l1 .nil))) (Seen.tup (e1 (e1 .nil)))
  · conv => whnf
    refine And.intro gkA ?_
    conv => whnf
    refine And.intro gkA ?_
    conv => whnf
    refine And.intro (fun h3 => ?_) (fun h4 => ?_)
    · conv => whnf
      obtain rfl := foll hR (cf h2 (ct h3 rfl))
      exact ret_seen (Low.tup' (l1 (l1 .nil))) (Seen.tup (e1 (e1 .nil)))
    · conv => whnf
      refine And.intro gkA ?_
      conv => whnf
      refine loop_start3 (fun (held : Bool) (buf : List Int) (pos : Nat) => ∃ m, ByteArray.size (s.extract 1 (Int.toNat (w64 ((ByteArray.size s : Int) - 1)))) - pos ≤ m ∧ runes_Unquote_g1 (strRunes (s.extract 1 (Int.toNat (w64 ((ByteArray.size s : Int) - 1)))) m pos) held buf = R ∧ buf.length ≤ 4 * pos ∧ pos ≤ ByteArray.size s ∧ byteIn buf) (fun held buf pos => ByteArray.size (s.extract 1 (Int.toNat (w64 ((ByteArray.size s : Int) - 1)))) - pos) (fun held buf pos => [(2, Sg ⟨#[]⟩), (3, I 0), (6, AVal.ptr 0 0 2 0 0), (7, Bo held), (39, AVal.ptr 1 0 1 0 0)]) (fun held buf pos => [(0, AObj.row 222 2 [[AVal.sel 0 0 2 0 0, AVal.buf 2 0 1 buf.length]]), (0, AObj.other (.strIter (s.extract 1 (Int.toNat (w64 ((ByteArray.size s : Int) - 1)))) pos)), (0, AObj.row 5 1 (buf.map (fun q_ => [Y q_])))]) false [] 0 ((weaker_none 5 1).trans (wk [0, 1, 2] (tO rfl (turn_row1 (cv (turn_selnil) (cv (turn_nilbuf 2 rfl) .nil))) (tO rfl (.strIter _ _) (tO rfl (tl eqA) .nil))) (s1 (s1 (sv (turn_ptr 0 rfl rfl) (s1 (sv (turn_ptr 1 rfl rfl) .nil))))))) ⟨ByteArray.size (s.extract 1 (Int.toNat (w64 ((ByteArray.size s : Int) - 1)))), by exact omA, foll hR (cf h2 (cf h4 rfl)), by first | (have hsz := extract_size s 1 (Int.toNat (w64 ((ByteArray.size s : Int) - 1))); refine ⟨?_, ?_, ?_⟩ <;> (try dsimp only) <;> first | omega | with_reducible exact byteIn_nil | with_reducible exact hx.2.2 | with_reducible exact byteIn_rune _ _ hx.2.2 | exact Nat.le_trans (utf8_AppendRune_len _ _) (by omega) | (simp; done)) | exact exA⟩ ?_
      clear hR
      rintro held buf pos ⟨m, hm, hR, hx⟩
      try dsimp only at hR hm hx
      conv => whnf
      refine And.intro (fun h5 => ?_) (fun h6 => ?_)
      · have hlt := of_decide_eq_true h5
        have hw := decode_pos (s.extract 1 (Int.toNat (w64 ((ByteArray.size s : Int) - 1)))) pos
        have hwe := decode_end (s.extract 1 (Int.toNat (w64 ((ByteArray.size s : Int) - 1)))) pos hlt
        obtain ⟨m, rfl⟩ : ∃ k, m = k + 1 := ⟨m - 1, by omega⟩
        rw [strRunes_cons h5] at hR
        conv => whnf
        refine And.intro (fun _ => ?_) (fun h => nomatch h)
        conv => whnf
        refine And.intro (fun h7 => ?_) (fun h8 => ?_)
        · conv => whnf
          refine And.intro (fun h9 => ?_) (fun h10 => ?_)
          · conv => whnf
            obtain rfl := foll hR (ct h7 (ct h9 rfl))
            exact ret_seen (Low.tup' (l1 (l1 .nil))) (Seen.tup (e1 (e1 .nil)))
          · conv => whnf
            refine And.intro (fun h11 => ?_) (fun h12 => ?_)
            · conv => whnf
              exact loop_next3 true buf (pos + (Utf8.decode (s.extract 1 (Int.toNat (w64 ((ByteArray.size s : Int) - 1)))) pos).2) (wk [0, 1, 2] (tO rfl (turn_row1 (cv (turn_sel 0 rfl rfl) (cv (turn_buf 2 rfl rfl) .nil))) (tO rfl (.strIter _ _) (tO rfl (tl eqA) .nil))) (s1 (s1 (sv (turn_ptr 0 rfl rfl) (s1 (sv (turn_ptr 1 rfl rfl) .nil)))))) omA ⟨m, by exact omA, foll hR (ct h7 (cf h10 (ct h11 rfl))), by first | (have hsz := extract_size s 1 (Int.toNat (w64 ((ByteArray.size s : Int) - 1))); refine ⟨?_, ?_, ?_⟩ <;> (try dsimp only) <;> first | omega | with_reducible exact byteIn_nil | with_reducible exact hx.2.2 | with_reducible exact byteIn_rune _ _ hx.2.2 | exact Nat.le_trans (utf8_AppendRune_len _ _) (by omega) | (simp; done)) | exact exA⟩
            · conv => whnf
              refine ACalls.use (mv [0, 2] (WriteRune_c buf ((pos, ((Utf8.decode (s.extract 1 (Int.toNat (w64 ((ByteArray.size s : Int) - 1)))) pos).1 : Int)).2) szA) (dO (dc (dv (dn_sel rfl) (dv (dn_buf rfl) .nil))) (dO (dr eqA) .nil)) (dp (d1 .nil)) (rO (rc (rv (rp 0 0 rfl) (rv (rw_ 3 0 rfl) .nil))) (rO rr .nil)) (Ren.low _ (Low.tup' (l1 (l1 .nil))))) ?_
              conv => whnf
              exact loop_next3 false (utf8_AppendRune buf (pos, ((Utf8.decode (s.extract 1 (Int.toNat (w64 ((ByteArray.size s : Int) - 1)))) pos).1 : Int)).2) (pos + (Utf8.decode (s.extract 1 (Int.toNat (w64 ((ByteArray.size s : Int) - 1)))) pos).2) (wk [0, 1, 3] (tO rfl (turn_row1 (cv (turn_selptr 0 rfl rfl) (cv (turn_ownbuf 2 rfl rfl lnA (by first | with_reducible exact utf8_AppendRune_ne _ _ | (simp; done) | grind)) .nil))) (tO rfl (.strIter _ _) (tO rfl (tl eqA) .nil))) (s1 (s1 (sv (turn_ptr 0 rfl rfl) (s1 (sv (turn_ptr 1 rfl rfl) .nil)))))) omA ⟨m, by exact omA, foll hR (ct h7 (cf h10 (cf h12 rfl))), by first | (have hsz := extract_size s 1 (Int.toNat (w64 ((ByteArray.size s : Int) - 1))); refine ⟨?_, ?_, ?_⟩ <;> (try dsimp only) <;> first | omega | with_reducible exact byteIn_nil | with_reducible exact hx.2.2 | with_reducible exact byteIn_rune _ _ hx.2.2 | exact Nat.le_trans (utf8_AppendRune_len _ _) (by omega) | (simp; done)) | exact exA⟩
        · conv => whnf
          refine And.intro (fun h13 => ?_) (fun h14 => ?_)
          · conv => whnf
            obtain rfl := foll hR (cf h8 (ct h13 rfl))
            exact ret_seen (Low.tup' (l1 (l1 .nil))) (Seen.tup (e1 (e1 .nil)))
          · conv => whnf
            refine And.intro (fun h15 => ?_) (fun h16 => ?_)
            · conv => whnf
              exact loop_next3 true buf (pos + (Utf8.decode (s.extract 1 (Int.toNat (w64 ((ByteArray.size s : Int) - 1)))) pos).2) (wk [0, 1, 2] (tO rfl (turn_row1 (cv (turn_sel 0 rfl rfl) (cv (turn_buf 2 rfl rfl) .nil))) (tO rfl (.strIter _ _) (tO rfl (tl eqA) .nil))) (s1 (s1 (sv (turn_ptr 0 rfl rfl) (s1 (sv (turn_ptr 1 rfl rfl) .nil)))))) omA ⟨m, by exact omA, foll hR (cf h8 (cf h14 (ct h15 rfl))), by first | (have hsz := extract_size s 1 (Int.toNat (w64 ((ByteArray.size s : Int) - 1))); refine ⟨?_, ?_, ?_⟩ <;> (try dsimp only) <;> first | omega | with_reducible exact byteIn_nil | with_reducible exact hx.2.2 | with_reducible exact byteIn_rune _ _ hx.2.2 | exact Nat.le_trans (utf8_AppendRune_len _ _) (by omega) | (simp; done)) | exact exA⟩
            · conv => whnf
              refine ACalls.use (mv [0, 2] (WriteRune_c buf ((pos, ((Utf8.decode (s.extract 1 (Int.toNat (w64 ((ByteArray.size s : Int) - 1)))) pos).1 : Int)).2) szA) (dO (dc (dv (dn_sel rfl) (dv (dn_buf rfl) .nil))) (dO (dr eqA) .nil)) (dp (d1 .nil)) (rO (rc (rv (rp 0 0 rfl) (rv (rw_ 3 0 rfl) .nil))) (rO rr .nil)) (Ren.low _ (Low.tup' (l1 (l1 .nil))))) ?_
              conv => whnf
              exact loop_next3 false (utf8_AppendRune buf (pos, ((Utf8.decode (s.extract 1 (Int.toNat (w64 ((ByteArray.size s : Int) - 1)))) pos).1 : Int)).2) (pos + (Utf8.decode (s.extract 1 (Int.toNat (w64 ((ByteArray.size s : Int) - 1)))) pos).2) (wk [0, 1, 3] (tO rfl (turn_row1 (cv (turn_selptr 0 rfl rfl) (cv (turn_ownbuf 2 rfl rfl lnA (by first | with_reducible exact utf8_AppendRune_ne _ _ | (simp; done) | grind)) .nil))) (tO rfl (.strIter _ _) (tO rfl (tl eqA) .nil))) (s1 (s1 (sv (turn_ptr 0 rfl rfl) (s1 (sv (turn_ptr 1 rfl rfl) .nil)))))) omA ⟨m, by exact omA, foll hR (cf h8 (cf h14 (cf h16 rfl))), by first | (have hsz := extract_size s 1 (Int.toNat (w64 ((ByteArray.size s : Int) - 1))); refine ⟨?_, ?_, ?_⟩ <;> (try dsimp only) <;> first | omega | with_reducible exact byteIn_nil | with_reducible exact hx.2.2 | with_reducible exact byteIn_rune _ _ hx.2.2 | exact Nat.le_trans (utf8_AppendRune_len _ _) (by omega) | (simp; done)) | exact exA⟩
      · rw [strRunes_nil h6] at hR
        conv => whnf
        refine And.intro (fun h => nomatch h) (fun _ => ?_)
        conv => whnf
        refine And.intro (fun h17 => ?_) (fun h18 => ?_)
        · conv => whnf
          obtain rfl := foll hR (ct h17 rfl)
          exact ret_seen (Low.tup' (l1 (l1 .nil))) (Seen.tup (e1 (e1 .nil)))
        · conv => whnf
          refine ACalls.use (mv [0, 2] (String_c buf (by first | (with_reducible exact hx.2.2) | first | assumption | exact byteIn_nil | grind) szA) (dO (dc (dv (dn_any) (dv (dn_bufbuf rfl) .nil))) (dO (dr eqA) .nil)) (dp .nil) (rO (re (.cons Low.any (.cons Low.any .nil))) .nil) rx) ?_
          conv => whnf
          obtain rfl := foll hR (cf h18 rfl)
          exact ret_seen (Low.tup' (l1 (l1 .nil))) (Seen.tup (e1 (e1 .nil)))

-- F muster/fleet.Check
def fleet_Check (l : List Node) : Int :=
  bif (((decide ((l.length : Int) < 1)) || (decide ((l.length : Int) > 48))) || (slices_ContainsFunc_Node l (fun (y : Node) => (!(fleet_fine y))))) then
    120
  else
    0

theorem fleet_Check_c (l : List Node) (hs0 : l.length ≤ 4294967296) : ∀ objs, AGives Tryz.prog 96 [nodeL l] objs (I (fleet_Check l)) := by
  generalize hR : fleet_Check l = R
  refine AGives.any' (.cons lw .nil) lx (ACalls.of_cwp (kp 3 [14]) Tryz.func96 rfl rfl ?_)
  have hk0 := hs0
  obtain z7 : l.length ≤ 4294967296 := hs0
  conv => whnf
  have cl1 : ∀ (y1 : Node), AMoves Tryz.prog 129 [Node.a y1] [] 0 (Bo ((fun (y : Node) => (!(fleet_fine y))) y1)) [] := by
    intro y1
    have hR : (fun (y : Node) => (!(fleet_fine y))) y1 = (fun (y : Node) => (!(fleet_fine y))) y1 := rfl
    refine AMoves.of_cwp (kp 3 []) Tryz.func129 rfl rfl rfl ?_
    conv => whnf
    refine ACalls.use (fleet_fine_c y1 _) ?_
    conv => whnf
    refine ret_moves (fun r : Bool => Bo r) (fun _ => []) (leaf := (!(fleet_fine y1))) (foll hR rfl) ?_
    exact tt [] .nil t1
  have hof1 : AMoves Tryz.prog 128 [nodeL l, AVal.fn (.func 129) [] []] [] 0 (Bo (slices_ContainsFunc_Node l (fun (y : Node) => (!(fleet_fine y))))) [] := by
    have hR : slices_ContainsFunc_Node l (fun (y : Node) => (!(fleet_fine y))) = slices_ContainsFunc_Node l (fun (y : Node) => (!(fleet_fine y))) := rfl
    refine AMoves.of_cwp (kp 5 []) Tryz.func128 rfl rfl rfl ?_
    conv => whnf
    have hof2 : AMoves Tryz.prog 151 [nodeL l, AVal.fn (.func 129) [] []] [] 0 (I (slices_IndexFunc_Node l (fun (y : Node) => (!(fleet_fine y))))) [] := by
      have hR : slices_IndexFunc_Node l (fun (y : Node) => (!(fleet_fine y))) = slices_IndexFunc_Node l (fun (y : Node) => (!(fleet_fine y))) := rfl
      refine AMoves.of_cwp (kp 6 [7, 8, 9, 16]) Tryz.func151 rfl rfl rfl ?_
      conv => whnf
      refine loop_start1 (fun (i : Nat) => slices_IndexFunc_Node_g1 (fun (y : Node) => (!(fleet_fine y))) (List.drop i l) i = slices_IndexFunc_Node l (fun (y : Node) => (!(fleet_fine y))) ∧ i ≤ l.length) (fun i => l.length - i) (fun i => [(0, nodeL l), (1, AVal.fn (.func 129) [] []), (4, I 0), (7, I (l.length : Int)), (8, I (i : Int))]) (fun i => []) 0 (wk [] .nil (sl lw (sv (turn_low (Low.fn _ _ _ LowL.nil LowL.nil)) (s1 (s1 (s1 .nil)))))) ⟨foll hR rfl, by exact omA⟩ ?_
      clear hR
      rintro i ⟨hR, hj⟩
      try dsimp only at hR hj
      conv => whnf
      refine And.intro (fun h1 => ?_) (fun h2 => ?_)
      · have hlt : i < l.length := by have := of_decide_eq_true h1; omega
        rw [drop_getD Node.zero hlt] at hR
        conv => whnf
        refine And.intro gkA ?_
        conv => whnf
        refine ACalls.use (mv [] (cl1 (l.getD i Node.zero)) .nil (dl (Node.low _ _) .nil) .nil rx) ?_
        conv => whnf
        refine And.intro (fun h3 => ?_) (fun h4 => ?_)
        · conv => whnf
          refine ret_moves (fun r : Int => I r) (fun r : Int => []) (leaf := (i : Int)) (foll hR (ct h3 rfl)) ?_
          exact tt [] .nil t1
        · conv => whnf
          exact loop_next1 (i + 1) (wk [] .nil (sl lw (sv (turn_low (Low.fn _ _ _ LowL.nil LowL.nil)) (s1 (s1 (sv (turn_eq (I_eq (wr omA)) lx) .nil)))))) omA ⟨foll hR (cf h4 rfl), by exact omA⟩
      · rw [drop_none (l := l) (j := i) (by have := of_decide_eq_false h2; omega)] at hR
        conv => whnf
        refine ret_moves (fun r : Int => I r) (fun r : Int => []) (leaf := (-1)) (foll hR rfl) ?_
        exact tt [] .nil t1
    refine ACalls.use (mv [] (hof2) .nil (dl lw (dv (dn_low (Low.fn _ _ _ LowL.nil LowL.nil)) .nil)) .nil rx) ?_
    conv => whnf
    refine ret_moves (fun r : Bool => Bo r) (fun r : Bool => []) (leaf := (decide ((slices_IndexFunc_Node l (fun (y : Node) => (!(fleet_fine y)))) ≥ 0))) (foll hR rfl) ?_
    exact tt [] .nil t1
  (first | apply u2 | apply u3 | apply u4 | apply ACalls.use); exact mv [] (hof1) .nil (dl lw (dv (dn_low (Low.fn _ _ _ LowL.nil LowL.nil)) .nil)) .nil rx
  conv => whnf
  refine And.intro (fun h5 => ?_) (fun h6 => ?_)
  · conv => whnf
    obtain rfl := foll hR (ct h5 rfl)
    exact ret_seen lx sr
  · conv => whnf
    obtain rfl := foll hR (cf h6 rfl)
    exact ret_seen lx sr

-- F muster/ledger.Check
def ledger_Check_g1 (l : List Usage) : List Usage → Nat → Int
  | [], _ =>
    0
  | x_ :: r, i =>
    bif ((((((!(ledger_name x_.user)) || (!(ledger_name x_.account))) || (x_.used != (sat_Usage x_.used))) || (decide (x_.share < 0))) || (decide (x_.share > x_.used))) || ((decide ((i : Int) > 0)) && (decide ((ledger_order (l.getD (Int.toNat (w64 ((i : Int) - 1))) Usage.zero) x_) ≥ 0)))) then
      2
    else
      ledger_Check_g1 l r (i + 1)

def ledger_Check (l : List Usage) : Int :=
  bif (decide ((l.length : Int) > 200)) then
    2
  else
    ledger_Check_g1 l l 0

theorem ledger_Check_c (l : List Usage) (hs0 : l.length ≤ 4294967296 ∧ (∀ y ∈ l, y.sz)) : ∀ objs, AGives Tryz.prog 71 [usageL l] objs (I (ledger_Check l)) := by
  generalize hR : ledger_Check l = R
  refine AGives.any' (.cons lw .nil) lx (ACalls.of_cwp (kp 5 [7, 8, 9, 10, 11, 58]) Tryz.func71 rfl rfl ?_)
  have hk0 := hs0
  obtain ⟨z9, z10⟩ : l.length ≤ 4294967296 ∧ (∀ y ∈ l, y.sz) := hs0
  conv => whnf
  refine And.intro (fun h1 => ?_) (fun h2 => ?_)
  · conv => whnf
    have qh1 := of_decide_eq_true h1
    obtain rfl := foll hR (ct h1 rfl)
    exact ret_seen lx sr
  · conv => whnf
    have qh2 := of_decide_eq_false h2
    refine loop_start1 (fun (i : Nat) => ledger_Check_g1 l (List.drop i l) i = R ∧ i ≤ l.length) (fun i => l.length - i) (fun i => [(0, usageL l), (2, I 0), (8, usageL l), (9, I (l.length : Int)), (10, I (i : Int))]) (fun i => []) 0 (wk [] .nil (sl lw (s1 (sl lw (s1 (s1 .nil)))))) ⟨foll hR (cf h2 rfl), by exact omA⟩ ?_
    clear hR
    rintro i ⟨hR, hj⟩
    try dsimp only at hR hj
    conv => whnf
    refine And.intro (fun h3 => ?_) (fun h4 => ?_)
    · have hlt : i < l.length := by have := of_decide_eq_true h3; omega
      rw [drop_getD Usage.zero hlt] at hR
      have hxz : (l.getD i Usage.zero).sz := getD_sz (by first | assumption | grind) (Usage.szz _)
      have hkz := hxz
      obtain ⟨z5, z6⟩ : ((l.getD i Usage.zero).user).size ≤ 4294967296 ∧ ((l.getD i Usage.zero).account).size ≤ 4294967296 := hxz
      conv => whnf
      refine And.intro gkA ?_
      conv => whnf
      refine dchk (by kernel_rfl) ?_
      conv => whnf
      (first | apply u2 | apply u3 | apply u4 | apply ACalls.use); exact ledger_name_c ((l.getD i Usage.zero).user) _
      conv => whnf
      (first | apply u2 | apply u3 | apply u4 | apply ACalls.use); exact ledger_name_c ((l.getD i Usage.zero).account) _
      conv => whnf
      (first | apply u2 | apply u3 | apply u4 | apply ACalls.use); exact sat_Usage_c ((l.getD i Usage.zero).used) _
      conv => whnf
      refine And.intro gkA ?_
      conv => whnf
      (first | apply u2 | apply u3 | apply u4 | apply ACalls.use); exact ledger_order_c (l.getD (Int.toNat (w64 ((i : Int) - 1))) Usage.zero) (l.getD i Usage.zero) szA szA _
      conv => whnf
      repeat ((first | refine And.intro rfl ?_ | refine And.intro (fun _ => rfl) ?_ | refine And.intro (fun _ => ledger_name_c ((l.getD i Usage.zero).user) _) ?_ | refine And.intro (fun _ => ledger_name_c ((l.getD i Usage.zero).account) _) ?_ | refine And.intro (fun _ => sat_Usage_c ((l.getD i Usage.zero).used) _) ?_ | refine And.intro (fun _ => ledger_order_c (l.getD (Int.toNat (w64 ((i : Int) - 1))) Usage.zero) (l.getD i Usage.zero) szA szA _) ?_); conv => whnf)
      refine And.intro (fun h7 => ?_) (fun h8 => ?_)
      · conv => whnf
        obtain rfl := foll hR (ct h7 rfl)
        exact ret_seen lx sr
      · conv => whnf
        exact loop_next1 (i + 1) (wk [] .nil (sl lw (s1 (sl lw (s1 (sv (turn_eq (I_eq (wr omA)) lx) .nil)))))) omA ⟨foll hR (cf h8 rfl), by exact omA⟩
    · rw [drop_none (l := l) (j := i) (by have := of_decide_eq_false h4; omega)] at hR
      conv => whnf
      obtain rfl := foll hR rfl
      exact ret_seen lx sr

-- F muster/table.Same
def table_Same (a : List Job) (b : List Job) : Bool :=
  (slices_EqualFunc_Job a b (fun (y : Job) (y1 : Job) => (bif ((!(shape_Same y.shape y1.shape)) || (!(slices_Equal_Dep y.after y1.after))) then false else ((((((((((((((ByteArray.toList y.name == ByteArray.toList y1.name) && (ByteArray.toList y.user == ByteArray.toList y1.user)) && (ByteArray.toList y.account == ByteArray.toList y1.account)) && (y.id == y1.id)) && (y.prio == y1.prio)) && (y.state == y1.state)) && (y.held == y1.held)) && (y.born == y1.born)) && (y.promise == y1.promise)) && (y.choice == y1.choice)) && (y.start == y1.start)) && (y.limit == y1.limit)) && (y.nodes == y1.nodes)) && (y.used == y1.used)))))

theorem table_Same_c (a : List Job) (b : List Job) (hs0 : a.length ≤ 4294967296 ∧ (∀ y ∈ a, y.sz)) (hs1 : b.length ≤ 4294967296 ∧ (∀ y ∈ b, y.sz)) : ∀ objs, AGives Tryz.prog 54 [jobL a, jobL b] objs (Bo (table_Same a b)) := by
  generalize hR : table_Same a b = R
  refine AGives.any' (.cons lw (.cons lw .nil)) lx (ACalls.of_cwp (kp 5 []) Tryz.func54 rfl rfl ?_)
  have hk0 := hs0
  obtain ⟨z24, z25⟩ : a.length ≤ 4294967296 ∧ (∀ y ∈ a, y.sz) := hs0
  have hk1 := hs1
  obtain ⟨z26, z27⟩ : b.length ≤ 4294967296 ∧ (∀ y ∈ b, y.sz) := hs1
  conv => whnf
  have cl1 : ∀ (y1 : Job) (y2 : Job) (hzy1 : y1.sz) (hzy2 : y2.sz), AMoves Tryz.prog 90 [Job.a y1, Job.a y2] [] 0 (Bo ((fun (y : Job) (y1 : Job) => (bif ((!(shape_Same y.shape y1.shape)) || (!(slices_Equal_Dep y.after y1.after))) then false else ((((((((((((((ByteArray.toList y.name == ByteArray.toList y1.name) && (ByteArray.toList y.user == ByteArray.toList y1.user)) && (ByteArray.toList y.account == ByteArray.toList y1.account)) && (y.id == y1.id)) && (y.prio == y1.prio)) && (y.state == y1.state)) && (y.held == y1.held)) && (y.born == y1.born)) && (y.promise == y1.promise)) && (y.choice == y1.choice)) && (y.start == y1.start)) && (y.limit == y1.limit)) && (y.nodes == y1.nodes)) && (y.used == y1.used)))) y1 y2)) [] := by
    intro y1 y2 hzy1 hzy2
    have hky1 := hzy1
    obtain ⟨z1, z2, z3, z4, z5⟩ : y1.name.size ≤ 4294967296 ∧ y1.user.size ≤ 4294967296 ∧ y1.account.size ≤ 4294967296 ∧ (y1.shape.alts.length ≤ 4294967296) ∧ y1.after.length ≤ 4294967296 := hzy1
    have hky2 := hzy2
    obtain ⟨z6, z7, z8, z9, z10⟩ : y2.name.size ≤ 4294967296 ∧ y2.user.size ≤ 4294967296 ∧ y2.account.size ≤ 4294967296 ∧ (y2.shape.alts.length ≤ 4294967296) ∧ y2.after.length ≤ 4294967296 := hzy2
    have hR : (fun (y : Job) (y1 : Job) => (bif ((!(shape_Same y.shape y1.shape)) || (!(slices_Equal_Dep y.after y1.after))) then false else ((((((((((((((ByteArray.toList y.name == ByteArray.toList y1.name) && (ByteArray.toList y.user == ByteArray.toList y1.user)) && (ByteArray.toList y.account == ByteArray.toList y1.account)) && (y.id == y1.id)) && (y.prio == y1.prio)) && (y.state == y1.state)) && (y.held == y1.held)) && (y.born == y1.born)) && (y.promise == y1.promise)) && (y.choice == y1.choice)) && (y.start == y1.start)) && (y.limit == y1.limit)) && (y.nodes == y1.nodes)) && (y.used == y1.used)))) y1 y2 = (fun (y : Job) (y1 : Job) => (bif ((!(shape_Same y.shape y1.shape)) || (!(slices_Equal_Dep y.after y1.after))) then false else ((((((((((((((ByteArray.toList y.name == ByteArray.toList y1.name) && (ByteArray.toList y.user == ByteArray.toList y1.user)) && (ByteArray.toList y.account == ByteArray.toList y1.account)) && (y.id == y1.id)) && (y.prio == y1.prio)) && (y.state == y1.state)) && (y.held == y1.held)) && (y.born == y1.born)) && (y.promise == y1.promise)) && (y.choice == y1.choice)) && (y.start == y1.start)) && (y.limit == y1.limit)) && (y.nodes == y1.nodes)) && (y.used == y1.used)))) y1 y2 := rfl
    refine AMoves.of_cwp (kp 6 [19]) Tryz.func90 rfl rfl rfl ?_
    conv => whnf
    refine ACalls.use (shape_Same_c y1.shape y2.shape szA szA _) ?_
    conv => whnf
    (first | apply u2 | apply u3 | apply u4 | apply ACalls.use); exact slices_Equal_Dep_c y1.after y2.after szA szA _
    conv => whnf
    refine And.intro (fun h11 => ?_) (fun h12 => ?_)
    · conv => whnf
      refine ret_moves (fun r : Bool => Bo r) (fun _ => []) (leaf := false) (foll hR (ct h11 rfl)) ?_
      exact tt [] .nil t1
    · conv => whnf
      refine ret_moves (fun r : Bool => Bo r) (fun _ => []) (leaf := ((((((((((((((ByteArray.toList y1.name == ByteArray.toList y2.name) && (ByteArray.toList y1.user == ByteArray.toList y2.user)) && (ByteArray.toList y1.account == ByteArray.toList y2.account)) && (y1.id == y2.id)) && (y1.prio == y2.prio)) && (y1.state == y2.state)) && (y1.held == y2.held)) && (y1.born == y2.born)) && (y1.promise == y2.promise)) && (y1.choice == y2.choice)) && (y1.start == y2.start)) && (y1.limit == y2.limit)) && (y1.nodes == y2.nodes)) && (y1.used == y2.used))) (foll hR (cf h12 rfl)) ?_
      exact tt [] .nil t1
  have hof1 : AMoves Tryz.prog 89 [jobL a, jobL b, AVal.fn (.func 90) [] []] [] 0 (Bo (slices_EqualFunc_Job a b (fun (y : Job) (y1 : Job) => (bif ((!(shape_Same y.shape y1.shape)) || (!(slices_Equal_Dep y.after y1.after))) then false else ((((((((((((((ByteArray.toList y.name == ByteArray.toList y1.name) && (ByteArray.toList y.user == ByteArray.toList y1.user)) && (ByteArray.toList y.account == ByteArray.toList y1.account)) && (y.id == y1.id)) && (y.prio == y1.prio)) && (y.state == y1.state)) && (y.held == y1.held)) && (y.born == y1.born)) && (y.promise == y1.promise)) && (y.choice == y1.choice)) && (y.start == y1.start)) && (y.limit == y1.limit)) && (y.nodes == y1.nodes)) && (y.used == y1.used)))))) [] := by
    have hR : slices_EqualFunc_Job a b (fun (y : Job) (y1 : Job) => (bif ((!(shape_Same y.shape y1.shape)) || (!(slices_Equal_Dep y.after y1.after))) then false else ((((((((((((((ByteArray.toList y.name == ByteArray.toList y1.name) && (ByteArray.toList y.user == ByteArray.toList y1.user)) && (ByteArray.toList y.account == ByteArray.toList y1.account)) && (y.id == y1.id)) && (y.prio == y1.prio)) && (y.state == y1.state)) && (y.held == y1.held)) && (y.born == y1.born)) && (y.promise == y1.promise)) && (y.choice == y1.choice)) && (y.start == y1.start)) && (y.limit == y1.limit)) && (y.nodes == y1.nodes)) && (y.used == y1.used)))) = slices_EqualFunc_Job a b (fun (y : Job) (y1 : Job) => (bif ((!(shape_Same y.shape y1.shape)) || (!(slices_Equal_Dep y.after y1.after))) then false else ((((((((((((((ByteArray.toList y.name == ByteArray.toList y1.name) && (ByteArray.toList y.user == ByteArray.toList y1.user)) && (ByteArray.toList y.account == ByteArray.toList y1.account)) && (y.id == y1.id)) && (y.prio == y1.prio)) && (y.state == y1.state)) && (y.held == y1.held)) && (y.born == y1.born)) && (y.promise == y1.promise)) && (y.choice == y1.choice)) && (y.start == y1.start)) && (y.limit == y1.limit)) && (y.nodes == y1.nodes)) && (y.used == y1.used)))) := rfl
    refine AMoves.of_cwp (kp 10 [14, 15, 16, 17, 18, 30]) Tryz.func89 rfl rfl rfl ?_
    conv => whnf
    refine And.intro (fun h13 => ?_) (fun h14 => ?_)
    · conv => whnf
      refine ret_moves (fun r : Bool => Bo r) (fun r : Bool => []) (leaf := false) (foll hR (ct h13 rfl)) ?_
      exact tt [] .nil t1
    · conv => whnf
      refine loop_start1 (fun (i : Nat) => slices_EqualFunc_Job_g1 b (fun (y : Job) (y1 : Job) => (bif ((!(shape_Same y.shape y1.shape)) || (!(slices_Equal_Dep y.after y1.after))) then false else ((((((((((((((ByteArray.toList y.name == ByteArray.toList y1.name) && (ByteArray.toList y.user == ByteArray.toList y1.user)) && (ByteArray.toList y.account == ByteArray.toList y1.account)) && (y.id == y1.id)) && (y.prio == y1.prio)) && (y.state == y1.state)) && (y.held == y1.held)) && (y.born == y1.born)) && (y.promise == y1.promise)) && (y.choice == y1.choice)) && (y.start == y1.start)) && (y.limit == y1.limit)) && (y.nodes == y1.nodes)) && (y.used == y1.used)))) (List.drop i a) i = slices_EqualFunc_Job a b (fun (y : Job) (y1 : Job) => (bif ((!(shape_Same y.shape y1.shape)) || (!(slices_Equal_Dep y.after y1.after))) then false else ((((((((((((((ByteArray.toList y.name == ByteArray.toList y1.name) && (ByteArray.toList y.user == ByteArray.toList y1.user)) && (ByteArray.toList y.account == ByteArray.toList y1.account)) && (y.id == y1.id)) && (y.prio == y1.prio)) && (y.state == y1.state)) && (y.held == y1.held)) && (y.born == y1.born)) && (y.promise == y1.promise)) && (y.choice == y1.choice)) && (y.start == y1.start)) && (y.limit == y1.limit)) && (y.nodes == y1.nodes)) && (y.used == y1.used)))) ∧ i ≤ a.length) (fun i => a.length - i) (fun i => [(1, jobL b), (2, AVal.fn (.func 90) [] []), (6, Bo false), (15, jobL a), (16, I (a.length : Int)), (17, I (i : Int))]) (fun i => []) 0 (wk [] .nil (sl lw (sv (turn_low (Low.fn _ _ _ LowL.nil LowL.nil)) (s1 (sl lw (s1 (s1 .nil))))))) ⟨foll hR (cf h14 rfl), by exact omA⟩ ?_
      clear hR
      rintro i ⟨hR, hj⟩
      try dsimp only at hR hj
      conv => whnf
      refine And.intro (fun h15 => ?_) (fun h16 => ?_)
      · have hlt : i < a.length := by have := of_decide_eq_true h15; omega
        rw [drop_getD Job.zero hlt] at hR
        have hxz : (a.getD i Job.zero).sz := getD_sz (by first | assumption | grind) (Job.szz _)
        have hkz := hxz
        obtain ⟨z17, z18, z19, z20, z21⟩ : ((a.getD i Job.zero).name).size ≤ 4294967296 ∧ ((a.getD i Job.zero).user).size ≤ 4294967296 ∧ ((a.getD i Job.zero).account).size ≤ 4294967296 ∧ ((((a.getD i Job.zero).shape).alts).length ≤ 4294967296) ∧ ((a.getD i Job.zero).after).length ≤ 4294967296 := hxz
        conv => whnf
        refine And.intro gkA ?_
        conv => whnf
        refine And.intro gkA ?_
        conv => whnf
        refine ACalls.use (mv [] (cl1 (a.getD i Job.zero) (b.getD i Job.zero) szA szA) .nil (dl (Job.low _ _) (dl (Job.low _ _) .nil)) .nil rx) ?_
        conv => whnf
        refine And.intro (fun h22 => ?_) (fun h23 => ?_)
        · conv => whnf
          refine ret_moves (fun r : Bool => Bo r) (fun r : Bool => []) (leaf := false) (foll hR (ct h22 rfl)) ?_
          exact tt [] .nil t1
        · conv => whnf
          exact loop_next1 (i + 1) (wk [] .nil (sl lw (sv (turn_low (Low.fn _ _ _ LowL.nil LowL.nil)) (s1 (sl lw (s1 (sv (turn_eq (I_eq (wr omA)) lx) .nil))))))) omA ⟨foll hR (cf h23 rfl), by exact omA⟩
      · rw [drop_none (l := a) (j := i) (by have := of_decide_eq_false h16; omega)] at hR
        conv => whnf
        refine ret_moves (fun r : Bool => Bo r) (fun r : Bool => []) (leaf := true) (foll hR rfl) ?_
        exact tt [] .nil t1
  refine ACalls.use (mv [] (hof1) .nil (dl lw (dl lw (dv (dn_low (Low.fn _ _ _ LowL.nil LowL.nil)) .nil))) .nil rx) ?_
  conv => whnf
  obtain rfl := foll hR rfl
  exact ret_seen lx sr

-- F muster/musterref15.Same
def ref15_Same_g1 (b : List Job) : List Job → Nat → Bool
  | [], _ =>
    true
  | x_ :: r, i =>
    bif (!(ref14_Same x_ (b.getD i Job.zero))) then
      false
    else
      ref15_Same_g1 b r (i + 1)

def ref15_Same (a : List Job) (b : List Job) : Bool :=
  bif ((a.length : Int) != (b.length : Int)) then
    false
  else
    ref15_Same_g1 b a 0

theorem ref15_Same_c (a : List Job) (b : List Job) (hs0 : a.length ≤ 4294967296 ∧ (∀ y ∈ a, y.sz)) (hs1 : b.length ≤ 4294967296 ∧ (∀ y ∈ b, y.sz)) : ∀ objs, AGives Tryz.prog 46 [jobL a, jobL b] objs (Bo (ref15_Same a b)) := by
  generalize hR : ref15_Same a b = R
  refine AGives.any' (.cons lw (.cons lw .nil)) lx (ACalls.of_cwp (kp 6 [10, 14, 26]) Tryz.func46 rfl rfl ?_)
  have hk0 := hs0
  obtain ⟨z12, z13⟩ : a.length ≤ 4294967296 ∧ (∀ y ∈ a, y.sz) := hs0
  have hk1 := hs1
  obtain ⟨z14, z15⟩ : b.length ≤ 4294967296 ∧ (∀ y ∈ b, y.sz) := hs1
  conv => whnf
  refine And.intro (fun h1 => ?_) (fun h2 => ?_)
  · conv => whnf
    obtain rfl := foll hR (ct h1 rfl)
    exact ret_seen lx sr
  · conv => whnf
    refine loop_start1 (fun (i : Nat) => ref15_Same_g1 b (List.drop i a) i = R ∧ i ≤ a.length) (fun i => a.length - i) (fun i => [(0, jobL a), (1, jobL b), (4, Bo false), (5, I (i : Int))]) (fun i => []) 0 (wk [] .nil (sl lw (sl lw (s1 (s1 .nil))))) ⟨foll hR (cf h2 rfl), by exact omA⟩ ?_
    clear hR
    rintro i ⟨hR, hj⟩
    try dsimp only at hR hj
    conv => whnf
    refine And.intro (fun h3 => ?_) (fun h4 => ?_)
    · have hlt : i < a.length := by have := of_decide_eq_true h3; omega
      rw [drop_getD Job.zero hlt] at hR
      have hxz : (a.getD i Job.zero).sz := getD_sz (by first | assumption | grind) (Job.szz _)
      have hkz := hxz
      obtain ⟨z5, z6, z7, z8, z9⟩ : ((a.getD i Job.zero).name).size ≤ 4294967296 ∧ ((a.getD i Job.zero).user).size ≤ 4294967296 ∧ ((a.getD i Job.zero).account).size ≤ 4294967296 ∧ ((((a.getD i Job.zero).shape).alts).length ≤ 4294967296) ∧ ((a.getD i Job.zero).after).length ≤ 4294967296 := hxz
      conv => whnf
      refine dchk (by kernel_rfl) ?_
      conv => whnf
      refine And.intro gkA ?_
      conv => whnf
      refine And.intro gkA ?_
      conv => whnf
      (first | apply u2 | apply u3 | apply u4 | apply ACalls.use); exact ref14_Same_c (a.getD i Job.zero) (b.getD i Job.zero) szA szA _
      conv => whnf
      repeat ((first | refine And.intro rfl ?_ | refine And.intro (fun _ => rfl) ?_ | refine And.intro (fun _ => ref14_Same_c (a.getD i Job.zero) (b.getD i Job.zero) szA szA _) ?_); conv => whnf)
      refine And.intro (fun h10 => ?_) (fun h11 => ?_)
      · conv => whnf
        obtain rfl := foll hR (ct h10 rfl)
        exact ret_seen lx sr
      · conv => whnf
        exact loop_next1 (i + 1) (wk [] .nil (sl lw (sl lw (s1 (sv (turn_eq (I_eq (wr omA)) lx) .nil))))) omA ⟨foll hR (cf h11 rfl), by exact omA⟩
    · rw [drop_none (l := a) (j := i) (by have := of_decide_eq_false h4; omega)] at hR
      conv => whnf
      obtain rfl := foll hR rfl
      exact ret_seen lx sr

end Go.Proofs.YtoionleakeemlaaGreatDoor
