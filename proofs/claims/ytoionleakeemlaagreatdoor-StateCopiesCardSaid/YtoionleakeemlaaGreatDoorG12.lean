/-
  Contracts of functions, printed by a program of this repo (wip/dec). No condition beyond those that stand in each.
-/
import Derived.Test.YtoionleakeemlaaGreatDoorG11
import Derived.Test.YtoionleakeemlaaGreatDoorProg
namespace Go.Proofs.YtoionleakeemlaaGreatDoor
set_option linter.unusedSimpArgs false
set_option linter.unusedVariables false
open Go.Fw

set_option maxRecDepth 20000
set_option maxHeartbeats 4000000
attribute [local irreducible] ACalls AMoves


-- F (*muster/lex.reader).text
def lex_reader_text_g1  : Nat → LexReader → Bool → LexReader × Bool
  | 0, _, _ => (LexReader.zero, false)
  | m + 1, c, c2 =>
    bif ((decide (c.at_ < (c.line.length : Int))) && (lex_reader_text_c1 (c.line.getD (Int.toNat c.at_) 0) c2).1) then
      lex_reader_text_g1 m { c with at_ := (w64 (c.at_ + 1)) } (bif (decide (c.at_ < (c.line.length : Int))) then (lex_reader_text_c1 (c.line.getD (Int.toNat c.at_) 0) c2).2 else c2)
    else
      (c, (bif (decide (c.at_ < (c.line.length : Int))) then (lex_reader_text_c1 (c.line.getD (Int.toNat c.at_) 0) c2).2 else c2))

def lex_reader_text_k1 (r_ : LexReader) (c : LexReader) (c2 : Bool) : Token × LexReader :=
  bif (c.at_ == (c.line.length : Int)) then
    (Token.zero, (lex_reader_fail c r_.at_ 50))
  else
    bif ((c.line.getD (Int.toNat c.at_) 0) != 34) then
      (Token.zero, (lex_reader_fail c c.at_ 40))
    else
      bif ((runes_Unquote (runesBytes (List.drop (Int.toNat r_.at_) (List.take (Int.toNat (w64 (c.at_ + 1))) c.line)))).2 != 0) then
        ((⟨4, (runes_Unquote (runesBytes (List.drop (Int.toNat r_.at_) (List.take (Int.toNat (w64 (c.at_ + 1))) c.line)))).1, 0, 0⟩ : Token), (lex_reader_fail { c with at_ := (w64 (c.at_ + 1)) } r_.at_ ((runes_Unquote (runesBytes (List.drop (Int.toNat r_.at_) (List.take (Int.toNat (w64 (c.at_ + 1))) c.line)))).2)))
      else
        ((⟨4, (runes_Unquote (runesBytes (List.drop (Int.toNat r_.at_) (List.take (Int.toNat (w64 (c.at_ + 1))) c.line)))).1, 0, 0⟩ : Token), { c with at_ := (w64 (c.at_ + 1)) })

def lex_reader_text (r_ : LexReader) : Token × LexReader :=
  lex_reader_text_k1 r_ ((lex_reader_text_g1 ((Int.toNat ((r_.line.length : Int) - r_.at_)) + 1) r_ true).1) ((lex_reader_text_g1 ((Int.toNat ((r_.line.length : Int) - r_.at_)) + 1) r_ true).2)

theorem lex_reader_text_c (r_ : LexReader) (hs0 : r_.sz) (hp0 : 0 ≤ r_.at_ ∧ r_.at_ < (r_.line.length : Int) ∧ r_.line.length ≤ 400) : AMoves Tryz.prog 211 [AVal.ptr 0 0 4 0 0] [(0, AObj.row 206 4 [[runes r_.line, I r_.at_, I r_.bad, I r_.error]])] 1 (Token.a ((lex_reader_text r_).1)) [(0, AObj.row 206 4 [[runes ((lex_reader_text r_).2.line), I ((lex_reader_text r_).2.at_), I ((lex_reader_text r_).2.bad), I ((lex_reader_text r_).2.error)]])] := by
  generalize hR : lex_reader_text r_ = R
  refine AMoves.of_cwp (kp 7 [23, 38, 69]) Tryz.func211 rfl rfl rfl ?_
  have hk0 := hs0
  obtain z9 : r_.line.length ≤ 4294967296 := hs0
  conv => whnf
  refine ACalls.of_cwp (fun _ => true) Tryz.func199 rfl rfl ?_
  conv => whnf
  refine loop_start2 (fun (c : LexReader) (c2 : Bool) => ∃ m, (Int.toNat ((c.line.length : Int) - c.at_)) < m ∧ lex_reader_text_k1 r_ (lex_reader_text_g1 m c c2).1 (lex_reader_text_g1 m c c2).2 = R ∧ 0 ≤ c.at_ ∧ c.at_ ≤ (c.line.length : Int) ∧ c.line.length ≤ 400 ∧ r_.at_ ≤ c.at_ ∧ 0 ≤ r_.at_) (fun c c2 => (Int.toNat ((c.line.length : Int) - c.at_))) (fun c c2 => [(0, AVal.ptr 0 0 4 0 0), (1, AVal.fn (.func 225) [] [AVal.ptr 2 0 1 0 0]), (4, Sg ⟨#[]⟩), (5, I r_.at_)]) (fun c c2 => [(0, AObj.row 206 4 [[runes c.line, I c.at_, I c.bad, I c.error]]), (0, AObj.row 186 4 [[I 0, Sg ⟨#[]⟩, I 0, I 0]]), (0, AObj.row 4 1 [[Bo c2]])]) r_ true (wk [0, 1, 2] (tO rfl (ts LexReader.lo) (tO rfl (ts Token.lo) (tO rfl (ts (l1 LowL.nil)) .nil))) (sv (turn_ptr 0 rfl rfl) (sv (turn_fn .nil (cv (turn_ptr 2 rfl rfl) .nil)) (s1 (s1 .nil))))) ⟨_, Nat.lt_succ_self _, foll hR rfl, by exact exA⟩ ?_
  clear hR
  rintro c c2 ⟨m, hm, hR, hx⟩
  try dsimp only at hR hm hx
  obtain ⟨m, rfl⟩ : ∃ k, m = k + 1 := ⟨m - 1, by omega⟩
  conv => whnf
  refine dchk (by kernel_rfl) ?_
  conv => whnf
  refine And.intro gkA ?_
  conv => whnf
  refine ⟨_, [(0, AObj.row 206 4 [[runes c.line, I c.at_, I c.bad, I c.error]]), (0, AObj.row 186 4 [[I 0, Sg ⟨#[]⟩, I 0, I 0]]), (0, AObj.row 4 1 [[Bo (bif (decide (c.at_ < (c.line.length : Int))) then (lex_reader_text_c1 (c.line.getD (Int.toNat c.at_) 0) c2).2 else c2)]])], fun hg => (by rw [show (decide (c.at_ < (c.line.length : Int))) = true from hg]; exact mv [2] (lex_reader_text_c1_c (c.line.getD (Int.toNat c.at_) 0) c2) (dO (ds (l1 LowL.nil)) .nil) (d1 (dp .nil)) (rO (re (l1 LowL.nil)) .nil) rx), fun hg => (by rw [show (decide (c.at_ < (c.line.length : Int))) = false from hg]; rfl), ?_⟩
  conv => whnf
  repeat ((first | refine And.intro rfl ?_ | refine And.intro (fun _ => rfl) ?_); conv => whnf)
  refine And.intro (fun h1 => ?_) (fun h2 => ?_)
  · conv => whnf
    have hq1 := of_decide_eq_true ((Bool.and_eq_true _ _).mp h1).1; have hwr : w64 (c.at_ + 1) = c.at_ + 1 := wr (by omega)
    exact loop_next2 { c with at_ := (w64 (c.at_ + 1)) } (bif (decide (c.at_ < (c.line.length : Int))) then (lex_reader_text_c1 (c.line.getD (Int.toNat c.at_) 0) c2).2 else c2) (wk [0, 1, 2] (tO rfl (ts LexReader.lo) (tO rfl (ts Token.lo) (tO rfl (ts (l1 LowL.nil)) .nil))) (sv (turn_ptr 0 rfl rfl) (sv (turn_fn .nil (cv (turn_ptr 2 rfl rfl) .nil)) (s1 (s1 .nil))))) omA ⟨m, by exact omA, foll hR (congrArg (fun p : LexReader × Bool => lex_reader_text_k1 r_ p.1 p.2) (ct h1 rfl)), by exact exA⟩
  · conv => whnf
    replace hR : lex_reader_text_k1 r_ c (bif (decide (c.at_ < (c.line.length : Int))) then (lex_reader_text_c1 (c.line.getD (Int.toNat c.at_) 0) c2).2 else c2) = R := fo2 (fun p : LexReader × Bool => lex_reader_text_k1 r_ p.1 p.2) (c, (bif (decide (c.at_ < (c.line.length : Int))) then (lex_reader_text_c1 (c.line.getD (Int.toNat c.at_) 0) c2).2 else c2)) hR (cf h2 rfl)
    refine dchk (by kernel_rfl) ?_
    conv => whnf
    refine And.intro gkA ?_
    conv => whnf
    first | refine ⟨(List.drop (Int.toNat r_.at_) (List.take (Int.toNat c.at_) c.line)), by exact cvA, ?_⟩ | refine ⟨_, fun _ => ⟨(List.drop (Int.toNat r_.at_) (List.take (Int.toNat c.at_) c.line)), by exact cvA, rfl, rfl⟩, ?_⟩ | refine ⟨_, rfl, ⟨(List.drop (Int.toNat r_.at_) (List.take (Int.toNat c.at_) c.line)), by exact cvA, Sub.refl _, rfl⟩, ?_⟩
    conv => whnf
    repeat ((first | refine And.intro rfl ?_ | refine And.intro (fun _ => rfl) ?_); conv => whnf)
    refine ⟨_, _, Told.refl, ?_⟩
    conv => whnf
    refine dchk (by kernel_rfl) ?_
    conv => whnf
    repeat ((first | refine And.intro rfl ?_ | refine And.intro (fun _ => rfl) ?_); conv => whnf)
    refine And.intro (fun h3 => ?_) (fun h4 => ?_)
    · conv => whnf
      refine ACalls.use (mv [0] (lex_reader_fail_c c r_.at_ 50) (dO (ds LexReader.lo) .nil) (dp (d1 (d1 .nil))) (rO (re LexReader.lo) .nil) rx) ?_
      conv => whnf
      obtain rfl := foll hR (ct h3 rfl)
      exact rq (tt [0] (tO rfl (ts LexReader.lo) .nil) (turn_low (Low.agg' (Token.lo))))
    · conv => whnf
      refine dchk (by kernel_rfl) ?_
      conv => whnf
      refine And.intro gkA ?_
      conv => whnf
      repeat ((first | refine And.intro rfl ?_ | refine And.intro (fun _ => rfl) ?_); conv => whnf)
      refine And.intro (fun h5 => ?_) (fun h6 => ?_)
      · conv => whnf
        refine ACalls.use (mv [0] (lex_reader_fail_c c c.at_ 40) (dO (ds LexReader.lo) .nil) (dp (d1 (d1 .nil))) (rO (re LexReader.lo) .nil) rx) ?_
        conv => whnf
        obtain rfl := foll hR (cf h4 (ct h5 rfl))
        exact rq (tt [0] (tO rfl (ts LexReader.lo) .nil) (turn_low (Low.agg' (Token.lo))))
      · conv => whnf
        refine dchk (by kernel_rfl) ?_
        conv => whnf
        refine And.intro gkA ?_
        conv => whnf
        first | refine ⟨(List.drop (Int.toNat r_.at_) (List.take (Int.toNat (w64 (c.at_ + 1))) c.line)), by exact cvA, ?_⟩ | refine ⟨_, fun _ => ⟨(List.drop (Int.toNat r_.at_) (List.take (Int.toNat (w64 (c.at_ + 1))) c.line)), by exact cvA, rfl, rfl⟩, ?_⟩ | refine ⟨_, rfl, ⟨(List.drop (Int.toNat r_.at_) (List.take (Int.toNat (w64 (c.at_ + 1))) c.line)), by exact cvA, Sub.refl _, rfl⟩, ?_⟩
        conv => whnf
        (first | apply u2 | apply u3 | apply u4 | apply ACalls.use); exact runes_Unquote_c (runesBytes (List.drop (Int.toNat r_.at_) (List.take (Int.toNat (w64 (c.at_ + 1))) c.line))) szA (by refine Nat.le_trans (runesBytes_size _) ?_; simp only [List.length_drop, List.length_take]; omega) _
        conv => whnf
        repeat ((first | refine And.intro rfl ?_ | refine And.intro (fun _ => rfl) ?_ | refine And.intro (fun _ => runes_Unquote_c (runesBytes (List.drop (Int.toNat r_.at_) (List.take (Int.toNat (w64 (c.at_ + 1))) c.line))) szA (by refine Nat.le_trans (runesBytes_size _) ?_; simp only [List.length_drop, List.length_take]; omega) _) ?_); conv => whnf)
        refine And.intro (fun h7 => ?_) (fun h8 => ?_)
        · conv => whnf
          refine ACalls.use (mv [0] (lex_reader_fail_c { c with at_ := (w64 (c.at_ + 1)) } r_.at_ ((runes_Unquote (runesBytes (List.drop (Int.toNat r_.at_) (List.take (Int.toNat (w64 (c.at_ + 1))) c.line)))).2)) (dO (ds LexReader.lo) .nil) (dp (d1 (d1 .nil))) (rO (re LexReader.lo) .nil) rx) ?_
          conv => whnf
          obtain rfl := foll hR (cf h4 (cf h6 (ct h7 rfl)))
          exact rq (tt [0] (tO rfl (ts LexReader.lo) .nil) (turn_low (Low.agg' (Token.lo))))
        · conv => whnf
          obtain rfl := foll hR (cf h4 (cf h6 (cf h8 rfl)))
          exact rq (tt [0] (tO rfl (ts LexReader.lo) .nil) (turn_low (Low.agg' (Token.lo))))

-- F muster/shape.Options
def shape_sizes (min max wall : Int) : List Alt := (List.range (max - min + 1).toNat).map fun (i : Nat) => (⟨max - (i : Int), wall⟩ : Alt)

def shape_Options (s : Shape) : List Alt :=
  bif shape_Check s != 0 then [] else bif s.kind == 3 then s.alts ++ shape_sizes s.min s.max s.wall else s.alts

theorem shape_Check_mal {s : Shape} (h : (shape_Check s != 0) = false) (hk : (s.kind == 3) = true) : 1 ≤ s.min ∧ s.min ≤ s.max ∧ s.max ≤ 48 := by
  have hk' : s.kind = 3 := by simpa using hk
  simp only [shape_Check, hk'] at h
  revert h
  cases h2 : (((((s.alts.length : Int) == 0) && (decide (s.min ≤ s.max))) && (shape_fine (⟨s.min, s.wall⟩ : Alt))) && (decide (s.max ≤ 48))) with
  | false => simp [h2, shape_Check_k1]
  | true =>
    intro _
    simp [shape_fine] at h2
    omega

theorem shape_sizes_len (lo hi wall : Int) : ((downFrom hi (hi - lo + 1).toNat).map fun (n : Int) => (⟨n, wall⟩ : Alt)) = shape_sizes lo hi wall := by
  simp [downFrom, shape_sizes, List.map_map, Function.comp_def]

theorem shape_Options_c (s : Shape) (hs0 : s.sz) : ∀ objs, AGives Tryz.prog 65 [Shape.a s] objs (altL (shape_Options s)) := by
  generalize hR : shape_Options s = R
  refine AGives.any' (.cons (Shape.low _ _) .nil) lw (ACalls.of_cwp (kp 4 [7, 13, 18]) Tryz.func65 rfl rfl ?_)
  have hk0 := hs0
  obtain z7 : s.alts.length ≤ 4294967296 := hs0
  conv => whnf
  refine ACalls.use (shape_Check_c s szA _) ?_
  conv => whnf
  refine And.intro (fun h1 => ?_) (fun h2 => ?_)
  · conv => whnf
    obtain rfl := foll hR (ct h1 rfl)
    exact ret_seen lw seen_nil
  · conv => whnf
    refine ACalls.use (mv [] (slices_Clone_Alt_o s.alts szA) .nil (dv (dn_low (Alt.lows _ _)) .nil) (rO rr .nil) (rw_ 1 0 rfl)) ?_
    conv => whnf
    refine And.intro (fun h3 => ?_) (fun h4 => ?_)
    · conv => whnf
      refine ACalls.use (r := .fn (.func 127) [] [.ptr 4 0 1 0 0, .ptr 3 0 1 0 0]) (o := [(0, .row 51 5 [[I s.kind, altL s.alts, I s.min, I s.max, I s.wall]]), (0, .row 56 2 (s.alts.map Alt.cells)), (0, .row 49 1 [[.own 1 0 2 0 s.alts.length]]), (0, .row 3 1 [[I s.min]]), (0, .row 3 1 [[I s.max]])]) (ACalls.of_cwp (fun _ => true) Tryz.func95 rfl rfl ?_) ?_
      · conv => whnf
        exact ⟨_, _, told_same, rfl, rfl⟩
      conv => whnf
      obtain ⟨q1, q2, q3⟩ := shape_Check_mal h2 h3
      refine range_next (α := Int) (fun n => .int .i64 n) (downFrom s.max (s.max - s.min + 1).toNat) (fun xs => [(0, .row 51 5 [[I s.kind, altL s.alts, I s.min, I s.max, I s.wall]]), (0, .row 56 2 ((s.alts ++ xs.map fun (n : Int) => (⟨n, s.wall⟩ : Alt)).map Alt.cells)), (0, .row 49 1 [[.own 1 0 2 0 (s.alts ++ xs.map fun (n : Int) => (⟨n, s.wall⟩ : Alt)).length]]), (0, .row 3 1 [[I s.min]]), (0, .row 3 1 [[I s.max]])])
        (by simp) (by decide) (by decide) rfl rfl rfl rfl ?_ ?_ (by decide) ?_ ?_
      · intro xs q hq _
        simp only [List.mem_cons, List.not_mem_nil, or_false] at hq
        rcases hq with rfl | rfl | rfl | rfl | rfl <;> exact ⟨_, _, _, rfl⟩
      · intro K a w hs
        have hv := rep_fn_ptrs (hs.slot 18)
        obtain ⟨c1, c2⟩ := box_cell (o := 4) hs.mem rfl
        obtain ⟨c3, c4⟩ := box_cell (o := 3) hs.mem rfl
        refine ⟨127, #[.pointer (some ⟨K.ρ 4 0, 0, none⟩), .pointer (some ⟨K.ρ 3 0, 0, none⟩)], ⟨K.ρ 3 0, 0, none⟩, .int .i64 s.min, hv, ?_, c4, ?_, ?_⟩
        · intro args w
          simp [go_sem]
        · intro K1 xs W hs1
          have hv1 := rep_fn_ptrs (hs1.slot 18)
          have e : K1.ρ 3 0 = K.ρ 3 0 := by
            have := hv1.symm.trans hv
            exact (by simpa using this : K1.ρ 4 0 = K.ρ 4 0 ∧ K1.ρ 3 0 = K.ρ 3 0).2
          rw [← e]
          exact (box_cell (o := 3) hs1.mem rfl).1
        · rw [downFrom_length]
          exact sizes_stops 2 (by decide) _ _ s.min s.max w q1 q2 q3 c2 c4 c1 c3
      · intro xs x hlen
        rw [downFrom_length] at hlen
        conv => whnf
        refine Or.inl ?_
        conv => whnf
        refine ⟨app_ok 16 rfl lnA (by simp; omega), ?_⟩
        conv => whnf
        exact wk [0, 1, 2, 3, 4] (tO rfl (ts Shape.lo) (tO rfl (turn_same (by simp only [List.map_append, List.append_assoc]; rfl) (low_map fun _ => Alt.lowc _ _)) (tO rfl (turn_row1 (.cons _ _ _ _ (to 1 (by simp [List.length_append]; omega)) .nil)) (tO rfl (ts (l1 .nil)) (tO rfl (ts (l1 .nil)) .nil)))))
          (sv (turn_fn .nil (.cons _ _ _ _ (turn_ptr 4 rfl rfl) (.cons _ _ _ _ (turn_ptr 3 rfl rfl) .nil))) (s1 (sv (turn_ptr 2 rfl rfl) (s1 (s1 (sv (turn_ptr 0 rfl rfl) (sl (Shape.low _ _) .nil)))))))
      · conv => whnf
        have e : shape_Options s = s.alts ++ (downFrom s.max (s.max - s.min + 1).toNat).map fun (n : Int) => (⟨n, s.wall⟩ : Alt) := by
          rw [shape_sizes_len]
          exact cf h2 (ct h3 rfl)
        obtain rfl := foll hR e
        exact ret_seen lw (seen_list Alt.zero _ rfl rfl rfl)
    · conv => whnf
      obtain rfl := foll hR (cf h2 (cf h4 rfl))
      exact ret_seen lw (seen_list Alt.zero _ rfl eqA lnA)

-- F muster/fleet.where
def fleet_where_g1 (is : Node → Bool) : List Node → List Int → Nat → (List Int)
  | [], out, _ =>
    out
  | x_ :: r, out, i =>
    bif (is x_) then
      fleet_where_g1 is r (out ++ ([(i : Int)] : List Int)) (i + 1)
    else
      fleet_where_g1 is r out (i + 1)

def fleet_where_k1 (out : List Int) : Int :=
  (nodeset_Of out).1

def fleet_where (l : List Node) (is : Node → Bool) : Int :=
  bif ((fleet_Check l) != 0) then
    0
  else
    fleet_where_k1 (fleet_where_g1 is l [] 0)

-- F muster/alloc.Quiet
def alloc_Quiet_g1 (l : List Node) : List Int → Nat → Bool
  | [], _ =>
    true
  | x_ :: r, i =>
    bif ((decide (x_ < (l.length : Int))) && ((l.getD (Int.toNat x_) Node.zero).want == 0)) then
      alloc_Quiet_g1 l r (i + 1)
    else
      false

def alloc_Quiet (l : List Node) (set_ : Int) : Bool :=
  bif ((fleet_Check l) != 0) then
    false
  else
    alloc_Quiet_g1 l (nodeset_List set_) 0

theorem alloc_Quiet_c (l : List Node) (set_ : Int) (hs0 : l.length ≤ 4294967296) : ∀ objs, AGives Tryz.prog 105 [nodeL l, U set_] objs (Bo (alloc_Quiet l set_)) := by
  generalize hR : alloc_Quiet l set_ = R
  refine AGives.any' (.cons lw (l1 .nil)) lx (ACalls.of_cwp (kp 7 [9, 11, 12, 13, 14, 28]) Tryz.func105 rfl rfl ?_)
  have hk0 := hs0
  obtain z7 : l.length ≤ 4294967296 := hs0
  conv => whnf
  refine ACalls.use (fleet_Check_c l szA _) ?_
  conv => whnf
  refine And.intro (fun h1 => ?_) (fun h2 => ?_)
  · conv => whnf
    obtain rfl := foll hR (ct h1 rfl)
    exact ret_seen lx sr
  · conv => whnf
    refine ACalls.use (nodeset_List_c set_ _) ?_
    conv => whnf
    refine loop_start1 (fun (i : Nat) => alloc_Quiet_g1 l (List.drop i (nodeset_List set_)) i = R ∧ i ≤ (nodeset_List set_).length) (fun i => (nodeset_List set_).length - i) (fun i => [(0, nodeL l), (4, Bo false), (11, ints (nodeset_List set_)), (12, I ((nodeset_List set_).length : Int)), (13, I (i : Int))]) (fun i => []) 0 (wk [] .nil (sl lw (s1 (sl lw (s1 (s1 .nil)))))) ⟨foll hR (cf h2 rfl), by exact omA⟩ ?_
    clear hR
    rintro i ⟨hR, hj⟩
    try dsimp only at hR hj
    conv => whnf
    refine And.intro (fun h3 => ?_) (fun h4 => ?_)
    · have hlt : i < (nodeset_List set_).length := by have := of_decide_eq_true h3; omega
      rw [drop_getD 0 hlt] at hR
      have hq := nodeset_List_get set_ hlt; have hq2 := nodeset_List_len set_
      conv => whnf
      refine And.intro gkA ?_
      conv => whnf
      refine And.intro gkA ?_
      conv => whnf
      refine And.intro (fun h5 => ?_) (fun h6 => ?_)
      · conv => whnf
        exact loop_next1 (i + 1) (wk [] .nil (sl lw (s1 (sl lw (s1 (sv (turn_eq (I_eq (wr omA)) lx) .nil)))))) omA ⟨foll hR (ct h5 rfl), by exact omA⟩
      · conv => whnf
        obtain rfl := foll hR (cf h6 rfl)
        exact ret_seen lx sr
    · rw [drop_none (l := (nodeset_List set_)) (j := i) (by have := of_decide_eq_false h4; omega)] at hR
      conv => whnf
      obtain rfl := foll hR rfl
      exact ret_seen lx sr

-- F muster/state.Same
def state_Same (a : State) (b : State) : Bool :=
  bif ((((a.now != b.now) || (a.nextJob != b.nextJob)) || (a.nextBook != b.nextBook)) || (!(slices_Equal_Resize a.resizes b.resizes))) then
    false
  else
    ((((fleet_Same a.nodes b.nodes) && (table_Same a.jobs b.jobs)) && (book_Same a.books b.books)) && (ledger_Same a.ledger b.ledger))

theorem state_Same_c (a : State) (b : State) (hs0 : a.sz) (hs1 : b.sz) : ∀ objs, AGives Tryz.prog 18 [State.a a, State.a b] objs (Bo (state_Same a b)) := by
  generalize hR : state_Same a b = R
  refine AGives.any' (.cons (State.low _ _) (.cons (State.low _ _) .nil)) lx (ACalls.of_cwp (kp 5 [31]) Tryz.func18 rfl rfl ?_)
  have hk0 := hs0
  obtain ⟨z3, z4, z5, z6, z7, z8, z9⟩ : a.nodes.length ≤ 4294967296 ∧ a.jobs.length ≤ 4294967296 ∧ (∀ y ∈ a.jobs, y.sz) ∧ a.resizes.length ≤ 4294967296 ∧ a.books.length ≤ 4294967296 ∧ a.ledger.length ≤ 4294967296 ∧ (∀ y ∈ a.ledger, y.sz) := hs0
  have hk1 := hs1
  obtain ⟨z10, z11, z12, z13, z14, z15, z16⟩ : b.nodes.length ≤ 4294967296 ∧ b.jobs.length ≤ 4294967296 ∧ (∀ y ∈ b.jobs, y.sz) ∧ b.resizes.length ≤ 4294967296 ∧ b.books.length ≤ 4294967296 ∧ b.ledger.length ≤ 4294967296 ∧ (∀ y ∈ b.ledger, y.sz) := hs1
  conv => whnf
  (first | apply u2 | apply u3 | apply u4 | apply ACalls.use); exact slices_Equal_Resize_c a.resizes b.resizes szA szA _
  conv => whnf
  refine And.intro (fun h1 => ?_) (fun h2 => ?_)
  · conv => whnf
    obtain rfl := foll hR (ct h1 rfl)
    exact ret_seen lx sr
  · conv => whnf
    refine ACalls.use (fleet_Same_c a.nodes b.nodes szA szA _) ?_
    conv => whnf
    (first | apply u2 | apply u3 | apply u4 | apply ACalls.use); exact table_Same_c a.jobs b.jobs szA szA _
    conv => whnf
    (first | apply u2 | apply u3 | apply u4 | apply ACalls.use); exact book_Same_c a.books b.books szA szA _
    conv => whnf
    (first | apply u2 | apply u3 | apply u4 | apply ACalls.use); exact ledger_Same_c a.ledger b.ledger szA szA _
    conv => whnf
    obtain rfl := foll hR (cf h2 rfl)
    exact ret_seen lx sr

-- F muster/musterref25.Same
def ref25_Same (a : State) (b : State) : Bool :=
  ((((((((a.now == b.now) && (a.nextJob == b.nextJob)) && (a.nextBook == b.nextBook)) && (ref12_Same a.nodes b.nodes)) && (ref15_Same a.jobs b.jobs)) && (ref25_SameResizes a.resizes b.resizes)) && (ref19_Same a.books b.books)) && (ref17_Same a.ledger b.ledger))

theorem ref25_Same_c (a : State) (b : State) (hs0 : a.sz) (hs1 : b.sz) : ∀ objs, AGives Tryz.prog 15 [State.a a, State.a b] objs (Bo (ref25_Same a b)) := by
  generalize hR : ref25_Same a b = R
  refine AGives.any' (.cons (State.low _ _) (.cons (State.low _ _) .nil)) lx (ACalls.of_cwp (kp 5 []) Tryz.func15 rfl rfl ?_)
  have hk0 := hs0
  obtain ⟨z1, z2, z3, z4, z5, z6, z7⟩ : a.nodes.length ≤ 4294967296 ∧ a.jobs.length ≤ 4294967296 ∧ (∀ y ∈ a.jobs, y.sz) ∧ a.resizes.length ≤ 4294967296 ∧ a.books.length ≤ 4294967296 ∧ a.ledger.length ≤ 4294967296 ∧ (∀ y ∈ a.ledger, y.sz) := hs0
  have hk1 := hs1
  obtain ⟨z8, z9, z10, z11, z12, z13, z14⟩ : b.nodes.length ≤ 4294967296 ∧ b.jobs.length ≤ 4294967296 ∧ (∀ y ∈ b.jobs, y.sz) ∧ b.resizes.length ≤ 4294967296 ∧ b.books.length ≤ 4294967296 ∧ b.ledger.length ≤ 4294967296 ∧ (∀ y ∈ b.ledger, y.sz) := hs1
  conv => whnf
  (first | apply u2 | apply u3 | apply u4 | apply ACalls.use); exact ref12_Same_c a.nodes b.nodes szA szA _
  conv => whnf
  (first | apply u2 | apply u3 | apply u4 | apply ACalls.use); exact ref15_Same_c a.jobs b.jobs szA szA _
  conv => whnf
  (first | apply u2 | apply u3 | apply u4 | apply ACalls.use); exact ref25_SameResizes_c a.resizes b.resizes szA szA _
  conv => whnf
  (first | apply u2 | apply u3 | apply u4 | apply ACalls.use); exact ref19_Same_c a.books b.books szA szA _
  conv => whnf
  (first | apply u2 | apply u3 | apply u4 | apply ACalls.use); exact ref17_Same_c a.ledger b.ledger szA szA _
  conv => whnf
  obtain rfl := foll hR rfl
  exact ret_seen lx sr

end Go.Proofs.YtoionleakeemlaaGreatDoor
namespace Go.Proofs.YtoionleakeemlaaGreatDoor
set_option linter.unusedSimpArgs false
set_option linter.unusedVariables false
open Go.Fw

set_option maxRecDepth 20000
set_option maxHeartbeats 4000000
attribute [local irreducible] ACalls AMoves


-- F (*muster/lex.reader).next
def lex_reader_next (r_ : LexReader) : Token × LexReader :=
  bif ((runes_Class (r_.line.getD (Int.toNat r_.at_) 0)) == 2) then
    ((lex_reader_word r_).1, (lex_reader_word r_).2)
  else
    bif ((runes_Class (r_.line.getD (Int.toNat r_.at_) 0)) == 3) then
      ((lex_reader_count r_).1, (lex_reader_count r_).2)
    else
      bif ((r_.line.getD (Int.toNat r_.at_) 0) == 34) then
        ((lex_reader_text r_).1, (lex_reader_text r_).2)
      else
        bif ((decide ((strings_IndexByte ⟨#[61, 58, 44, 45]⟩ (wu8 (r_.line.getD (Int.toNat r_.at_) 0))) ≥ 0)) && (decide ((r_.line.getD (Int.toNat r_.at_) 0) < 128))) then
          ((⟨5, (runeStr (r_.line.getD (Int.toNat r_.at_) 0)), 0, 0⟩ : Token), { r_ with at_ := (w64 (r_.at_ + 1)) })
        else
          bif ((runes_Class (r_.line.getD (Int.toNat r_.at_) 0)) == 0) then
            (Token.zero, (lex_reader_fail r_ r_.at_ 40))
          else
            (Token.zero, (lex_reader_fail r_ r_.at_ 50))

theorem lex_reader_next_c (r_ : LexReader) (hs0 : r_.sz) (hp0 : 0 ≤ r_.at_ ∧ r_.at_ < (r_.line.length : Int) ∧ r_.line.length ≤ 400) : AMoves Tryz.prog 200 [AVal.ptr 0 0 4 0 0] [(0, AObj.row 206 4 [[runes r_.line, I r_.at_, I r_.bad, I r_.error]])] 1 (Token.a ((lex_reader_next r_).1)) [(0, AObj.row 206 4 [[runes ((lex_reader_next r_).2.line), I ((lex_reader_next r_).2.at_), I ((lex_reader_next r_).2.bad), I ((lex_reader_next r_).2.error)]])] := by
  generalize hR : lex_reader_next r_ = R
  refine AMoves.of_cwp (kp 4 [20, 26, 32, 37, 56]) Tryz.func200 rfl rfl rfl ?_
  have hk0 := hs0
  obtain z11 : r_.line.length ≤ 4294967296 := hs0
  conv => whnf
  refine dchk (by kernel_rfl) ?_
  conv => whnf
  refine And.intro gkA ?_
  conv => whnf
  repeat ((first | refine And.intro rfl ?_ | refine And.intro (fun _ => rfl) ?_); conv => whnf)
  refine ACalls.use (runes_Class_c (r_.line.getD (Int.toNat r_.at_) 0) _) ?_
  conv => whnf
  refine And.intro (fun h1 => ?_) (fun h2 => ?_)
  · conv => whnf
    refine ACalls.use (mv [0] (lex_reader_word_c r_ szA ckA) (dO (ds LexReader.lo) .nil) (dp .nil) (rO (re LexReader.lo) .nil) (Ren.low _ (Low.agg' (Token.lo)))) ?_
    conv => whnf
    obtain rfl := foll hR (ct h1 rfl)
    exact rq (tt [0] (tO rfl (ts LexReader.lo) .nil) (turn_low (Low.agg' (Token.lo))))
  · conv => whnf
    refine ACalls.use (runes_Class_c (r_.line.getD (Int.toNat r_.at_) 0) _) ?_
    conv => whnf
    refine And.intro (fun h3 => ?_) (fun h4 => ?_)
    · conv => whnf
      refine ACalls.use (mv [0] (lex_reader_count_c r_ szA ckA) (dO (ds LexReader.lo) .nil) (dp .nil) (rO (re LexReader.lo) .nil) (Ren.low _ (Low.agg' (Token.lo)))) ?_
      conv => whnf
      obtain rfl := foll hR (cf h2 (ct h3 rfl))
      exact rq (tt [0] (tO rfl (ts LexReader.lo) .nil) (turn_low (Low.agg' (Token.lo))))
    · conv => whnf
      refine And.intro (fun h5 => ?_) (fun h6 => ?_)
      · conv => whnf
        refine ACalls.use (mv [0] (lex_reader_text_c r_ szA ckA) (dO (ds LexReader.lo) .nil) (dp .nil) (rO (re LexReader.lo) .nil) (Ren.low _ (Low.agg' (Token.lo)))) ?_
        conv => whnf
        obtain rfl := foll hR (cf h2 (cf h4 (ct h5 rfl)))
        exact rq (tt [0] (tO rfl (ts LexReader.lo) .nil) (turn_low (Low.agg' (Token.lo))))
      · conv => whnf
        refine ACalls.use (strings_IndexByte_c ⟨#[61, 58, 44, 45]⟩ (wu8 (r_.line.getD (Int.toNat r_.at_) 0)) _) ?_
        conv => whnf
        refine And.intro (fun h7 => ?_) (fun h8 => ?_)
        · conv => whnf
          obtain rfl := foll hR (cf h2 (cf h4 (cf h6 (ct h7 rfl))))
          exact rq (tt [0] (tO rfl (ts LexReader.lo) .nil) (turn_low (Low.agg' (Token.lo))))
        · conv => whnf
          refine ACalls.use (runes_Class_c (r_.line.getD (Int.toNat r_.at_) 0) _) ?_
          conv => whnf
          refine And.intro (fun h9 => ?_) (fun h10 => ?_)
          · conv => whnf
            refine ACalls.use (mv [0] (lex_reader_fail_c r_ r_.at_ 40) (dO (ds LexReader.lo) .nil) (dp (d1 (d1 .nil))) (rO (re LexReader.lo) .nil) rx) ?_
            conv => whnf
            obtain rfl := foll hR (cf h2 (cf h4 (cf h6 (cf h8 (ct h9 rfl)))))
            exact rq (tt [0] (tO rfl (ts LexReader.lo) .nil) (turn_low (Low.agg' (Token.lo))))
          · conv => whnf
            refine ACalls.use (mv [0] (lex_reader_fail_c r_ r_.at_ 50) (dO (ds LexReader.lo) .nil) (dp (d1 (d1 .nil))) (rO (re LexReader.lo) .nil) rx) ?_
            conv => whnf
            obtain rfl := foll hR (cf h2 (cf h4 (cf h6 (cf h8 (cf h10 rfl)))))
            exact rq (tt [0] (tO rfl (ts LexReader.lo) .nil) (turn_low (Low.agg' (Token.lo))))

/-- What a reader is behind taking runes. -/
def Adv (a b : LexReader) : Prop := b.line = a.line ∧ a.at_ ≤ b.at_ ∧ b.at_ ≤ (a.line.length : Int) ∧ b.error = a.error ∧ b.bad = a.bad

theorem lex_while_adv (is : Int → Bool) : ∀ (m : Nat) (c : LexReader), 0 ≤ c.at_ → c.at_ ≤ (c.line.length : Int) → c.line.length ≤ 400 → (Int.toNat ((c.line.length : Int) - c.at_)) < m → Adv c (lex_reader_while_g1 is m c)
  | 0, c, _, _, _, h => absurd h (by omega)
  | m + 1, c, h0, h1, h2, h => by
    rw [lex_reader_while_g1]
    cases hc : ((decide (c.at_ < (c.line.length : Int))) && (is (c.line.getD (Int.toNat c.at_) 0))) with
    | false => exact ⟨rfl, Int.le_refl _, h1, rfl, rfl⟩
    | true =>
      have hlt := of_decide_eq_true ((Bool.and_eq_true _ _).mp hc).1
      have hw : w64 (c.at_ + 1) = c.at_ + 1 := wr (by omega)
      rw [hw]
      obtain ⟨a, b, d, e, f⟩ := lex_while_adv is m { c with at_ := c.at_ + 1 } (by dsimp only; omega) (by dsimp only; omega) h2 (by dsimp only; omega)
      dsimp only at a b d e f
      exact ⟨a, by simp only [cond_true]; omega, d, e, f⟩

theorem lex_reader_while_adv (r : LexReader) (is : Int → Bool) (h0 : 0 ≤ r.at_) (h1 : r.at_ ≤ (r.line.length : Int)) (h2 : r.line.length ≤ 400) : Adv r (lex_reader_while r is).2 :=
  lex_while_adv is _ r h0 h1 h2 (Nat.lt_succ_self _)

/-- .. and at least one, if it fits. -/
theorem lex_reader_while_lt (r : LexReader) (is : Int → Bool) (h0 : 0 ≤ r.at_) (h1 : r.at_ < (r.line.length : Int)) (h2 : r.line.length ≤ 400) (h : is (r.line.getD (Int.toNat r.at_) 0) = true) : r.at_ < (lex_reader_while r is).2.at_ := by
  have hw : w64 (r.at_ + 1) = r.at_ + 1 := wr (by omega)
  have e : (lex_reader_while r is).2 = lex_reader_while_g1 is (Int.toNat ((r.line.length : Int) - r.at_)) { r with at_ := r.at_ + 1 } := by
    show lex_reader_while_g1 is ((Int.toNat ((r.line.length : Int) - r.at_)) + 1) r = _
    rw [lex_reader_while_g1, show ((decide (r.at_ < (r.line.length : Int))) && (is (r.line.getD (Int.toNat r.at_) 0))) = true by rw [h, Bool.and_true]; exact decide_eq_true h1, hw]
    rfl
  rw [e]
  have := (lex_while_adv is (Int.toNat ((r.line.length : Int) - r.at_)) { r with at_ := r.at_ + 1 } (by dsimp only; omega) (by dsimp only; omega) h2 (by dsimp only; omega)).2.1
  dsimp only at this
  omega

theorem lex_fail_adv (r : LexReader) (p e : Int) (he : e ≠ 0) : (lex_reader_fail r p e).line = r.line ∧ (lex_reader_fail r p e).at_ = r.at_ ∧ (lex_reader_fail r p e).error ≠ 0 := by
  unfold lex_reader_fail
  cases h : (r.error == 0) with
  | true => exact ⟨rfl, rfl, he⟩
  | false => exact ⟨rfl, rfl, by simpa using h⟩

/-- What a reader is behind a token. -/
def Nxt (a b : LexReader) : Prop := b.line = a.line ∧ a.at_ ≤ b.at_ ∧ b.at_ ≤ (a.line.length : Int) ∧ (b.error ≠ 0 ∨ a.at_ < b.at_)

theorem lex_word_nxt (r : LexReader) (h0 : 0 ≤ r.at_) (h1 : r.at_ < (r.line.length : Int)) (h2 : r.line.length ≤ 400) (hc : ((runes_Class (r.line.getD (Int.toNat r.at_) 0)) == 2) = true) : Nxt r (lex_reader_word r).2 := by
  obtain ⟨a, b, c, _, _⟩ := lex_reader_while_adv r (fun (y : Int) => lex_reader_word_g1 y ([2, 3] : List Int) 0) h0 (by omega) h2
  exact ⟨a, b, c, Or.inr (lex_reader_while_lt r _ h0 h1 h2 (by simp only [lex_reader_word_g1, hc]; rfl))⟩

theorem class_digit (x : Int) (h : (runes_Class x == 3) = true) : 48 ≤ x ∧ x ≤ 57 := by
  unfold runes_Class at h
  revert h
  cases ((x == 9) || (x == 32)) with
  | true => simp
  | false =>
    simp only [cond_false]
    cases (((((decide (x < 32)) || ((decide (x ≥ 127)) && (decide (x ≤ 160)))) || ((decide (x ≥ 55296)) && (decide (x ≤ 57343)))) || (x == 65533)) || (decide (x > 1114111))) with
    | true => simp
    | false =>
      simp only [cond_false]
      cases hd : ((decide (x ≥ 48)) && (decide (x ≤ 57))) with
      | true => intro _; simp at hd; omega
      | false =>
        simp only [cond_false]
        cases ((((decide (x ≥ 97)) && (decide (x ≤ 122))) || ((decide (x ≥ 65)) && (decide (x ≤ 90)))) || (decide (x > 160))) <;> simp

theorem lex_count_nxt (r : LexReader) (h0 : 0 ≤ r.at_) (h1 : r.at_ < (r.line.length : Int)) (h2 : r.line.length ≤ 400) (hc : ((runes_Class (r.line.getD (Int.toNat r.at_) 0)) == 3) = true) : Nxt r (lex_reader_count r).2 := by
  obtain ⟨a, b, c, _, _⟩ := lex_reader_while_adv r (fun (y : Int) => (((decide (y ≥ 48)) && (decide (y ≤ 57))) || ((decide (y ≥ 97)) && (decide (y ≤ 122))))) h0 (by omega) h2
  have hd := class_digit _ hc
  have l := lex_reader_while_lt r (fun (y : Int) => (((decide (y ≥ 48)) && (decide (y ≤ 57))) || ((decide (y ≥ 97)) && (decide (y ≤ 122))))) h0 h1 h2 (by simp only [decide_eq_true hd.1, decide_eq_true hd.2]; rfl)
  unfold lex_reader_count
  cases (!(lex_digits ((lex_reader_while r (fun (y : Int) => (((decide (y ≥ 48)) && (decide (y ≤ 57))) || ((decide (y ≥ 97)) && (decide (y ≤ 122)))))).1))) with
  | true => exact ⟨a, b, c, Or.inr l⟩
  | false =>
    simp only [cond_false]
    cases (!(lex_number ((lex_reader_while r (fun (y : Int) => (((decide (y ≥ 48)) && (decide (y ≤ 57))) || ((decide (y ≥ 97)) && (decide (y ≤ 122)))))).1)).2) with
    | false => exact ⟨a, b, c, Or.inr l⟩
    | true =>
      obtain ⟨f1, f2, f3⟩ := lex_fail_adv (lex_reader_while r (fun (y : Int) => (((decide (y ≥ 48)) && (decide (y ≤ 57))) || ((decide (y ≥ 97)) && (decide (y ≤ 122)))))).2 r.at_ 50 (by decide)
      exact ⟨f1.trans a, by simp only [cond_true]; rw [f2]; exact b, by simp only [cond_true]; rw [f2]; exact c, Or.inl f3⟩

theorem lex_text_adv : ∀ (m : Nat) (c : LexReader) (b : Bool), 0 ≤ c.at_ → c.at_ ≤ (c.line.length : Int) → c.line.length ≤ 400 → (Int.toNat ((c.line.length : Int) - c.at_)) < m → Adv c (lex_reader_text_g1 m c b).1
  | 0, c, _, _, _, _, h => absurd h (by omega)
  | m + 1, c, b, h0, h1, h2, h => by
    rw [lex_reader_text_g1]
    cases hc : ((decide (c.at_ < (c.line.length : Int))) && (lex_reader_text_c1 (c.line.getD (Int.toNat c.at_) 0) b).1) with
    | false => exact ⟨rfl, Int.le_refl _, h1, rfl, rfl⟩
    | true =>
      have hlt := of_decide_eq_true ((Bool.and_eq_true _ _).mp hc).1
      have hw : w64 (c.at_ + 1) = c.at_ + 1 := wr (by omega)
      rw [hw]
      obtain ⟨a, b, d, e, f⟩ := lex_text_adv m { c with at_ := c.at_ + 1 } _ (by dsimp only; omega) (by dsimp only; omega) h2 (by dsimp only; omega)
      dsimp only at a b d e f
      exact ⟨a, by simp only [cond_true]; omega, d, e, f⟩

theorem lex_text_nxt (r : LexReader) (h0 : 0 ≤ r.at_) (h1 : r.at_ < (r.line.length : Int)) (h2 : r.line.length ≤ 400) : Nxt r (lex_reader_text r).2 := by
  obtain ⟨a, b, c, _, _⟩ := lex_text_adv _ r true h0 (by omega) h2 (Nat.lt_succ_self _)
  unfold lex_reader_text
  generalize (lex_reader_text_g1 ((Int.toNat ((r.line.length : Int) - r.at_)) + 1) r true).1 = q at a b c
  unfold lex_reader_text_k1
  have ff : ∀ (x : LexReader) (p e : Int), e ≠ 0 → x.line = r.line → r.at_ ≤ x.at_ → x.at_ ≤ (r.line.length : Int) → Nxt r (lex_reader_fail x p e) := by
    intro x p e he hx hp hq
    obtain ⟨f1, f2, f3⟩ := lex_fail_adv x p e he
    exact ⟨f1.trans hx, by rw [f2]; exact hp, by rw [f2]; exact hq, Or.inl f3⟩
  cases h3 : (q.at_ == (q.line.length : Int)) with
  | true => exact ff q _ _ (by decide) a b c
  | false =>
    simp only [cond_false]
    have h3' : q.at_ ≠ (r.line.length : Int) := by rw [a] at h3; simpa using h3
    have hw : w64 (q.at_ + 1) = q.at_ + 1 := wr (by omega)
    cases ((q.line.getD (Int.toNat q.at_) 0) != 34) with
    | true => exact ff q _ _ (by decide) a b c
    | false =>
      simp only [cond_false]
      rw [hw]
      cases h4 : ((runes_Unquote (runesBytes (List.drop (Int.toNat r.at_) (List.take (Int.toNat (q.at_ + 1)) q.line)))).2 != 0) with
      | true => exact ff { q with at_ := q.at_ + 1 } _ _ (by simpa using h4) a (by show r.at_ ≤ q.at_ + 1; omega) (by show q.at_ + 1 ≤ _; omega)
      | false => exact ⟨a, by show r.at_ ≤ q.at_ + 1; omega, by show q.at_ + 1 ≤ _; omega, Or.inr (by show r.at_ < q.at_ + 1; omega)⟩

theorem lex_next_nxt (r : LexReader) (h0 : 0 ≤ r.at_) (h1 : r.at_ < (r.line.length : Int)) (h2 : r.line.length ≤ 400) : Nxt r (lex_reader_next r).2 := by
  have hw : w64 (r.at_ + 1) = r.at_ + 1 := wr (by omega)
  have ff : ∀ (e : Int), e ≠ 0 → Nxt r (lex_reader_fail r r.at_ e) := by
    intro e he
    obtain ⟨f1, f2, f3⟩ := lex_fail_adv r r.at_ e he
    exact ⟨f1, by rw [f2]; exact Int.le_refl _, by rw [f2]; omega, Or.inl f3⟩
  unfold lex_reader_next
  cases hc : ((runes_Class (r.line.getD (Int.toNat r.at_) 0)) == 2) with
  | true => exact lex_word_nxt r h0 h1 h2 hc
  | false =>
    simp only [cond_false]
    cases hd : ((runes_Class (r.line.getD (Int.toNat r.at_) 0)) == 3) with
    | true => exact lex_count_nxt r h0 h1 h2 hd
    | false =>
      simp only [cond_false]
      cases ((r.line.getD (Int.toNat r.at_) 0) == 34) with
      | true => exact lex_text_nxt r h0 h1 h2
      | false =>
        simp only [cond_false]
        cases ((decide ((strings_IndexByte ⟨#[61, 58, 44, 45]⟩ (wu8 (r.line.getD (Int.toNat r.at_) 0))) ≥ 0)) && (decide ((r.line.getD (Int.toNat r.at_) 0) < 128))) with
        | true => rw [hw]; exact ⟨rfl, by show r.at_ ≤ r.at_ + 1; omega, by show r.at_ + 1 ≤ _; omega, Or.inr (by show r.at_ < r.at_ + 1; omega)⟩
        | false =>
          simp only [cond_false]
          cases ((runes_Class (r.line.getD (Int.toNat r.at_) 0)) == 0) with
          | true => exact ff 40 (by decide)
          | false => exact ff 50 (by decide)

/-- A round of the reader: blanks, then a token. -/
theorem lex_round (r c : LexReader) (b : Int → Bool) (h0 : 0 ≤ r.at_) (h1 : r.at_ ≤ (r.line.length : Int)) (h2 : r.line.length ≤ 400) (he : (r.error == 0) = true) (e : c = (lex_reader_while r b).2) (hn : (c.at_ == (c.line.length : Int)) = false) :
    (0 ≤ c.at_ ∧ c.at_ < (c.line.length : Int) ∧ c.line.length ≤ 400) ∧ (0 ≤ (lex_reader_next c).2.at_ ∧ (lex_reader_next c).2.at_ ≤ ((lex_reader_next c).2.line.length : Int) ∧ (lex_reader_next c).2.line.length ≤ 400) ∧
    2 * Int.toNat (((lex_reader_next c).2.line.length : Int) - (lex_reader_next c).2.at_) + (bif (lex_reader_next c).2.error == 0 then 1 else 0) < 2 * Int.toNat ((r.line.length : Int) - r.at_) + (bif r.error == 0 then 1 else 0) ∧
    (((lex_reader_next c).2.error == 0) = true → r.at_ + 1 ≤ (lex_reader_next c).2.at_) := by
  obtain ⟨a1, a2, a3, a4, a5⟩ := lex_reader_while_adv r b h0 h1 h2
  rw [← e] at a1 a2 a3 a4 a5
  have hn' : c.at_ ≠ (r.line.length : Int) := by rw [a1] at hn; simpa using hn
  have hc : 0 ≤ c.at_ ∧ c.at_ < (c.line.length : Int) ∧ c.line.length ≤ 400 := by rw [a1]; omega
  obtain ⟨n1, n2, n3, n4⟩ := lex_next_nxt c hc.1 hc.2.1 hc.2.2
  rw [he]
  rw [a1] at n1 n3
  refine ⟨hc, by rw [n1]; omega, ?_⟩
  rw [n1]
  rcases n4 with n4 | n4
  · have : ((lex_reader_next c).2.error == 0) = false := by simpa using n4
    rw [this]
    simp only [cond_true, cond_false]
    exact ⟨by omega, fun h => nomatch h⟩
  · refine ⟨?_, fun _ => by omega⟩
    cases ((lex_reader_next c).2.error == 0) <;> simp only [cond_true, cond_false] <;> omega


-- F (muster/job.view).option
def job_view_option (v : Job) (choice : Int) : Alt × Bool :=
  bif ((decide (choice < 0)) || (decide (choice ≥ ((shape_Options v.shape).length : Int)))) then
    (Alt.zero, false)
  else
    (((shape_Options v.shape).getD (Int.toNat choice) Alt.zero), true)

theorem job_view_option_c (v : Job) (choice : Int) (hs0 : v.sz) : ∀ objs, AGives Tryz.prog 161 [Job.a v, I choice] objs (AVal.tup [Alt.a ((job_view_option v choice).1), Bo ((job_view_option v choice).2)]) := by
  generalize hR : job_view_option v choice = R
  refine AGives.any' (.cons (Job.low _ _) (l1 .nil)) (Low.tup' (.cons (Alt.low _ _) (l1 .nil))) (ACalls.of_cwp (kp 7 [18]) Tryz.func161 rfl rfl ?_)
  have hk0 := hs0
  obtain ⟨z3, z4, z5, z6, z7⟩ : v.name.size ≤ 4294967296 ∧ v.user.size ≤ 4294967296 ∧ v.account.size ≤ 4294967296 ∧ (v.shape.alts.length ≤ 4294967296) ∧ v.after.length ≤ 4294967296 := hs0
  conv => whnf
  refine ACalls.use (shape_Options_c v.shape szA _) ?_
  conv => whnf
  refine And.intro (fun h1 => ?_) (fun h2 => ?_)
  · conv => whnf
    obtain rfl := foll hR (ct h1 rfl)
    exact ret_seen (Low.tup' (.cons (Alt.low _ _) (l1 .nil))) (Seen.tup (e1 (e1 .nil)))
  · conv => whnf
    refine And.intro gkA ?_
    conv => whnf
    obtain rfl := foll hR (cf h2 rfl)
    exact ret_seen (Low.tup' (.cons (Alt.low _ _) (l1 .nil))) (Seen.tup (e1 (e1 .nil)))

-- F muster/shape.Allows
def shape_Allows (s : Shape) (choice : Int) (n : Int) : Bool :=
  bif ((decide (choice < 0)) || (decide (choice ≥ ((shape_Options s).length : Int)))) then
    false
  else
    bif (s.kind == 3) then
      ((decide (n ≥ s.min)) && (decide (n ≤ s.max)))
    else
      (((shape_Options s).getD (Int.toNat choice) Alt.zero).nodes == n)

theorem shape_Allows_c (s : Shape) (choice : Int) (n : Int) (hs0 : s.sz) : ∀ objs, AGives Tryz.prog 21 [Shape.a s, I choice, I n] objs (Bo (shape_Allows s choice n)) := by
  generalize hR : shape_Allows s choice n = R
  refine AGives.any' (.cons (Shape.low _ _) (l1 (l1 .nil))) lx (ACalls.of_cwp (kp 8 [17, 20]) Tryz.func21 rfl rfl ?_)
  have hk0 := hs0
  obtain z5 : s.alts.length ≤ 4294967296 := hs0
  conv => whnf
  refine ACalls.use (shape_Options_c s szA _) ?_
  conv => whnf
  refine And.intro (fun h1 => ?_) (fun h2 => ?_)
  · conv => whnf
    obtain rfl := foll hR (ct h1 rfl)
    exact ret_seen lx sr
  · conv => whnf
    refine And.intro (fun h3 => ?_) (fun h4 => ?_)
    · conv => whnf
      obtain rfl := foll hR (cf h2 (ct h3 rfl))
      exact ret_seen lx sr
    · conv => whnf
      refine And.intro gkA ?_
      conv => whnf
      obtain rfl := foll hR (cf h2 (cf h4 rfl))
      exact ret_seen lx sr

-- F muster/fleet.Of
def fleet_Of (l : List Node) (job : Int) (state : Int) : Int :=
  (fleet_where l (fun (y : Node) => ((y.job == job) && (y.state == state))))

theorem fleet_Of_c (l : List Node) (job : Int) (state : Int) (hs0 : l.length ≤ 4294967296) : ∀ objs, AGives Tryz.prog 74 [nodeL l, I job, I state] objs (U (fleet_Of l job state)) := by
  generalize hR : fleet_Of l job state = R
  refine AGives.any' (.cons lw (l1 (l1 .nil))) lx (ACalls.of_cwp (kp 7 []) Tryz.func74 rfl rfl ?_)
  have hk0 := hs0
  obtain z7 : l.length ≤ 4294967296 := hs0
  conv => whnf
  have cl1 : ∀ (y1 : Node), AMoves Tryz.prog 106 [Node.a y1, AVal.ptr 0 0 1 0 0, AVal.ptr 1 0 1 0 0] [(0, AObj.row 3 1 [[I job]]), (0, AObj.row 3 1 [[I state]])] 2 (Bo ((fun (y : Node) => ((y.job == job) && (y.state == state))) y1)) [(0, AObj.row 3 1 [[I job]]), (0, AObj.row 3 1 [[I state]])] := by
    intro y1
    have hR : (fun (y : Node) => ((y.job == job) && (y.state == state))) y1 = (fun (y : Node) => ((y.job == job) && (y.state == state))) y1 := rfl
    refine AMoves.of_cwp (kp 5 []) Tryz.func106 rfl rfl rfl ?_
    conv => whnf
    refine ret_moves (fun r : Bool => Bo r) (fun _ => [(0, AObj.row 3 1 [[I job]]), (0, AObj.row 3 1 [[I state]])]) (leaf := ((y1.job == job) && (y1.state == state))) (foll hR rfl) ?_
    exact tt [0, 1] (tO rfl (ts (l1 LowL.nil)) (tO rfl (ts (l1 LowL.nil)) .nil)) t1
  have hof1 : AMoves Tryz.prog 67 [nodeL l, AVal.fn (.func 106) [] [AVal.ptr 0 0 1 0 0, AVal.ptr 1 0 1 0 0]] [(0, AObj.row 3 1 [[I job]]), (0, AObj.row 3 1 [[I state]])] 2 (U (fleet_where l (fun (y : Node) => ((y.job == job) && (y.state == state))))) [(0, AObj.row 3 1 [[I job]]), (0, AObj.row 3 1 [[I state]])] := by
    have hR : fleet_where l (fun (y : Node) => ((y.job == job) && (y.state == state))) = fleet_where l (fun (y : Node) => ((y.job == job) && (y.state == state))) := rfl
    refine AMoves.of_cwp (kp 10 [12, 13, 14, 15, 16, 22]) Tryz.func67 rfl rfl rfl ?_
    conv => whnf
    refine ACalls.use (fleet_Check_c l szA _) ?_
    conv => whnf
    refine And.intro (fun h1 => ?_) (fun h2 => ?_)
    · conv => whnf
      refine ret_moves (fun r : Int => U r) (fun r : Int => [(0, AObj.row 3 1 [[I job]]), (0, AObj.row 3 1 [[I state]])]) (leaf := 0) (foll hR (ct h1 rfl)) ?_
      exact tt [0, 1] (tO rfl (ts (l1 LowL.nil)) (tO rfl (ts (l1 LowL.nil)) .nil)) t1
    · conv => whnf
      refine loop_start2 (fun (out : List Int) (i : Nat) => fleet_where_k1 (fleet_where_g1 (fun (y : Node) => ((y.job == job) && (y.state == state))) (List.drop i l) out i) = fleet_where l (fun (y : Node) => ((y.job == job) && (y.state == state))) ∧ i ≤ l.length ∧ out.length ≤ i) (fun out i => l.length - i) (fun out i => [(1, AVal.fn (.func 106) [] [AVal.ptr 0 0 1 0 0, AVal.ptr 1 0 1 0 0]), (4, U 0), (5, AVal.own 2 0 1 0 out.length), (13, nodeL l), (14, I (l.length : Int)), (15, I (i : Int))]) (fun out i => [(0, AObj.row 3 1 [[I job]]), (0, AObj.row 3 1 [[I state]]), (0, AObj.row 3 1 (out.map (fun q_ => [I q_])))]) [] 0 ((weaker_none 3 1).trans (wk [0, 1, 2] (tO rfl (ts (l1 LowL.nil)) (tO rfl (ts (l1 LowL.nil)) (tO rfl (tl eqA) .nil))) (sv (turn_fn .nil (cv (turn_ptr 0 rfl rfl) (cv (turn_ptr 1 rfl rfl) .nil))) (s1 (sv (turn_nilown 2 rfl) (sl lw (s1 (s1 .nil)))))))) ⟨foll hR (cf h2 rfl), by exact omA, by exact exA⟩ ?_
      clear hR
      rintro out i ⟨hR, hj, hx⟩
      try dsimp only at hR hj hx
      conv => whnf
      refine And.intro (fun h3 => ?_) (fun h4 => ?_)
      · have hlt : i < l.length := by have := of_decide_eq_true h3; omega
        rw [drop_getD Node.zero hlt] at hR
        conv => whnf
        refine And.intro gkA ?_
        conv => whnf
        refine ACalls.use (mv [0, 1] (cl1 (l.getD i Node.zero)) (dO (ds (l1 LowL.nil)) (dO (ds (l1 LowL.nil)) .nil)) (dl (Node.low _ _) (dp (dp .nil))) (rO (re (l1 LowL.nil)) (rO (re (l1 LowL.nil)) .nil)) rx) ?_
        conv => whnf
        refine And.intro (fun h5 => ?_) (fun h6 => ?_)
        · conv => whnf
          refine Or.inl ?_
          conv => whnf
          first | refine ⟨app_ok 8 rfl lnA (by first | (simp; omega) | grind), ?_⟩ | refine ⟨app_nil 8 rfl (by first | (simp; omega) | grind), ?_⟩
          conv => whnf
          exact loop_next2 (out ++ ([(i : Int)] : List Int)) (i + 1) (wk [0, 1, 2] (tO rfl (ts (l1 LowL.nil)) (tO rfl (ts (l1 LowL.nil)) (tO rfl (tl eqA) .nil))) (sv (turn_fn .nil (cv (turn_ptr 0 rfl rfl) (cv (turn_ptr 1 rfl rfl) .nil))) (s1 (sv (to 2 lnA) (sl lw (s1 (sv (turn_eq (I_eq (wr omA)) lx) .nil))))))) omA ⟨foll hR (congrArg (fun p : (List Int) => fleet_where_k1 p) (ct h5 rfl)), by exact omA, by exact exA⟩
        · conv => whnf
          exact loop_next2 out (i + 1) (wk [0, 1, 2] (tO rfl (ts (l1 LowL.nil)) (tO rfl (ts (l1 LowL.nil)) (tO rfl (tl eqA) .nil))) (sv (turn_fn .nil (cv (turn_ptr 0 rfl rfl) (cv (turn_ptr 1 rfl rfl) .nil))) (s1 (sv (to 2 lnA) (sl lw (s1 (sv (turn_eq (I_eq (wr omA)) lx) .nil))))))) omA ⟨foll hR (congrArg (fun p : (List Int) => fleet_where_k1 p) (cf h6 rfl)), by exact omA, by exact exA⟩
      · rw [drop_none (l := l) (j := i) (by have := of_decide_eq_false h4; omega)] at hR
        conv => whnf
        replace hR : fleet_where_k1 out = fleet_where l (fun (y : Node) => ((y.job == job) && (y.state == state))) := fo2 (fun p : (List Int) => fleet_where_k1 p) (out) hR rfl
        refine ACalls.use (AGives.lent (nodeset_Of_c out szA []) (ev (seen_list _ _ rfl eqA lnA) .nil) (.cons lw .nil) (bare2_sound rfl)) ?_
        conv => whnf
        refine ret_moves (fun r : Int => U r) (fun r : Int => [(0, AObj.row 3 1 [[I job]]), (0, AObj.row 3 1 [[I state]])]) (leaf := (nodeset_Of out).1) (foll hR rfl) ?_
        exact tt [0, 1] (tO rfl (ts (l1 LowL.nil)) (tO rfl (ts (l1 LowL.nil)) .nil)) t1
  refine ACalls.use (mv [0, 1] (hof1) (dO (ds (l1 LowL.nil)) (dO (ds (l1 LowL.nil)) .nil)) (dl lw (dv (dn_fn .nil (dp (dp .nil))) .nil)) (rO (re (l1 LowL.nil)) (rO (re (l1 LowL.nil)) .nil)) rx) ?_
  conv => whnf
  obtain rfl := foll hR rfl
  exact ret_seen lx sr

end Go.Proofs.YtoionleakeemlaaGreatDoor
namespace Go.Proofs.YtoionleakeemlaaGreatDoor
set_option linter.unusedSimpArgs false
set_option linter.unusedVariables false
open Go.Fw

set_option maxRecDepth 20000
set_option maxHeartbeats 4000000
attribute [local irreducible] ACalls AMoves


-- F muster/lex.Tokens
def lex_Tokens_g3 (y : Int) : List Int → Nat → Bool
  | [], _ =>
    false
  | x_1 :: r, i =>
    bif ((runes_Class y) == x_1) then
      true
    else
      lex_Tokens_g3 y r (i + 1)

def lex_Tokens_g1 (line : ByteArray) : List (Nat × Int) → LexReader → LexReader
  | [], c =>
    c
  | x_ :: r, c =>
    lex_Tokens_g1 line r { c with line := (c.line ++ ([x_.2] : List Int)) }

def lex_Tokens_g2  : Nat → List Token → LexReader → (List Token) × Int × Int
  | 0, _, _ => ([], 0, 0)
  | m + 1, out, c2 =>
    bif (c2.error == 0) then
      bif ((lex_reader_while c2 (fun (y : Int) => lex_Tokens_g3 y ([1] : List Int) 0)).2.at_ == (((lex_reader_while c2 (fun (y : Int) => lex_Tokens_g3 y ([1] : List Int) 0)).2.line).length : Int)) then
        (out, (((lex_reader_while c2 (fun (y : Int) => lex_Tokens_g3 y ([1] : List Int) 0)).2.line).length : Int), 0)
      else
        lex_Tokens_g2 m (out ++ ([{ (lex_reader_next ((lex_reader_while c2 (fun (y : Int) => lex_Tokens_g3 y ([1] : List Int) 0)).2)).1 with at_ := (lex_reader_while c2 (fun (y : Int) => lex_Tokens_g3 y ([1] : List Int) 0)).2.at_ }] : List Token)) ((lex_reader_next ((lex_reader_while c2 (fun (y : Int) => lex_Tokens_g3 y ([1] : List Int) 0)).2)).2)
    else
      ([], c2.bad, c2.error)

def lex_Tokens_k1 (c : LexReader) : (List Token) × Int × Int :=
  lex_Tokens_g2 ((2 * Int.toNat ((c.line.length : Int) - c.at_) + (bif c.error == 0 then 1 else 0)) + 1) [] c

def lex_Tokens (line : ByteArray) : (List Token) × Int × Int :=
  bif (decide ((ByteArray.size line : Int) > 400)) then
    ([], 0, 3)
  else
    lex_Tokens_k1 (lex_Tokens_g1 line (runeList line) LexReader.zero)

theorem lex_Tokens_c (line : ByteArray) (hs0 : line.size ≤ 4294967296) : ∀ objs, AGives Tryz.prog 192 [Sg line] objs (AVal.tup [tokenL ((lex_Tokens line).1), I ((lex_Tokens line).2.1), I ((lex_Tokens line).2.2)]) := by
  generalize hR : lex_Tokens line = R
  refine AGives.any' (l1 .nil) (Low.tup' (.cons lw (l1 (l1 .nil)))) (ACalls.of_cwp (kp 12 [14, 18, 19, 20, 38, 51]) Tryz.func192 rfl rfl ?_)
  have hk0 := hs0
  obtain z15 : line.size ≤ 4294967296 := hs0
  conv => whnf
  refine And.intro (fun h1 => ?_) (fun h2 => ?_)
  · conv => whnf
    have qh1 := of_decide_eq_true h1
    obtain rfl := foll hR (ct h1 rfl)
    exact ret_seen (Low.tup' (.cons lw (l1 (l1 .nil)))) (Seen.tup (ev (seen_nil) (e1 (e1 .nil))))
  · conv => whnf
    have qh2 := of_decide_eq_false h2
    refine loop_start2 (fun (c : LexReader) (pos : Nat) => ∃ m, ByteArray.size line - pos ≤ m ∧ lex_Tokens_k1 (lex_Tokens_g1 line (strRunes line m pos) c) = R ∧ c.line.length ≤ pos ∧ pos ≤ ByteArray.size line ∧ c.at_ = 0) (fun c pos => ByteArray.size line - pos) (fun c pos => [(2, AVal.lit (.slice none 0 0)), (3, I 0), (4, I 0), (5, AVal.ptr 0 0 4 0 0), (18, AVal.ptr 1 0 1 0 0)]) (fun c pos => [(0, AObj.row 206 4 [[AVal.own 2 0 1 0 c.line.length, I c.at_, I c.bad, I c.error]]), (0, AObj.other (.strIter line pos)), (0, AObj.row 21 1 (c.line.map (fun q_ => [J q_])))]) LexReader.zero 0 ((weaker_none 21 1).trans (wk [0, 1, 2] (tO rfl (turn_row1 (cv (turn_nilown 2 rfl) (c1 (c1 (c1 .nil))))) (tO rfl (.strIter _ _) (tO rfl (tl eqA) .nil))) (s1 (s1 (s1 (sv (turn_ptr 0 rfl rfl) (sv (turn_ptr 1 rfl rfl) .nil))))))) ⟨ByteArray.size line, by first | (have hq := hrd _ (by assumption); omega) | exact omA, foll hR (cf h2 rfl), by first | (have hq := hrd _ (by assumption); exact ⟨hq.2.1.1, hq.2.1.2.1, hq.2.1.2.2, fun hz => by have hq3 := hq.2.2.2 hz; simp only [List.length_append, List.length_cons, List.length_nil]; omega⟩) | first | (refine ⟨by omega, by omega, by omega, fun _ => by simp; omega⟩) | first | (simp [LexReader.zero]; done) | first | (simp; omega) | exact exA⟩ ?_
    clear hR
    rintro c pos ⟨m, hm, hR, hx⟩
    try dsimp only at hR hm hx
    conv => whnf
    refine And.intro (fun h3 => ?_) (fun h4 => ?_)
    · have hlt := of_decide_eq_true h3
      have hw := decode_pos line pos
      have hwe := decode_end line pos hlt
      obtain ⟨m, rfl⟩ : ∃ k, m = k + 1 := ⟨m - 1, by omega⟩
      rw [strRunes_cons h3] at hR
      conv => whnf
      refine And.intro (fun _ => ?_) (fun h => nomatch h)
      conv => whnf
      refine Or.inl ?_
      conv => whnf
      first | refine ⟨app_ok 4 rfl lnA (by first | (simp; omega) | grind), ?_⟩ | refine ⟨app_nil 4 rfl (by first | (simp; omega) | grind), ?_⟩
      conv => whnf
      exact loop_next2 { c with line := (c.line ++ ([(pos, ((Utf8.decode line pos).1 : Int)).2] : List Int)) } (pos + (Utf8.decode line pos).2) (wk [0, 1, 2] (tO rfl (turn_row1 (cv (to 2 lnA) (c1 (c1 (c1 .nil))))) (tO rfl (.strIter _ _) (tO rfl (tl eqA) .nil))) (s1 (s1 (s1 (sv (turn_ptr 0 rfl rfl) (sv (turn_ptr 1 rfl rfl) .nil)))))) (by first | (have hq := hrd _ (by assumption); omega) | exact omA) ⟨m, by first | (have hq := hrd _ (by assumption); omega) | exact omA, foll hR (congrArg (fun p : LexReader => lex_Tokens_k1 p) rfl), by first | (have hq := hrd _ (by assumption); exact ⟨hq.2.1.1, hq.2.1.2.1, hq.2.1.2.2, fun hz => by have hq3 := hq.2.2.2 hz; simp only [List.length_append, List.length_cons, List.length_nil]; omega⟩) | first | (refine ⟨by omega, by omega, by omega, fun _ => by simp; omega⟩) | first | (simp [LexReader.zero]; done) | first | (simp; omega) | exact exA⟩
    · rw [strRunes_nil h4] at hR
      conv => whnf
      refine And.intro (fun h => nomatch h) (fun _ => ?_)
      conv => whnf
      replace hR : lex_Tokens_k1 c = R := fo2 (fun p : LexReader => lex_Tokens_k1 p) (c) hR rfl
      refine Or.inl ?_
      conv => whnf
      refine ACalls.of_cwp (fun _ => true) Tryz.func198 rfl rfl ?_
      conv => whnf
      refine ⟨_, _, Told.refl, ?_⟩
      conv => whnf
      refine loop_start2 (fun (out : List Token) (c2 : LexReader) => ∃ m, (2 * Int.toNat ((c2.line.length : Int) - c2.at_) + (bif c2.error == 0 then 1 else 0)) < m ∧ lex_Tokens_g2 m out c2 = R ∧ 0 ≤ c2.at_ ∧ c2.at_ ≤ (c2.line.length : Int) ∧ c2.line.length ≤ 400 ∧ ((c2.error == 0) = true → (out.length : Int) ≤ c2.at_)) (fun out c2 => (2 * Int.toNat ((c2.line.length : Int) - c2.at_) + (bif c2.error == 0 then 1 else 0))) (fun out c2 => [(2, AVal.lit (.slice none 0 0)), (3, I 0), (4, I 0), (5, AVal.ptr 0 0 4 0 0), (8, AVal.fn (.func 208) [] [AVal.ptr 1 0 1 0 0]), (9, AVal.own 2 0 4 0 out.length)]) (fun out c2 => [(0, AObj.row 206 4 [[runes c2.line, I c2.at_, I c2.bad, I c2.error]]), (0, AObj.row 113 1 [[ints ([1] : List Int)]]), (0, AObj.row 186 4 (out.map Token.cells))]) [] c ((weaker_none 186 4).trans (wk [0, 3, 4] (tO rfl (turn_row1 (cv (turn_listL _ _ rfl (Nat.zero_le _) (by decide) eqA (fun _ => lowL1 rfl) lnA) (c1 (c1 (c1 .nil))))) (tO rfl (turn_row1 (cv (turn_as (as_lits (c := (fun q_ => [I q_])) (d := 0) ([1] : List Int) rfl) lw) .nil)) (tO rfl (tl eqA) .nil))) (s1 (s1 (s1 (sv (turn_ptr 0 rfl rfl) (sv (turn_fn .nil (cv (turn_ptr 1 rfl rfl) .nil)) (sv (turn_nilown 2 rfl) .nil)))))))) ⟨_, Nat.lt_succ_self _, foll hR rfl, by first | (have hq := hrd _ (by assumption); exact ⟨hq.2.1.1, hq.2.1.2.1, hq.2.1.2.2, fun hz => by have hq3 := hq.2.2.2 hz; simp only [List.length_append, List.length_cons, List.length_nil]; omega⟩) | first | (refine ⟨by omega, by omega, by omega, fun _ => by simp; omega⟩) | first | (simp [LexReader.zero]; done) | first | (simp; omega) | exact exA⟩ ?_
      clear hR
      rintro out c2 ⟨m, hm, hR, hx⟩
      try dsimp only at hR hm hx
      obtain ⟨m, rfl⟩ : ∃ k, m = k + 1 := ⟨m - 1, by omega⟩
      conv => whnf
      refine And.intro (fun h5 => ?_) (fun h6 => ?_)
      · conv => whnf
        have hol := hx.2.2.2 h5; have hrd := fun (b : Int → Bool) (hn : ((lex_reader_while c2 b).2.at_ == ((lex_reader_while c2 b).2.line.length : Int)) = false) => lex_round c2 _ b (by omega) (by omega) (by omega) h5 rfl hn
        have cl1 : ∀ (y1 : Int), AMoves Tryz.prog 208 [J y1, AVal.ptr 0 0 1 0 0] [(0, AObj.row 113 1 [[ints ([1] : List Int)]])] 1 (Bo ((fun (y : Int) => lex_Tokens_g3 y ([1] : List Int) 0) y1)) [(0, AObj.row 113 1 [[ints ([1] : List Int)]])] := by
          intro y1
          have hR : (fun (y : Int) => lex_Tokens_g3 y ([1] : List Int) 0) y1 = (fun (y : Int) => lex_Tokens_g3 y ([1] : List Int) 0) y1 := rfl
          refine AMoves.of_cwp (kp 6 [6, 7, 8, 9, 15]) Tryz.func208 rfl rfl rfl ?_
          conv => whnf
          refine loop_start1 (fun (i : Nat) => lex_Tokens_g3 y1 (List.drop i ([1] : List Int)) i = (fun (y : Int) => lex_Tokens_g3 y ([1] : List Int) 0) y1 ∧ i ≤ ([1] : List Int).length) (fun i => ([1] : List Int).length - i) (fun i => [(0, J y1), (3, Bo false), (6, ints ([1] : List Int)), (7, I (([1] : List Int).length : Int)), (8, I (i : Int))]) (fun i => [(0, AObj.row 113 1 [[ints ([1] : List Int)]])]) 0 (wk [0] (tO rfl (ts (lv lw LowL.nil)) .nil) (s1 (s1 (sl lw (s1 (s1 .nil)))))) ⟨foll hR rfl, by exact omA⟩ ?_
          clear hR
          rintro i ⟨hR, hj⟩
          try dsimp only at hR hj
          conv => whnf
          refine And.intro (fun h7 => ?_) (fun h8 => ?_)
          · have hlt : i < ([1] : List Int).length := by have := of_decide_eq_true h7; omega
            rw [drop_getD 0 hlt] at hR
            conv => whnf
            refine And.intro gkA ?_
            conv => whnf
            refine ACalls.use (runes_Class_c y1 _) ?_
            conv => whnf
            refine And.intro (fun h9 => ?_) (fun h10 => ?_)
            · conv => whnf
              refine ret_moves (fun r : Bool => Bo r) (fun _ => [(0, AObj.row 113 1 [[ints ([1] : List Int)]])]) (leaf := true) (foll hR (ct h9 rfl)) ?_
              exact tt [0] (tO rfl (ts (lv lw LowL.nil)) .nil) t1
            · conv => whnf
              exact loop_next1 (i + 1) (wk [0] (tO rfl (ts (lv lw LowL.nil)) .nil) (s1 (s1 (sl lw (s1 (sv (turn_eq (I_eq (wr omA)) lx) .nil)))))) omA ⟨foll hR (cf h10 rfl), by exact omA⟩
          · rw [drop_none (l := ([1] : List Int)) (j := i) (by have := of_decide_eq_false h8; omega)] at hR
            conv => whnf
            refine ret_moves (fun r : Bool => Bo r) (fun _ => [(0, AObj.row 113 1 [[ints ([1] : List Int)]])]) (leaf := false) (foll hR rfl) ?_
            exact tt [0] (tO rfl (ts (lv lw LowL.nil)) .nil) t1
        have hof1 : AMoves Tryz.prog 199 [AVal.ptr 0 0 4 0 0, AVal.fn (.func 208) [] [AVal.ptr 1 0 1 0 0]] [(0, AObj.row 206 4 [[runes c2.line, I c2.at_, I c2.bad, I c2.error]]), (0, AObj.row 113 1 [[ints ([1] : List Int)]])] 2 (Sg ((lex_reader_while c2 (fun (y : Int) => lex_Tokens_g3 y ([1] : List Int) 0)).1)) [(0, AObj.row 206 4 [[runes (((lex_reader_while c2 (fun (y : Int) => lex_Tokens_g3 y ([1] : List Int) 0)).2).line), I (((lex_reader_while c2 (fun (y : Int) => lex_Tokens_g3 y ([1] : List Int) 0)).2).at_), I (((lex_reader_while c2 (fun (y : Int) => lex_Tokens_g3 y ([1] : List Int) 0)).2).bad), I (((lex_reader_while c2 (fun (y : Int) => lex_Tokens_g3 y ([1] : List Int) 0)).2).error)]]), (0, AObj.row 113 1 [[ints ([1] : List Int)]])] := by
          have hR : lex_reader_while c2 (fun (y : Int) => lex_Tokens_g3 y ([1] : List Int) 0) = lex_reader_while c2 (fun (y : Int) => lex_Tokens_g3 y ([1] : List Int) 0) := rfl
          refine AMoves.of_cwp (kp 6 [33]) Tryz.func199 rfl rfl rfl ?_
          conv => whnf
          refine loop_start1 (fun (c3 : LexReader) => ∃ m, (Int.toNat ((c3.line.length : Int) - c3.at_)) < m ∧ lex_reader_while_k1 c2 (lex_reader_while_g1 (fun (y : Int) => lex_Tokens_g3 y ([1] : List Int) 0) m c3) = lex_reader_while c2 (fun (y : Int) => lex_Tokens_g3 y ([1] : List Int) 0) ∧ 0 ≤ c3.at_ ∧ c3.at_ ≤ (c3.line.length : Int) ∧ c3.line.length ≤ 400 ∧ c2.at_ ≤ c3.at_ ∧ 0 ≤ c2.at_) (fun c3 => (Int.toNat ((c3.line.length : Int) - c3.at_))) (fun c3 => [(0, AVal.ptr 0 0 4 0 0), (1, AVal.fn (.func 208) [] [AVal.ptr 1 0 1 0 0]), (4, Sg ⟨#[]⟩), (5, I c2.at_)]) (fun c3 => [(0, AObj.row 206 4 [[runes c3.line, I c3.at_, I c3.bad, I c3.error]]), (0, AObj.row 113 1 [[ints ([1] : List Int)]])]) c2 (wk [0, 1] (tO rfl (ts LexReader.lo) (tO rfl (ts (lv lw LowL.nil)) .nil)) (sv (turn_ptr 0 rfl rfl) (sv (turn_fn .nil (cv (turn_ptr 1 rfl rfl) .nil)) (s1 (s1 .nil))))) ⟨_, Nat.lt_succ_self _, foll hR rfl, by exact exA⟩ ?_
          clear hR
          rintro c3 ⟨m, hm, hR, hx⟩
          try dsimp only at hR hm hx
          obtain ⟨m, rfl⟩ : ∃ k, m = k + 1 := ⟨m - 1, by omega⟩
          conv => whnf
          refine dchk (by kernel_rfl) ?_
          conv => whnf
          refine And.intro gkA ?_
          conv => whnf
          (first | apply u2 | apply u3 | apply u4 | apply ACalls.use); exact mv [1] (cl1 (c3.line.getD (Int.toNat c3.at_) 0)) (dO (ds (lv lw LowL.nil)) .nil) (d1 (dp .nil)) (rO (re (lv lw LowL.nil)) .nil) rx
          conv => whnf
          repeat ((first | refine And.intro rfl ?_ | refine And.intro (fun _ => rfl) ?_); conv => whnf)
          refine And.intro (fun h11 => ?_) (fun h12 => ?_)
          · conv => whnf
            have hq1 := of_decide_eq_true ((Bool.and_eq_true _ _).mp h11).1; have hwr : w64 (c3.at_ + 1) = c3.at_ + 1 := wr (by omega)
            exact loop_next1 { c3 with at_ := (w64 (c3.at_ + 1)) } (wk [0, 1] (tO rfl (ts LexReader.lo) (tO rfl (ts (lv lw LowL.nil)) .nil)) (sv (turn_ptr 0 rfl rfl) (sv (turn_fn .nil (cv (turn_ptr 1 rfl rfl) .nil)) (s1 (s1 .nil))))) omA ⟨m, by exact omA, foll hR (congrArg (fun p : LexReader => lex_reader_while_k1 c2 p) (ct h11 rfl)), by exact exA⟩
          · conv => whnf
            replace hR : lex_reader_while_k1 c2 c3 = lex_reader_while c2 (fun (y : Int) => lex_Tokens_g3 y ([1] : List Int) 0) := fo2 (fun p : LexReader => lex_reader_while_k1 c2 p) (c3) hR (cf h12 rfl)
            refine dchk (by kernel_rfl) ?_
            conv => whnf
            refine And.intro gkA ?_
            conv => whnf
            first | refine ⟨(List.drop (Int.toNat c2.at_) (List.take (Int.toNat c3.at_) c3.line)), by exact cvA, ?_⟩ | refine ⟨_, fun _ => ⟨(List.drop (Int.toNat c2.at_) (List.take (Int.toNat c3.at_) c3.line)), by exact cvA, rfl, rfl⟩, ?_⟩ | refine ⟨_, rfl, ⟨(List.drop (Int.toNat c2.at_) (List.take (Int.toNat c3.at_) c3.line)), by exact cvA, Sub.refl _, rfl⟩, ?_⟩
            conv => whnf
            repeat ((first | refine And.intro rfl ?_ | refine And.intro (fun _ => rfl) ?_); conv => whnf)
            refine ret_moves (fun r : ByteArray × LexReader => Sg r.1) (fun r : ByteArray × LexReader => [(0, AObj.row 206 4 [[runes r.2.line, I r.2.at_, I r.2.bad, I r.2.error]]), (0, AObj.row 113 1 [[ints ([1] : List Int)]])]) (leaf := ((runesBytes (List.drop (Int.toNat c2.at_) (List.take (Int.toNat c3.at_) c3.line))), c3)) (foll hR rfl) ?_
            exact tt [0, 1] (tO rfl (ts LexReader.lo) (tO rfl (ts (lv lw LowL.nil)) .nil)) t1
        refine ACalls.use (mv [0, 1] (hof1) (dO (ds LexReader.lo) (dO (ds (lv lw LowL.nil)) .nil)) (dp (dv (dn_fn .nil (dp .nil)) .nil)) (rO (re LexReader.lo) (rO (re (lv lw LowL.nil)) .nil)) rx) ?_
        conv => whnf
        refine dchk (by kernel_rfl) ?_
        conv => whnf
        repeat ((first | refine And.intro rfl ?_ | refine And.intro (fun _ => rfl) ?_); conv => whnf)
        refine And.intro (fun h13 => ?_) (fun h14 => ?_)
        · conv => whnf
          refine dchk (by kernel_rfl) ?_
          conv => whnf
          repeat ((first | refine And.intro rfl ?_ | refine And.intro (fun _ => rfl) ?_); conv => whnf)
          obtain rfl := foll hR (ct h5 (ct h13 rfl))
          exact ret_seen (Low.tup' (.cons lw (l1 (l1 .nil)))) (Seen.tup (ev (seen_list Token.zero _ rfl eqA lnA) (e1 (e1 .nil))))
        · conv => whnf
          refine ACalls.use (mv [0] (lex_reader_next_c ((lex_reader_while c2 (fun (y : Int) => lex_Tokens_g3 y ([1] : List Int) 0)).2) (by first | (exact Nat.le_trans (hrd _ (by assumption)).1.2.2 (by decide)) | exact szA) (by exact (hrd _ (by assumption)).1)) (dO (ds LexReader.lo) .nil) (dp .nil) (rO (re LexReader.lo) .nil) (Ren.low _ (Low.agg' (Token.lo)))) ?_
          conv => whnf
          refine Or.inl ?_
          conv => whnf
          first | refine ⟨app_ok 40 rfl lnA (by first | (simp; omega) | grind), ?_⟩ | refine ⟨app_nil 40 rfl (by first | (simp; omega) | grind), ?_⟩
          conv => whnf
          exact loop_next2 (out ++ ([{ (lex_reader_next ((lex_reader_while c2 (fun (y : Int) => lex_Tokens_g3 y ([1] : List Int) 0)).2)).1 with at_ := (lex_reader_while c2 (fun (y : Int) => lex_Tokens_g3 y ([1] : List Int) 0)).2.at_ }] : List Token)) ((lex_reader_next ((lex_reader_while c2 (fun (y : Int) => lex_Tokens_g3 y ([1] : List Int) 0)).2)).2) (wk [0, 1, 2] (tO rfl (ts LexReader.lo) (tO rfl (ts (lv lw LowL.nil)) (tO rfl (tl eqA) .nil))) (s1 (s1 (s1 (sv (turn_ptr 0 rfl rfl) (sv (turn_fn .nil (cv (turn_ptr 1 rfl rfl) .nil)) (sv (to 2 lnA) .nil))))))) (by first | (have hq := hrd _ (by assumption); omega) | exact omA) ⟨m, by first | (have hq := hrd _ (by assumption); omega) | exact omA, foll hR (ct h5 (cf h14 rfl)), by first | (have hq := hrd _ (by assumption); exact ⟨hq.2.1.1, hq.2.1.2.1, hq.2.1.2.2, fun hz => by have hq3 := hq.2.2.2 hz; simp only [List.length_append, List.length_cons, List.length_nil]; omega⟩) | first | (refine ⟨by omega, by omega, by omega, fun _ => by simp; omega⟩) | first | (simp [LexReader.zero]; done) | first | (simp; omega) | exact exA⟩
      · conv => whnf
        refine dchk (by kernel_rfl) ?_
        conv => whnf
        repeat ((first | refine And.intro rfl ?_ | refine And.intro (fun _ => rfl) ?_); conv => whnf)
        obtain rfl := foll hR (cf h6 rfl)
        exact ret_seen (Low.tup' (.cons lw (l1 (l1 .nil)))) (Seen.tup (ev (seen_nil) (e1 (e1 .nil))))

-- F (muster/job.view).queued
def job_view_queued (v : Job) : Bool :=
  ((((v.start == 0) && (v.limit == 0)) && (v.nodes == 0)) && (((v.promise == (-1)) && (v.choice == 0)) || (((job_tick v.promise) && (job_view_option v v.choice).2) && (!v.held))))

theorem job_view_queued_c (v : Job) (hs0 : v.sz) : ∀ objs, AGives Tryz.prog 145 [Job.a v] objs (Bo (job_view_queued v)) := by
  generalize hR : job_view_queued v = R
  refine AGives.any' (.cons (Job.low _ _) .nil) lx (ACalls.of_cwp (kp 6 []) Tryz.func145 rfl rfl ?_)
  have hk0 := hs0
  obtain ⟨z1, z2, z3, z4, z5⟩ : v.name.size ≤ 4294967296 ∧ v.user.size ≤ 4294967296 ∧ v.account.size ≤ 4294967296 ∧ (v.shape.alts.length ≤ 4294967296) ∧ v.after.length ≤ 4294967296 := hs0
  conv => whnf
  refine ACalls.use (job_view_option_c v v.choice szA _) ?_
  conv => whnf
  (first | apply u2 | apply u3 | apply u4 | apply ACalls.use); exact job_tick_c v.promise _
  conv => whnf
  obtain rfl := foll hR rfl
  exact ret_seen lx sr

-- F (muster/job.view).running
def job_view_running (v : Job) : Bool :=
  bif (((((((!(job_view_option v v.choice).2) || v.held) || (!(job_tick v.start))) || (!(job_tick v.promise))) || (decide (v.promise < v.start))) || (!(job_tick v.limit))) || ((w64 (v.limit - v.start)) != (job_view_option v v.choice).1.wall)) then
    false
  else
    ((job_nodes v.nodes) && (shape_Allows v.shape v.choice (nodeset_Count v.nodes)))

theorem job_view_running_c (v : Job) (hs0 : v.sz) : ∀ objs, AGives Tryz.prog 146 [Job.a v] objs (Bo (job_view_running v)) := by
  generalize hR : job_view_running v = R
  refine AGives.any' (.cons (Job.low _ _) .nil) lx (ACalls.of_cwp (kp 5 [61]) Tryz.func146 rfl rfl ?_)
  have hk0 := hs0
  obtain ⟨z3, z4, z5, z6, z7⟩ : v.name.size ≤ 4294967296 ∧ v.user.size ≤ 4294967296 ∧ v.account.size ≤ 4294967296 ∧ (v.shape.alts.length ≤ 4294967296) ∧ v.after.length ≤ 4294967296 := hs0
  conv => whnf
  refine ACalls.use (job_view_option_c v v.choice szA _) ?_
  conv => whnf
  (first | apply u2 | apply u3 | apply u4 | apply ACalls.use); exact job_tick_c v.start _
  conv => whnf
  (first | apply u2 | apply u3 | apply u4 | apply ACalls.use); exact job_tick_c v.promise _
  conv => whnf
  (first | apply u2 | apply u3 | apply u4 | apply ACalls.use); exact job_tick_c v.limit _
  conv => whnf
  refine And.intro (fun h1 => ?_) (fun h2 => ?_)
  · conv => whnf
    obtain rfl := foll hR (ct h1 rfl)
    exact ret_seen lx sr
  · conv => whnf
    refine dchk (by kernel_rfl) ?_
    conv => whnf
    (first | apply u2 | apply u3 | apply u4 | apply ACalls.use); exact job_nodes_c v.nodes _
    conv => whnf
    (first | apply u2 | apply u3 | apply u4 | apply ACalls.use); exact nodeset_Count_c v.nodes _
    conv => whnf
    (first | apply u2 | apply u3 | apply u4 | apply ACalls.use); exact shape_Allows_c v.shape v.choice (nodeset_Count v.nodes) szA _
    conv => whnf
    repeat ((first | refine And.intro rfl ?_ | refine And.intro (fun _ => rfl) ?_ | refine And.intro (fun _ => job_nodes_c v.nodes _) ?_ | refine And.intro (fun _ => nodeset_Count_c v.nodes _) ?_ | refine And.intro (fun _ => shape_Allows_c v.shape v.choice (nodeset_Count v.nodes) szA _) ?_); conv => whnf)
    obtain rfl := foll hR (cf h2 rfl)
    exact ret_seen lx sr

-- F muster/state.resize
def state_resize_k1 (s : State) (r_ : Resize) (j : Job) (c : Int) : Bool :=
  bif (((state_where s (fun (y : Int) (y1 : Node) => ((y1.job == r_.job) && (y1.want == c)))) != (wu64 (BitVec.ofInt 64 r_.nodes &&& ~~~(BitVec.ofInt 64 r_.said)).toNat)) || (!(alloc_Quiet s.nodes r_.said))) then
    false
  else
    bif r_.grow then
      ((r_.nodes == (fleet_Of s.nodes r_.job 2)) && (decide ((w64 ((nodeset_Count j.nodes) + (nodeset_Count r_.nodes))) ≤ j.shape.max)))
    else
      (((wu64 (BitVec.ofInt 64 r_.nodes &&& ~~~(BitVec.ofInt 64 j.nodes)).toNat) == 0) && (decide ((w64 ((nodeset_Count j.nodes) - (nodeset_Count r_.nodes))) ≥ j.shape.min)))

def state_resize (s : State) (r_ : Resize) (j : Job) : Bool :=
  bif (((((j.shape.kind != 3) || (r_.nodes == 0)) || ((wu64 (BitVec.ofInt 64 r_.said &&& ~~~(BitVec.ofInt 64 r_.nodes)).toNat) != 0)) || (decide (r_.since < 0))) || (decide (r_.since > 1000000))) then
    false
  else
    bif r_.grow then
      state_resize_k1 s r_ j 2
    else
      state_resize_k1 s r_ j 4

theorem state_resize_c (s : State) (r_ : Resize) (j : Job) (hs0 : s.sz) (hs1 : j.sz) : ∀ objs, AGives Tryz.prog 72 [State.a s, Resize.a r_, Job.a j] objs (Bo (state_resize s r_ j)) := by
  generalize hR : state_resize s r_ j = R
  refine AGives.any' (.cons (State.low _ _) (.cons (Resize.low _ _) (.cons (Job.low _ _) .nil))) lx (ACalls.of_cwp (kj [1000006] 11 [37, 39, 57, 65]) Tryz.func72 rfl rfl ?_)
  have hk0 := hs0
  obtain ⟨z13, z14, z15, z16, z17, z18, z19⟩ : s.nodes.length ≤ 4294967296 ∧ s.jobs.length ≤ 4294967296 ∧ (∀ y ∈ s.jobs, y.sz) ∧ s.resizes.length ≤ 4294967296 ∧ s.books.length ≤ 4294967296 ∧ s.ledger.length ≤ 4294967296 ∧ (∀ y ∈ s.ledger, y.sz) := hs0
  have hk1 := hs1
  obtain ⟨z20, z21, z22, z23, z24⟩ : j.name.size ≤ 4294967296 ∧ j.user.size ≤ 4294967296 ∧ j.account.size ≤ 4294967296 ∧ (j.shape.alts.length ≤ 4294967296) ∧ j.after.length ≤ 4294967296 := hs1
  conv => whnf
  refine And.intro (fun h1 => ?_) (fun h2 => ?_)
  · conv => whnf
    obtain rfl := foll hR (ct h1 rfl)
    exact ret_seen lx sr
  · conv => whnf
    refine join_start1 (fun (c : Int) => state_resize_k1 s r_ j c = R) (fun c => [(3, AVal.ptr 0 0 8 0 0), (4, AVal.ptr 1 0 5 0 0), (5, AVal.ptr 2 0 20 0 0), (6, Bo false), (7, AVal.ptr 3 0 1 0 0)]) (fun c => [(0, AObj.row 28 8 [[I s.now, nodeL s.nodes, jobL s.jobs, resizeL s.resizes, bookL s.books, usageL s.ledger, I s.nextJob, I s.nextBook]]), (0, AObj.row 38 5 [[I r_.job, Bo r_.grow, U r_.nodes, U r_.said, I r_.since]]), (0, AObj.row 54 20 [[I j.id, Sg j.name, Sg j.user, Sg j.account, I j.shape.kind, altL j.shape.alts, I j.shape.min, I j.shape.max, I j.shape.wall, I j.prio, depL j.after, I j.state, Bo j.held, I j.born, I j.promise, I j.choice, I j.start, I j.limit, U j.nodes, I j.used]]), (0, AObj.row 3 1 [[I c]])]) ?_ ?_
    · clear hR
      rintro c hR
      try dsimp only at hR
      conv => whnf
      have cl1 : ∀ (y1 : Int) (y2 : Node), AMoves Tryz.prog 104 [I y1, Node.a y2, AVal.ptr 0 0 5 0 0, AVal.ptr 1 0 1 0 0] [(0, AObj.row 38 5 [[I r_.job, Bo r_.grow, U r_.nodes, U r_.said, I r_.since]]), (0, AObj.row 3 1 [[I c]])] 2 (Bo ((fun (y : Int) (y1 : Node) => ((y1.job == r_.job) && (y1.want == c))) y1 y2)) [(0, AObj.row 38 5 [[I r_.job, Bo r_.grow, U r_.nodes, U r_.said, I r_.since]]), (0, AObj.row 3 1 [[I c]])] := by
        intro y1 y2
        have hR : (fun (y : Int) (y1 : Node) => ((y1.job == r_.job) && (y1.want == c))) y1 y2 = (fun (y : Int) (y1 : Node) => ((y1.job == r_.job) && (y1.want == c))) y1 y2 := rfl
        refine AMoves.of_cwp (kp 7 []) Tryz.func104 rfl rfl rfl ?_
        conv => whnf
        refine ret_moves (fun r : Bool => Bo r) (fun _ => [(0, AObj.row 38 5 [[I r_.job, Bo r_.grow, U r_.nodes, U r_.said, I r_.since]]), (0, AObj.row 3 1 [[I c]])]) (leaf := ((y2.job == r_.job) && (y2.want == c))) (foll hR rfl) ?_
        exact tt [0, 1] (tO rfl (ts Resize.lo) (tO rfl (ts (l1 LowL.nil)) .nil)) t1
      have hof1 : AMoves Tryz.prog 103 [State.a s, AVal.fn (.func 104) [] [AVal.ptr 0 0 5 0 0, AVal.ptr 1 0 1 0 0]] [(0, AObj.row 38 5 [[I r_.job, Bo r_.grow, U r_.nodes, U r_.said, I r_.since]]), (0, AObj.row 3 1 [[I c]])] 2 (U (state_where s (fun (y : Int) (y1 : Node) => ((y1.job == r_.job) && (y1.want == c))))) [(0, AObj.row 38 5 [[I r_.job, Bo r_.grow, U r_.nodes, U r_.said, I r_.since]]), (0, AObj.row 3 1 [[I c]])] := by
        have hR : state_where s (fun (y : Int) (y1 : Node) => ((y1.job == r_.job) && (y1.want == c))) = state_where s (fun (y : Int) (y1 : Node) => ((y1.job == r_.job) && (y1.want == c))) := rfl
        refine AMoves.of_cwp (kp 10 [11, 12, 13, 14, 21]) Tryz.func103 rfl rfl rfl ?_
        conv => whnf
        refine loop_start2 (fun (l : List Int) (i : Nat) => state_where_k1 (state_where_g1 (fun (y : Int) (y1 : Node) => ((y1.job == r_.job) && (y1.want == c))) (List.drop i s.nodes) l i) = state_where s (fun (y : Int) (y1 : Node) => ((y1.job == r_.job) && (y1.want == c))) ∧ i ≤ s.nodes.length ∧ l.length ≤ i) (fun l i => s.nodes.length - i) (fun l i => [(1, AVal.fn (.func 104) [] [AVal.ptr 0 0 5 0 0, AVal.ptr 1 0 1 0 0]), (4, U 0), (5, AVal.own 2 0 1 0 l.length), (11, nodeL s.nodes), (12, I (s.nodes.length : Int)), (13, I (i : Int))]) (fun l i => [(0, AObj.row 38 5 [[I r_.job, Bo r_.grow, U r_.nodes, U r_.said, I r_.since]]), (0, AObj.row 3 1 [[I c]]), (0, AObj.row 3 1 (l.map (fun q_ => [I q_])))]) [] 0 ((weaker_none 3 1).trans (wk [0, 1, 3] (tO rfl (ts Resize.lo) (tO rfl (ts (l1 LowL.nil)) (tO rfl (tl eqA) .nil))) (sv (turn_fn .nil (cv (turn_ptr 0 rfl rfl) (cv (turn_ptr 1 rfl rfl) .nil))) (s1 (sv (turn_nilown 2 rfl) (sl lw (s1 (s1 .nil)))))))) ⟨foll hR rfl, by exact omA, by exact exA⟩ ?_
        clear hR
        rintro l i ⟨hR, hj, hx⟩
        try dsimp only at hR hj hx
        conv => whnf
        refine And.intro (fun h3 => ?_) (fun h4 => ?_)
        · have hlt : i < s.nodes.length := by have := of_decide_eq_true h3; omega
          rw [drop_getD Node.zero hlt] at hR
          conv => whnf
          refine And.intro gkA ?_
          conv => whnf
          refine ACalls.use (mv [0, 1] (cl1 (i : Int) (s.nodes.getD i Node.zero)) (dO (ds Resize.lo) (dO (ds (l1 LowL.nil)) .nil)) (d1 (dl (Node.low _ _) (dp (dp .nil)))) (rO (re Resize.lo) (rO (re (l1 LowL.nil)) .nil)) rx) ?_
          conv => whnf
          refine And.intro (fun h5 => ?_) (fun h6 => ?_)
          · conv => whnf
            refine Or.inl ?_
            conv => whnf
            first | refine ⟨app_ok 8 rfl lnA (by first | (simp; omega) | grind), ?_⟩ | refine ⟨app_nil 8 rfl (by first | (simp; omega) | grind), ?_⟩
            conv => whnf
            exact loop_next2 (l ++ ([(i : Int)] : List Int)) (i + 1) (wk [0, 1, 2] (tO rfl (ts Resize.lo) (tO rfl (ts (l1 LowL.nil)) (tO rfl (tl eqA) .nil))) (sv (turn_fn .nil (cv (turn_ptr 0 rfl rfl) (cv (turn_ptr 1 rfl rfl) .nil))) (s1 (sv (to 2 lnA) (sl lw (s1 (sv (turn_eq (I_eq (wr omA)) lx) .nil))))))) omA ⟨foll hR (congrArg (fun p : (List Int) => state_where_k1 p) (ct h5 rfl)), by exact omA, by exact exA⟩
          · conv => whnf
            exact loop_next2 l (i + 1) (wk [0, 1, 2] (tO rfl (ts Resize.lo) (tO rfl (ts (l1 LowL.nil)) (tO rfl (tl eqA) .nil))) (sv (turn_fn .nil (cv (turn_ptr 0 rfl rfl) (cv (turn_ptr 1 rfl rfl) .nil))) (s1 (sv (to 2 lnA) (sl lw (s1 (sv (turn_eq (I_eq (wr omA)) lx) .nil))))))) omA ⟨foll hR (congrArg (fun p : (List Int) => state_where_k1 p) (cf h6 rfl)), by exact omA, by exact exA⟩
        · rw [drop_none (l := s.nodes) (j := i) (by have := of_decide_eq_false h4; omega)] at hR
          conv => whnf
          replace hR : state_where_k1 l = state_where s (fun (y : Int) (y1 : Node) => ((y1.job == r_.job) && (y1.want == c))) := fo2 (fun p : (List Int) => state_where_k1 p) (l) hR rfl
          refine ACalls.use (AGives.lent (nodeset_Of_c l szA []) (ev (seen_list _ _ rfl eqA lnA) .nil) (.cons lw .nil) (bare2_sound rfl)) ?_
          conv => whnf
          refine ret_moves (fun r : Int => U r) (fun r : Int => [(0, AObj.row 38 5 [[I r_.job, Bo r_.grow, U r_.nodes, U r_.said, I r_.since]]), (0, AObj.row 3 1 [[I c]])]) (leaf := (nodeset_Of l).1) (foll hR rfl) ?_
          exact tt [0, 1] (tO rfl (ts Resize.lo) (tO rfl (ts (l1 LowL.nil)) .nil)) t1
      refine ACalls.use (mv [1, 3] (hof1) (dO (ds Resize.lo) (dO (ds (l1 LowL.nil)) .nil)) (dv (dn_low (Low.agg' (State.lo))) (dv (dn_fn .nil (dp (dp .nil))) .nil)) (rO (re Resize.lo) (rO (re (l1 LowL.nil)) .nil)) rx) ?_
      conv => whnf
      (first | apply u2 | apply u3 | apply u4 | apply ACalls.use); exact alloc_Quiet_c s.nodes r_.said szA _
      conv => whnf
      refine And.intro (fun h7 => ?_) (fun h8 => ?_)
      · conv => whnf
        obtain rfl := foll hR (ct h7 rfl)
        exact ret_seen lx sr
      · conv => whnf
        refine dchk (by kernel_rfl) ?_
        conv => whnf
        (first | apply u2 | apply u3 | apply u4 | apply ACalls.use); exact nodeset_Count_c j.nodes _
        conv => whnf
        (first | apply u2 | apply u3 | apply u4 | apply ACalls.use); exact nodeset_Count_c r_.nodes _
        conv => whnf
        repeat ((first | refine And.intro rfl ?_ | refine And.intro (fun _ => rfl) ?_ | refine And.intro (fun _ => nodeset_Count_c j.nodes _) ?_ | refine And.intro (fun _ => nodeset_Count_c r_.nodes _) ?_); conv => whnf)
        refine And.intro (fun h9 => ?_) (fun h10 => ?_)
        · conv => whnf
          refine dchk (by kernel_rfl) ?_
          conv => whnf
          (first | apply u2 | apply u3 | apply u4 | apply ACalls.use); exact fleet_Of_c s.nodes r_.job 2 szA _
          conv => whnf
          repeat ((first | refine And.intro rfl ?_ | refine And.intro (fun _ => rfl) ?_ | refine And.intro (fun _ => fleet_Of_c s.nodes r_.job 2 szA _) ?_); conv => whnf)
          obtain rfl := foll hR (cf h8 (ct h9 rfl))
          exact ret_seen lx sr
        · conv => whnf
          obtain rfl := foll hR (cf h8 (cf h10 rfl))
          exact ret_seen lx sr
    · conv => whnf
      refine And.intro (fun h11 => ?_) (fun h12 => ?_)
      · conv => whnf
        exact join_here1 2 (wk [0, 1, 2, 3] (tO rfl (ts State.lo) (tO rfl (ts Resize.lo) (tO rfl (ts Job.lo) (tO rfl (ts (l1 LowL.nil)) .nil)))) (sv (turn_ptr 0 rfl rfl) (sv (turn_ptr 1 rfl rfl) (sv (turn_ptr 2 rfl rfl) (s1 (sv (turn_ptr 3 rfl rfl) .nil)))))) (foll hR (cf h2 (ct h11 rfl)))
      · conv => whnf
        exact join_here1 4 (wk [0, 1, 2, 3] (tO rfl (ts State.lo) (tO rfl (ts Resize.lo) (tO rfl (ts Job.lo) (tO rfl (ts (l1 LowL.nil)) .nil)))) (sv (turn_ptr 0 rfl rfl) (sv (turn_ptr 1 rfl rfl) (sv (turn_ptr 2 rfl rfl) (s1 (sv (turn_ptr 3 rfl rfl) .nil)))))) (foll hR (cf h2 (cf h12 rfl)))

-- F muster/alloc.Held
def alloc_Held (l : List Node) (job : Int) : Int :=
  bif (decide (job < 1)) then
    0
  else
    (fleet_Of l job 1)

theorem alloc_Held_c (l : List Node) (job : Int) (hs0 : l.length ≤ 4294967296) : ∀ objs, AGives Tryz.prog 39 [nodeL l, I job] objs (U (alloc_Held l job)) := by
  generalize hR : alloc_Held l job = R
  refine AGives.any' (.cons lw (l1 .nil)) lx (ACalls.of_cwp (kp 5 [6]) Tryz.func39 rfl rfl ?_)
  have hk0 := hs0
  obtain z3 : l.length ≤ 4294967296 := hs0
  conv => whnf
  refine And.intro (fun h1 => ?_) (fun h2 => ?_)
  · conv => whnf
    have qh1 := of_decide_eq_true h1
    obtain rfl := foll hR (ct h1 rfl)
    exact ret_seen lx sr
  · conv => whnf
    have qh2 := of_decide_eq_false h2
    refine ACalls.use (fleet_Of_c l job 1 szA _) ?_
    conv => whnf
    obtain rfl := foll hR (cf h2 rfl)
    exact ret_seen lx sr

end Go.Proofs.YtoionleakeemlaaGreatDoor
namespace Go.Proofs.YtoionleakeemlaaGreatDoor
set_option linter.unusedSimpArgs false
set_option linter.unusedVariables false
open Go.Fw

set_option maxRecDepth 20000
set_option maxHeartbeats 4000000
attribute [local irreducible] ACalls AMoves


-- F muster/cmd.word
def cmd_word (s : ByteArray) : Bool :=
  bif ((((lex_Tokens s).2.2 != 0) || ((((lex_Tokens s).1).length : Int) != 1)) || (!(((((lex_Tokens s).1).getD 0 Token.zero).kind == 1) && (((((lex_Tokens s).1).getD 0 Token.zero).text == s) && (((((lex_Tokens s).1).getD 0 Token.zero).num == 0) && ((((lex_Tokens s).1).getD 0 Token.zero).at_ == 0)))))) then
    false
  else
    true

theorem cmd_word_c (s : ByteArray) (hs0 : s.size ≤ 4294967296) : ∀ objs, AGives Tryz.prog 177 [Sg s] objs (Bo (cmd_word s)) := by
  generalize hR : cmd_word s = R
  refine AGives.any' (l1 .nil) lx (ACalls.of_cwp (kp 3 []) Tryz.func177 rfl rfl ?_)
  have hk0 := hs0
  obtain z3 : s.size ≤ 4294967296 := hs0
  conv => whnf
  refine ACalls.of_cwp (fun _ => true) Tryz.func186 rfl rfl ?_
  conv => whnf
  refine ACalls.of_cwp (fun _ => true) Tryz.func193 rfl rfl ?_
  conv => whnf
  refine And.intro (fun h => nomatch h) (fun _ => ?_)
  conv => whnf
  refine And.intro (fun h => nomatch h) (fun _ => ?_)
  conv => whnf
  refine ⟨_, _, Told.refl, ?_⟩
  conv => whnf
  refine ACalls.use (lex_Tokens_c s szA _) ?_
  conv => whnf
  refine dchk (by kernel_rfl) ?_
  conv => whnf
  refine And.intro gkA ?_
  conv => whnf
  refine And.intro (fun _ => (by kernel_rfl : eqOK _ _ = true)) ?_
  conv => whnf
  repeat ((first | refine And.intro rfl ?_ | refine And.intro (fun _ => rfl) ?_); conv => whnf)
  refine And.intro (fun h1 => ?_) (fun h2 => ?_)
  · conv => whnf
    refine ⟨_, _, Told.refl, ?_⟩
    conv => whnf
    obtain rfl := foll hR (ct h1 rfl)
    exact ret_seen lx sr
  · conv => whnf
    refine ⟨_, _, Told.refl, ?_⟩
    conv => whnf
    obtain rfl := foll hR (cf h2 rfl)
    exact ret_seen lx sr

end Go.Proofs.YtoionleakeemlaaGreatDoor
namespace Go.Proofs.YtoionleakeemlaaGreatDoor
set_option linter.unusedSimpArgs false
set_option linter.unusedVariables false
open Go.Fw

set_option maxRecDepth 20000
set_option maxHeartbeats 4000000
attribute [local irreducible] ACalls AMoves


-- F muster/cmd.fits
def cmd_fits_k2 (c : Cmd) (i1 : Bool) : Bool :=
  bif i1 then
    (cmd_within c.node 0 47)
  else
    bif (c.kind == 10) then
      (((cmd_within c.from_ 0 1000000) && c.hasTime) && (cmd_within c.nodes 1 48))
    else
      ((c.kind == 12) && (cmd_within c.job 0 99999))

def cmd_fits_k1 (c : Cmd) (i : Bool) : Bool :=
  bif i then
    (cmd_id c.job)
  else
    bif (c.kind == 5) then
      ((cmd_id c.job) && (c.hasPrio || c.hasTime))
    else
      bif (c.kind == 6) then
        ((cmd_id c.job) && (cmd_within c.nodes 1 48))
      else
        bif (c.kind == 7) then
          cmd_fits_k2 c (c.kind == 7)
        else
          bif (c.kind == 8) then
            cmd_fits_k2 c (c.kind == 8)
          else
            cmd_fits_k2 c (c.kind == 9)

def cmd_fits (c : Cmd) : Bool :=
  bif ((((c.hasPrio && (!(cmd_within c.prio 0 100))) || (c.hasTime && (!(cmd_length c.time)))) || ((!c.hasPrio) && (c.prio != 0))) || ((!c.hasTime) && (c.time != 0))) then
    false
  else
    bif (c.kind == 1) then
      (((((((cmd_name c.name) && (cmd_name c.user)) && (cmd_name c.account)) && (cmd_word c.user)) && (cmd_word c.account)) && (cmd_deps c.after)) && ((shape_Check c.shape) == 0))
    else
      bif (c.kind == 2) then
        cmd_fits_k1 c (c.kind == 2)
      else
        bif (c.kind == 3) then
          cmd_fits_k1 c (c.kind == 3)
        else
          bif (c.kind == 4) then
            cmd_fits_k1 c (c.kind == 4)
          else
            cmd_fits_k1 c (c.kind == 11)

theorem cmd_fits_c (c : Cmd) (hs0 : c.sz) : ∀ objs, AGives Tryz.prog 157 [Cmd.a c] objs (Bo (cmd_fits c)) := by
  generalize hR : cmd_fits c = R
  refine AGives.any' (.cons (Cmd.low _ _) .nil) lx (ACalls.of_cwp (kj [1000010, 1000018] 3 [40, 42, 43, 79, 87, 100, 110, 117]) Tryz.func157 rfl rfl ?_)
  have hk0 := hs0
  obtain ⟨z25, z26, z27, z28, z29⟩ : c.name.size ≤ 4294967296 ∧ c.user.size ≤ 4294967296 ∧ c.account.size ≤ 4294967296 ∧ (c.shape.alts.length ≤ 4294967296) ∧ c.after.length ≤ 4294967296 := hs0
  conv => whnf
  (first | apply u2 | apply u3 | apply u4 | apply ACalls.use); exact cmd_within_c c.prio 0 100 _
  conv => whnf
  (first | apply u2 | apply u3 | apply u4 | apply ACalls.use); exact cmd_length_c c.time _
  conv => whnf
  refine And.intro (fun h1 => ?_) (fun h2 => ?_)
  · conv => whnf
    obtain rfl := foll hR (ct h1 rfl)
    exact ret_seen lx sr
  · conv => whnf
    refine And.intro (fun h3 => ?_) (fun h4 => ?_)
    · conv => whnf
      refine ACalls.use (cmd_name_c c.name szA _) ?_
      conv => whnf
      (first | apply u2 | apply u3 | apply u4 | apply ACalls.use); exact cmd_name_c c.user szA _
      conv => whnf
      (first | apply u2 | apply u3 | apply u4 | apply ACalls.use); exact cmd_name_c c.account szA _
      conv => whnf
      (first | apply u2 | apply u3 | apply u4 | apply ACalls.use); exact cmd_word_c c.user szA _
      conv => whnf
      (first | apply u2 | apply u3 | apply u4 | apply ACalls.use); exact cmd_word_c c.account szA _
      conv => whnf
      (first | apply u2 | apply u3 | apply u4 | apply ACalls.use); exact cmd_deps_c c.after szA _
      conv => whnf
      (first | apply u2 | apply u3 | apply u4 | apply ACalls.use); exact shape_Check_c c.shape szA _
      conv => whnf
      obtain rfl := foll hR (cf h2 (ct h3 rfl))
      exact ret_seen lx sr
    · conv => whnf
      refine join_start1 (fun (i : Bool) => cmd_fits_k1 c i = R) (fun i => [(1, AVal.ptr 0 0 18 0 0), (2, Bo false), (42, I c.kind), (79, Bo i)]) (fun i => [(0, AObj.row 162 18 [[I c.kind, I c.job, Sg c.name, Sg c.user, Sg c.account, I c.shape.kind, altL c.shape.alts, I c.shape.min, I c.shape.max, I c.shape.wall, I c.prio, Bo c.hasPrio, I c.time, Bo c.hasTime, depL c.after, I c.node, I c.nodes, I c.from_]])]) ?_ ?_
      · clear hR
        rintro i hR
        try dsimp only at hR
        conv => whnf
        refine And.intro (fun h5 => ?_) (fun h6 => ?_)
        · conv => whnf
          refine ACalls.use (cmd_id_c c.job _) ?_
          conv => whnf
          obtain rfl := foll hR (ct h5 rfl)
          exact ret_seen lx sr
        · conv => whnf
          refine And.intro (fun h7 => ?_) (fun h8 => ?_)
          · conv => whnf
            refine ACalls.use (cmd_id_c c.job _) ?_
            conv => whnf
            obtain rfl := foll hR (cf h6 (ct h7 rfl))
            exact ret_seen lx sr
          · conv => whnf
            refine And.intro (fun h9 => ?_) (fun h10 => ?_)
            · conv => whnf
              refine ACalls.use (cmd_id_c c.job _) ?_
              conv => whnf
              (first | apply u2 | apply u3 | apply u4 | apply ACalls.use); exact cmd_within_c c.nodes 1 48 _
              conv => whnf
              obtain rfl := foll hR (cf h6 (cf h8 (ct h9 rfl)))
              exact ret_seen lx sr
            · conv => whnf
              refine join_start1 (fun (i1 : Bool) => cmd_fits_k2 c i1 = R) (fun i1 => [(1, AVal.ptr 0 0 18 0 0), (2, Bo false), (42, I c.kind), (110, Bo i1)]) (fun i1 => [(0, AObj.row 162 18 [[I c.kind, I c.job, Sg c.name, Sg c.user, Sg c.account, I c.shape.kind, altL c.shape.alts, I c.shape.min, I c.shape.max, I c.shape.wall, I c.prio, Bo c.hasPrio, I c.time, Bo c.hasTime, depL c.after, I c.node, I c.nodes, I c.from_]])]) ?_ ?_
              · clear hR
                rintro i1 hR
                try dsimp only at hR
                conv => whnf
                refine And.intro (fun h11 => ?_) (fun h12 => ?_)
                · conv => whnf
                  refine ACalls.use (cmd_within_c c.node 0 47 _) ?_
                  conv => whnf
                  obtain rfl := foll hR (ct h11 rfl)
                  exact ret_seen lx sr
                · conv => whnf
                  refine And.intro (fun h13 => ?_) (fun h14 => ?_)
                  · conv => whnf
                    refine ACalls.use (cmd_within_c c.from_ 0 1000000 _) ?_
                    conv => whnf
                    (first | apply u2 | apply u3 | apply u4 | apply ACalls.use); exact cmd_within_c c.nodes 1 48 _
                    conv => whnf
                    obtain rfl := foll hR (cf h12 (ct h13 rfl))
                    exact ret_seen lx sr
                  · conv => whnf
                    (first | apply u2 | apply u3 | apply u4 | apply ACalls.use); exact cmd_within_c c.job 0 99999 _
                    conv => whnf
                    obtain rfl := foll hR (cf h12 (cf h14 rfl))
                    exact ret_seen lx sr
              · conv => whnf
                refine And.intro (fun h15 => ?_) (fun h16 => ?_)
                · conv => whnf
                  exact join_here1 (c.kind == 7) (wk [0] (tO rfl (ts Cmd.lo) .nil) (sv (turn_ptr 0 rfl rfl) (s1 (s1 (s1 .nil))))) (foll hR (cf h6 (cf h8 (cf h10 (ct h15 rfl)))))
                · conv => whnf
                  refine And.intro (fun h17 => ?_) (fun h18 => ?_)
                  · conv => whnf
                    exact join_here1 (c.kind == 8) (wk [0] (tO rfl (ts Cmd.lo) .nil) (sv (turn_ptr 0 rfl rfl) (s1 (s1 (s1 .nil))))) (foll hR (cf h6 (cf h8 (cf h10 (cf h16 (ct h17 rfl))))))
                  · conv => whnf
                    exact join_here1 (c.kind == 9) (wk [0] (tO rfl (ts Cmd.lo) .nil) (sv (turn_ptr 0 rfl rfl) (s1 (s1 (s1 .nil))))) (foll hR (cf h6 (cf h8 (cf h10 (cf h16 (cf h18 rfl))))))
      · conv => whnf
        refine And.intro (fun h19 => ?_) (fun h20 => ?_)
        · conv => whnf
          exact join_here1 (c.kind == 2) (wk [0] (tO rfl (ts Cmd.lo) .nil) (sv (turn_ptr 0 rfl rfl) (s1 (s1 (s1 .nil))))) (foll hR (cf h2 (cf h4 (ct h19 rfl))))
        · conv => whnf
          refine And.intro (fun h21 => ?_) (fun h22 => ?_)
          · conv => whnf
            exact join_here1 (c.kind == 3) (wk [0] (tO rfl (ts Cmd.lo) .nil) (sv (turn_ptr 0 rfl rfl) (s1 (s1 (s1 .nil))))) (foll hR (cf h2 (cf h4 (cf h20 (ct h21 rfl)))))
          · conv => whnf
            refine And.intro (fun h23 => ?_) (fun h24 => ?_)
            · conv => whnf
              exact join_here1 (c.kind == 4) (wk [0] (tO rfl (ts Cmd.lo) .nil) (sv (turn_ptr 0 rfl rfl) (s1 (s1 (s1 .nil))))) (foll hR (cf h2 (cf h4 (cf h20 (cf h22 (ct h23 rfl))))))
            · conv => whnf
              exact join_here1 (c.kind == 11) (wk [0] (tO rfl (ts Cmd.lo) .nil) (sv (turn_ptr 0 rfl rfl) (s1 (s1 (s1 .nil))))) (foll hR (cf h2 (cf h4 (cf h20 (cf h22 (cf h24 rfl))))))

end Go.Proofs.YtoionleakeemlaaGreatDoor
namespace Go.Proofs.YtoionleakeemlaaGreatDoor
set_option linter.unusedSimpArgs false
set_option linter.unusedVariables false
open Go.Fw

set_option maxRecDepth 20000
set_option maxHeartbeats 4000000
attribute [local irreducible] ACalls AMoves


-- F muster/cmd.Check
def cmd_Check (c : Cmd) : Int :=
  bif ((((decide ((c.shape.alts.length : Int) > 6)) || (decide ((c.after.length : Int) > 4))) || (!(cmd_fits c))) || (!(cmd_Same c (cmd_bare c)))) then
    80
  else
    0

theorem cmd_Check_c (c : Cmd) (hs0 : c.sz) : ∀ objs, AGives Tryz.prog 141 [Cmd.a c] objs (I (cmd_Check c)) := by
  generalize hR : cmd_Check c = R
  refine AGives.any' (.cons (Cmd.low _ _) .nil) lx (ACalls.of_cwp (kp 3 [25]) Tryz.func141 rfl rfl ?_)
  have hk0 := hs0
  obtain ⟨z3, z4, z5, z6, z7⟩ : c.name.size ≤ 4294967296 ∧ c.user.size ≤ 4294967296 ∧ c.account.size ≤ 4294967296 ∧ (c.shape.alts.length ≤ 4294967296) ∧ c.after.length ≤ 4294967296 := hs0
  conv => whnf
  refine dchk (by kernel_rfl) ?_
  conv => whnf
  (first | apply u2 | apply u3 | apply u4 | apply ACalls.use); exact cmd_fits_c c (by first | (exact cmd_bare_sz _ (by assumption)) | exact szA) _
  conv => whnf
  (first | apply u2 | apply u3 | apply u4 | apply ACalls.use); exact cmd_bare_c c (by first | (exact cmd_bare_sz _ (by assumption)) | exact szA) _
  conv => whnf
  (first | apply u2 | apply u3 | apply u4 | apply ACalls.use); exact cmd_Same_c c (cmd_bare c) (by first | (exact cmd_bare_sz _ (by assumption)) | exact szA) (by first | (exact cmd_bare_sz _ (by assumption)) | exact szA) _
  conv => whnf
  repeat ((first | refine And.intro rfl ?_ | refine And.intro (fun _ => rfl) ?_ | refine And.intro (fun _ => cmd_fits_c c (by first | (exact cmd_bare_sz _ (by assumption)) | exact szA) _) ?_ | refine And.intro (fun _ => cmd_bare_c c (by first | (exact cmd_bare_sz _ (by assumption)) | exact szA) _) ?_ | refine And.intro (fun _ => cmd_Same_c c (cmd_bare c) (by first | (exact cmd_bare_sz _ (by assumption)) | exact szA) (by first | (exact cmd_bare_sz _ (by assumption)) | exact szA) _) ?_); conv => whnf)
  refine And.intro (fun h1 => ?_) (fun h2 => ?_)
  · conv => whnf
    obtain rfl := foll hR (ct h1 rfl)
    exact ret_seen lx sr
  · conv => whnf
    obtain rfl := foll hR (cf h2 rfl)
    exact ret_seen lx sr

end Go.Proofs.YtoionleakeemlaaGreatDoor
namespace Go.Proofs.YtoionleakeemlaaGreatDoor
set_option linter.unusedSimpArgs false
set_option linter.unusedVariables false
open Go.Fw

set_option maxRecDepth 20000
set_option maxHeartbeats 4000000
attribute [local irreducible] ACalls AMoves


-- F muster/job.Check
def job_Check (j : Job) : Int :=
  bif ((((((decide (j.id < 1)) || (decide (j.id > 99999))) || (!(job_tick j.born))) || (j.used != (sat_Usage j.used))) || ((cmd_Check (job_view_submission j)) != 0)) || (slices_ContainsFunc_Dep j.after (fun (y : Dep) => (decide (y.job ≥ j.id))))) then
    140
  else
    bif (j.state == 1) then
      bif (!(job_view_queued j)) then
        140
      else
        0
    else
      bif (j.state == 2) then
        bif (!(job_view_running j)) then
          140
        else
          0
      else
        bif (!(job_ended j.state)) then
          140
        else
          bif (!(job_view_over j)) then
            140
          else
            0

theorem job_Check_c (j : Job) (hs0 : j.sz) : ∀ objs, AGives Tryz.prog 115 [Job.a j] objs (I (job_Check j)) := by
  generalize hR : job_Check j = R
  refine AGives.any' (.cons (Job.low _ _) .nil) lx (ACalls.of_cwp (kp 6 [42, 45, 51, 57, 64]) Tryz.func115 rfl rfl ?_)
  have hk0 := hs0
  obtain ⟨z19, z20, z21, z22, z23⟩ : j.name.size ≤ 4294967296 ∧ j.user.size ≤ 4294967296 ∧ j.account.size ≤ 4294967296 ∧ (j.shape.alts.length ≤ 4294967296) ∧ j.after.length ≤ 4294967296 := hs0
  conv => whnf
  refine dchk (by kernel_rfl) ?_
  conv => whnf
  (first | apply u2 | apply u3 | apply u4 | apply ACalls.use); exact job_tick_c j.born _
  conv => whnf
  (first | apply u2 | apply u3 | apply u4 | apply ACalls.use); exact sat_Usage_c j.used _
  conv => whnf
  (first | apply u2 | apply u3 | apply u4 | apply ACalls.use); exact job_view_submission_c j _
  conv => whnf
  (first | apply u2 | apply u3 | apply u4 | apply ACalls.use); exact cmd_Check_c (job_view_submission j) szA _
  conv => whnf
  have cl1 : ∀ (y1 : Dep), AMoves Tryz.prog 139 [Dep.a y1, AVal.ptr 0 0 20 0 0] [(0, AObj.row 54 20 [[I j.id, Sg j.name, Sg j.user, Sg j.account, I j.shape.kind, altL j.shape.alts, I j.shape.min, I j.shape.max, I j.shape.wall, I j.prio, depL j.after, I j.state, Bo j.held, I j.born, I j.promise, I j.choice, I j.start, I j.limit, U j.nodes, I j.used]])] 1 (Bo ((fun (y : Dep) => (decide (y.job ≥ j.id))) y1)) [(0, AObj.row 54 20 [[I j.id, Sg j.name, Sg j.user, Sg j.account, I j.shape.kind, altL j.shape.alts, I j.shape.min, I j.shape.max, I j.shape.wall, I j.prio, depL j.after, I j.state, Bo j.held, I j.born, I j.promise, I j.choice, I j.start, I j.limit, U j.nodes, I j.used]])] := by
    intro y1
    have hR : (fun (y : Dep) => (decide (y.job ≥ j.id))) y1 = (fun (y : Dep) => (decide (y.job ≥ j.id))) y1 := rfl
    refine AMoves.of_cwp (kp 4 []) Tryz.func139 rfl rfl rfl ?_
    conv => whnf
    refine ret_moves (fun r : Bool => Bo r) (fun _ => [(0, AObj.row 54 20 [[I j.id, Sg j.name, Sg j.user, Sg j.account, I j.shape.kind, altL j.shape.alts, I j.shape.min, I j.shape.max, I j.shape.wall, I j.prio, depL j.after, I j.state, Bo j.held, I j.born, I j.promise, I j.choice, I j.start, I j.limit, U j.nodes, I j.used]])]) (leaf := (decide (y1.job ≥ j.id))) (foll hR rfl) ?_
    exact tt [0] (tO rfl (ts Job.lo) .nil) t1
  have hof1 : AMoves Tryz.prog 143 [depL j.after, AVal.fn (.func 139) [] [AVal.ptr 0 0 20 0 0]] [(0, AObj.row 54 20 [[I j.id, Sg j.name, Sg j.user, Sg j.account, I j.shape.kind, altL j.shape.alts, I j.shape.min, I j.shape.max, I j.shape.wall, I j.prio, depL j.after, I j.state, Bo j.held, I j.born, I j.promise, I j.choice, I j.start, I j.limit, U j.nodes, I j.used]])] 1 (Bo (slices_ContainsFunc_Dep j.after (fun (y : Dep) => (decide (y.job ≥ j.id))))) [(0, AObj.row 54 20 [[I j.id, Sg j.name, Sg j.user, Sg j.account, I j.shape.kind, altL j.shape.alts, I j.shape.min, I j.shape.max, I j.shape.wall, I j.prio, depL j.after, I j.state, Bo j.held, I j.born, I j.promise, I j.choice, I j.start, I j.limit, U j.nodes, I j.used]])] := by
    have hR : slices_ContainsFunc_Dep j.after (fun (y : Dep) => (decide (y.job ≥ j.id))) = slices_ContainsFunc_Dep j.after (fun (y : Dep) => (decide (y.job ≥ j.id))) := rfl
    refine AMoves.of_cwp (kp 5 []) Tryz.func143 rfl rfl rfl ?_
    conv => whnf
    have hof2 : AMoves Tryz.prog 160 [depL j.after, AVal.fn (.func 139) [] [AVal.ptr 0 0 20 0 0]] [(0, AObj.row 54 20 [[I j.id, Sg j.name, Sg j.user, Sg j.account, I j.shape.kind, altL j.shape.alts, I j.shape.min, I j.shape.max, I j.shape.wall, I j.prio, depL j.after, I j.state, Bo j.held, I j.born, I j.promise, I j.choice, I j.start, I j.limit, U j.nodes, I j.used]])] 1 (I (slices_IndexFunc_Dep j.after (fun (y : Dep) => (decide (y.job ≥ j.id))))) [(0, AObj.row 54 20 [[I j.id, Sg j.name, Sg j.user, Sg j.account, I j.shape.kind, altL j.shape.alts, I j.shape.min, I j.shape.max, I j.shape.wall, I j.prio, depL j.after, I j.state, Bo j.held, I j.born, I j.promise, I j.choice, I j.start, I j.limit, U j.nodes, I j.used]])] := by
      have hR : slices_IndexFunc_Dep j.after (fun (y : Dep) => (decide (y.job ≥ j.id))) = slices_IndexFunc_Dep j.after (fun (y : Dep) => (decide (y.job ≥ j.id))) := rfl
      refine AMoves.of_cwp (kp 6 [7, 8, 9, 16]) Tryz.func160 rfl rfl rfl ?_
      conv => whnf
      refine loop_start1 (fun (i : Nat) => slices_IndexFunc_Dep_g1 (fun (y : Dep) => (decide (y.job ≥ j.id))) (List.drop i j.after) i = slices_IndexFunc_Dep j.after (fun (y : Dep) => (decide (y.job ≥ j.id))) ∧ i ≤ j.after.length) (fun i => j.after.length - i) (fun i => [(0, depL j.after), (1, AVal.fn (.func 139) [] [AVal.ptr 0 0 20 0 0]), (4, I 0), (7, I (j.after.length : Int)), (8, I (i : Int))]) (fun i => [(0, AObj.row 54 20 [[I j.id, Sg j.name, Sg j.user, Sg j.account, I j.shape.kind, altL j.shape.alts, I j.shape.min, I j.shape.max, I j.shape.wall, I j.prio, depL j.after, I j.state, Bo j.held, I j.born, I j.promise, I j.choice, I j.start, I j.limit, U j.nodes, I j.used]])]) 0 (wk [0] (tO rfl (ts Job.lo) .nil) (sl lw (sv (turn_fn .nil (cv (turn_ptr 0 rfl rfl) .nil)) (s1 (s1 (s1 .nil)))))) ⟨foll hR rfl, by exact omA⟩ ?_
      clear hR
      rintro i ⟨hR, hj⟩
      try dsimp only at hR hj
      conv => whnf
      refine And.intro (fun h1 => ?_) (fun h2 => ?_)
      · have hlt : i < j.after.length := by have := of_decide_eq_true h1; omega
        rw [drop_getD Dep.zero hlt] at hR
        conv => whnf
        refine And.intro gkA ?_
        conv => whnf
        refine ACalls.use (mv [0] (cl1 (j.after.getD i Dep.zero)) (dO (ds Job.lo) .nil) (dl (Dep.low _ _) (dp .nil)) (rO (re Job.lo) .nil) rx) ?_
        conv => whnf
        refine And.intro (fun h3 => ?_) (fun h4 => ?_)
        · conv => whnf
          refine ret_moves (fun r : Int => I r) (fun r : Int => [(0, AObj.row 54 20 [[I j.id, Sg j.name, Sg j.user, Sg j.account, I j.shape.kind, altL j.shape.alts, I j.shape.min, I j.shape.max, I j.shape.wall, I j.prio, depL j.after, I j.state, Bo j.held, I j.born, I j.promise, I j.choice, I j.start, I j.limit, U j.nodes, I j.used]])]) (leaf := (i : Int)) (foll hR (ct h3 rfl)) ?_
          exact tt [0] (tO rfl (ts Job.lo) .nil) t1
        · conv => whnf
          exact loop_next1 (i + 1) (wk [0] (tO rfl (ts Job.lo) .nil) (sl lw (sv (turn_fn .nil (cv (turn_ptr 0 rfl rfl) .nil)) (s1 (s1 (sv (turn_eq (I_eq (wr omA)) lx) .nil)))))) omA ⟨foll hR (cf h4 rfl), by exact omA⟩
      · rw [drop_none (l := j.after) (j := i) (by have := of_decide_eq_false h2; omega)] at hR
        conv => whnf
        refine ret_moves (fun r : Int => I r) (fun r : Int => [(0, AObj.row 54 20 [[I j.id, Sg j.name, Sg j.user, Sg j.account, I j.shape.kind, altL j.shape.alts, I j.shape.min, I j.shape.max, I j.shape.wall, I j.prio, depL j.after, I j.state, Bo j.held, I j.born, I j.promise, I j.choice, I j.start, I j.limit, U j.nodes, I j.used]])]) (leaf := (-1)) (foll hR rfl) ?_
        exact tt [0] (tO rfl (ts Job.lo) .nil) t1
    refine ACalls.use (mv [0] (hof2) (dO (ds Job.lo) .nil) (dl lw (dv (dn_fn .nil (dp .nil)) .nil)) (rO (re Job.lo) .nil) rx) ?_
    conv => whnf
    refine ret_moves (fun r : Bool => Bo r) (fun r : Bool => [(0, AObj.row 54 20 [[I j.id, Sg j.name, Sg j.user, Sg j.account, I j.shape.kind, altL j.shape.alts, I j.shape.min, I j.shape.max, I j.shape.wall, I j.prio, depL j.after, I j.state, Bo j.held, I j.born, I j.promise, I j.choice, I j.start, I j.limit, U j.nodes, I j.used]])]) (leaf := (decide ((slices_IndexFunc_Dep j.after (fun (y : Dep) => (decide (y.job ≥ j.id)))) ≥ 0))) (foll hR rfl) ?_
    exact tt [0] (tO rfl (ts Job.lo) .nil) t1
  (first | apply u2 | apply u3 | apply u4 | apply ACalls.use); exact mv [0] (hof1) (dO (ds Job.lo) .nil) (dl lw (dv (dn_fn .nil (dp .nil)) .nil)) (rO (re Job.lo) .nil) rx
  conv => whnf
  repeat ((first | refine And.intro rfl ?_ | refine And.intro (fun _ => rfl) ?_ | refine And.intro (fun _ => job_tick_c j.born _) ?_ | refine And.intro (fun _ => sat_Usage_c j.used _) ?_ | refine And.intro (fun _ => job_view_submission_c j _) ?_ | refine And.intro (fun _ => cmd_Check_c (job_view_submission j) szA _) ?_); conv => whnf)
  refine And.intro (fun h5 => ?_) (fun h6 => ?_)
  · conv => whnf
    obtain rfl := foll hR (ct h5 rfl)
    exact ret_seen lx sr
  · conv => whnf
    refine And.intro (fun h7 => ?_) (fun h8 => ?_)
    · conv => whnf
      refine ACalls.use (job_view_queued_c j szA _) ?_
      conv => whnf
      refine And.intro (fun h9 => ?_) (fun h10 => ?_)
      · conv => whnf
        obtain rfl := foll hR (cf h6 (ct h7 (ct h9 rfl)))
        exact ret_seen lx sr
      · conv => whnf
        obtain rfl := foll hR (cf h6 (ct h7 (cf h10 rfl)))
        exact ret_seen lx sr
    · conv => whnf
      refine And.intro (fun h11 => ?_) (fun h12 => ?_)
      · conv => whnf
        refine ACalls.use (job_view_running_c j szA _) ?_
        conv => whnf
        refine And.intro (fun h13 => ?_) (fun h14 => ?_)
        · conv => whnf
          obtain rfl := foll hR (cf h6 (cf h8 (ct h11 (ct h13 rfl))))
          exact ret_seen lx sr
        · conv => whnf
          obtain rfl := foll hR (cf h6 (cf h8 (ct h11 (cf h14 rfl))))
          exact ret_seen lx sr
      · conv => whnf
        refine ACalls.use (job_ended_c j.state _) ?_
        conv => whnf
        refine And.intro (fun h15 => ?_) (fun h16 => ?_)
        · conv => whnf
          obtain rfl := foll hR (cf h6 (cf h8 (cf h12 (ct h15 rfl))))
          exact ret_seen lx sr
        · conv => whnf
          refine ACalls.use (job_view_over_c j _) ?_
          conv => whnf
          refine And.intro (fun h17 => ?_) (fun h18 => ?_)
          · conv => whnf
            obtain rfl := foll hR (cf h6 (cf h8 (cf h12 (cf h16 (ct h17 rfl)))))
            exact ret_seen lx sr
          · conv => whnf
            obtain rfl := foll hR (cf h6 (cf h8 (cf h12 (cf h16 (cf h18 rfl)))))
            exact ret_seen lx sr

end Go.Proofs.YtoionleakeemlaaGreatDoor
namespace Go.Proofs.YtoionleakeemlaaGreatDoor
set_option linter.unusedSimpArgs false
set_option linter.unusedVariables false
open Go.Fw

set_option maxRecDepth 20000
set_option maxHeartbeats 4000000
attribute [local irreducible] ACalls AMoves


-- F muster/table.Check
def table_Check_g1 (l : List Job) : List Job → Nat → Int
  | [], _ =>
    0
  | x_ :: r, i =>
    bif (((job_Check x_) != 0) || ((decide ((i : Int) > 0)) && (decide ((l.getD (Int.toNat (w64 ((i : Int) - 1))) Job.zero).id ≥ x_.id)))) then
      140
    else
      table_Check_g1 l r (i + 1)

def table_Check (l : List Job) : Int :=
  bif (decide ((l.length : Int) > 40)) then
    140
  else
    table_Check_g1 l l 0

theorem table_Check_c (l : List Job) (hs0 : l.length ≤ 4294967296 ∧ (∀ y ∈ l, y.sz)) : ∀ objs, AGives Tryz.prog 83 [jobL l] objs (I (table_Check l)) := by
  generalize hR : table_Check l = R
  refine AGives.any' (.cons lw .nil) lx (ACalls.of_cwp (kp 5 [7, 8, 9, 10, 11, 32]) Tryz.func83 rfl rfl ?_)
  have hk0 := hs0
  obtain ⟨z12, z13⟩ : l.length ≤ 4294967296 ∧ (∀ y ∈ l, y.sz) := hs0
  conv => whnf
  refine And.intro (fun h1 => ?_) (fun h2 => ?_)
  · conv => whnf
    have qh1 := of_decide_eq_true h1
    obtain rfl := foll hR (ct h1 rfl)
    exact ret_seen lx sr
  · conv => whnf
    have qh2 := of_decide_eq_false h2
    refine loop_start1 (fun (i : Nat) => table_Check_g1 l (List.drop i l) i = R ∧ i ≤ l.length) (fun i => l.length - i) (fun i => [(0, jobL l), (2, I 0), (8, jobL l), (9, I (l.length : Int)), (10, I (i : Int))]) (fun i => []) 0 (wk [] .nil (sl lw (s1 (sl lw (s1 (s1 .nil)))))) ⟨foll hR (cf h2 rfl), by exact omA⟩ ?_
    clear hR
    rintro i ⟨hR, hj⟩
    try dsimp only at hR hj
    conv => whnf
    refine And.intro (fun h3 => ?_) (fun h4 => ?_)
    · have hlt : i < l.length := by have := of_decide_eq_true h3; omega
      rw [drop_getD Job.zero hlt] at hR
      have hxz : (l.getD i Job.zero).sz := getD_sz (by first | assumption | grind) (Job.szz _)
      have hkz := hxz
      obtain ⟨z5, z6, z7, z8, z9⟩ : ((l.getD i Job.zero).name).size ≤ 4294967296 ∧ ((l.getD i Job.zero).user).size ≤ 4294967296 ∧ ((l.getD i Job.zero).account).size ≤ 4294967296 ∧ ((((l.getD i Job.zero).shape).alts).length ≤ 4294967296) ∧ ((l.getD i Job.zero).after).length ≤ 4294967296 := hxz
      conv => whnf
      refine And.intro gkA ?_
      conv => whnf
      refine dchk (by kernel_rfl) ?_
      conv => whnf
      (first | apply u2 | apply u3 | apply u4 | apply ACalls.use); exact job_Check_c (l.getD i Job.zero) szA _
      conv => whnf
      refine And.intro gkA ?_
      conv => whnf
      repeat ((first | refine And.intro rfl ?_ | refine And.intro (fun _ => rfl) ?_ | refine And.intro (fun _ => job_Check_c (l.getD i Job.zero) szA _) ?_); conv => whnf)
      refine And.intro (fun h10 => ?_) (fun h11 => ?_)
      · conv => whnf
        obtain rfl := foll hR (ct h10 rfl)
        exact ret_seen lx sr
      · conv => whnf
        exact loop_next1 (i + 1) (wk [] .nil (sl lw (s1 (sl lw (s1 (sv (turn_eq (I_eq (wr omA)) lx) .nil)))))) omA ⟨foll hR (cf h11 rfl), by exact omA⟩
    · rw [drop_none (l := l) (j := i) (by have := of_decide_eq_false h4; omega)] at hR
      conv => whnf
      obtain rfl := foll hR rfl
      exact ret_seen lx sr

end Go.Proofs.YtoionleakeemlaaGreatDoor
