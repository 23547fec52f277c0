/-
  Contracts of functions, printed by a program of this repo (wip/dec). No condition beyond those that stand in each.
-/
import Derived.Test.YtigcpfbpmnppcaaGreatDoorG11
import Derived.Test.YtigcpfbpmnppcaaGreatDoorProg
namespace Go.Proofs.YtigcpfbpmnppcaaGreatDoor
set_option linter.unusedSimpArgs false
set_option linter.unusedVariables false
open Go.Fw
set_option maxRecDepth 20000
set_option maxHeartbeats 4000000
attribute [local irreducible] ACalls AMoves
def lex_reader_text_g1  : Nat -> LexReader -> Bool -> LexReader × Bool
 | 0, _, _ => (LexReader.zero, false)
 | m + 1, c, c2 => bif ((decide (c.at_ < (c.line.length : Int))) && (lex_reader_text_c1 (c.line.getD (Int.toNat c.at_) 0) c2).1) then lex_reader_text_g1 m { c with at_ := (w64 (c.at_ + 1)) } (bif (decide (c.at_ < (c.line.length : Int))) then (lex_reader_text_c1 (c.line.getD (Int.toNat c.at_) 0) c2).2 else c2) else (c, (bif (decide (c.at_ < (c.line.length : Int))) then (lex_reader_text_c1 (c.line.getD (Int.toNat c.at_) 0) c2).2 else c2))
def lex_reader_text_k1 (r_ : LexReader) (c : LexReader) (c2 : Bool) : Token × LexReader := bif (c.at_ == (c.line.length : Int)) then (Token.zero, (lex_reader_fail c r_.at_ 50)) else bif ((c.line.getD (Int.toNat c.at_) 0) != 34) then (Token.zero, (lex_reader_fail c c.at_ 40)) else bif ((runes_Unquote (runesBytes (List.drop (Int.toNat r_.at_) (List.take (Int.toNat (w64 (c.at_ + 1))) c.line)))).2 != 0) then ((⟨4, (runes_Unquote (runesBytes (List.drop (Int.toNat r_.at_) (List.take (Int.toNat (w64 (c.at_ + 1))) c.line)))).1, 0, 0⟩ : Token), (lex_reader_fail { c with at_ := (w64 (c.at_ + 1)) } r_.at_ ((runes_Unquote (runesBytes (List.drop (Int.toNat r_.at_) (List.take (Int.toNat (w64 (c.at_ + 1))) c.line)))).2))) else ((⟨4, (runes_Unquote (runesBytes (List.drop (Int.toNat r_.at_) (List.take (Int.toNat (w64 (c.at_ + 1))) c.line)))).1, 0, 0⟩ : Token), { c with at_ := (w64 (c.at_ + 1)) })
def lex_reader_text (r_ : LexReader) : Token × LexReader := lex_reader_text_k1 r_ ((lex_reader_text_g1 ((Int.toNat ((r_.line.length : Int) - r_.at_)) + 1) r_ true).1) ((lex_reader_text_g1 ((Int.toNat ((r_.line.length : Int) - r_.at_)) + 1) r_ true).2)
theorem lex_reader_text_c (r_ : LexReader) (hs0 : r_.sz) (hp0 : 0 <= r_.at_ ∧ r_.at_ < (r_.line.length : Int) ∧ r_.line.length <= 400) : AMoves Tryz.prog 244 [AVal.ptr 0 0 4 0 0] [(0, AObj.row 235 4 [[runes r_.line, I r_.at_, I r_.bad, I r_.error]])] 1 (Token.a ((lex_reader_text r_).1)) [(0, AObj.row 235 4 [[runes ((lex_reader_text r_).2.line), I ((lex_reader_text r_).2.at_), I ((lex_reader_text r_).2.bad), I ((lex_reader_text r_).2.error)]])] := by
 generalize hR : lex_reader_text r_ = R; refine mo (kp 7 [23, 38, 69]) Tryz.func244 ?_; have hk0 := hs0; obtain z9 : r_.line.length <= 4294967296 := hs0; refine ACalls.of_cwp (fun _ => true) Tryz.func237 rfl rfl ?_; refine loop_start2 (fun (c : LexReader) (c2 : Bool) => ∃ m, (Int.toNat ((c.line.length : Int) - c.at_)) < m ∧ lex_reader_text_k1 r_ (lex_reader_text_g1 m c c2).1 (lex_reader_text_g1 m c c2).2 = R ∧ 0 <= c.at_ ∧ c.at_ <= (c.line.length : Int) ∧ c.line.length <= 400 ∧ r_.at_ <= c.at_ ∧ 0 <= r_.at_) (fun c c2 => (Int.toNat ((c.line.length : Int) - c.at_))) (fun c c2 => [(0, AVal.ptr 0 0 4 0 0), (1, AVal.fn (.func 256) [] [AVal.ptr 2 0 1 0 0]), (4, Sg ⟨#[]⟩), (5, I r_.at_)]) (fun c c2 => [(0, AObj.row 235 4 [[runes c.line, I c.at_, I c.bad, I c.error]]), (0, AObj.row 191 4 [[I 0, Sg ⟨#[]⟩, I 0, I 0]]), (0, AObj.row 4 1 [[Bo c2]])]) r_ true (wk [0, 1, 2] (tO rfl (ts LexReader.lo) (tO rfl (ts Token.lo) (tO rfl (ts (l1 LowL.nil)) .nil))) (sv (turn_ptr 0 rfl rfl) (sv (turn_fn .nil (cv (turn_ptr 2 rfl rfl) .nil)) (s1 (s1 .nil))))) ⟨_, Nat.lt_succ_self _, foll hR rfl, by exact exA⟩ ?_; clear hR; rintro c c2 ⟨m, hm, hR, hx⟩; (try dsimp only at hR hm hx); obtain ⟨m, rfl⟩ := sucA m; refine dchk (by kernel_rfl) ?_; refine ai gkA ?_; refine ⟨_, [(0, AObj.row 235 4 [[runes c.line, I c.at_, I c.bad, I c.error]]), (0, AObj.row 191 4 [[I 0, Sg ⟨#[]⟩, I 0, I 0]]), (0, AObj.row 4 1 [[Bo (bif (decide (c.at_ < (c.line.length : Int))) then (lex_reader_text_c1 (c.line.getD (Int.toNat c.at_) 0) c2).2 else c2)]])], fun hg => (by rw [show (decide (c.at_ < (c.line.length : Int))) = true from hg]; exact mv [2] (lex_reader_text_c1_c (c.line.getD (Int.toNat c.at_) 0) c2) (dO (ds (l1 LowL.nil)) .nil) (d1 (dp .nil)) (rO (re (l1 LowL.nil)) .nil) rx), fun hg => (by rw [show (decide (c.at_ < (c.line.length : Int))) = false from hg]; rfl), ?_⟩; (repeat ((first | refine ai rfl ?_ | refine ai (fun _ => rfl) ?_))); refine ai (fun h1 => ?_) (fun h2 => ?_)
 ·have hq1 := of_decide_eq_true ((Bool.and_eq_true _ _).mp h1).1; have hwr : w64 (c.at_ + 1) = c.at_ + 1 := wr (by omega); exact loop_next2 { c with at_ := (w64 (c.at_ + 1)) } (bif (decide (c.at_ < (c.line.length : Int))) then (lex_reader_text_c1 (c.line.getD (Int.toNat c.at_) 0) c2).2 else c2) (wk [0, 1, 2] (tO rfl (ts LexReader.lo) (tO rfl (ts Token.lo) (tO rfl (ts (l1 LowL.nil)) .nil))) (sv (turn_ptr 0 rfl rfl) (sv (turn_fn .nil (cv (turn_ptr 2 rfl rfl) .nil)) (s1 (s1 .nil))))) omA ⟨m, by exact omA, foll hR (congrArg (fun p : LexReader × Bool => lex_reader_text_k1 r_ p.1 p.2) (ct h1 rfl)), by exact exA⟩
 ·replace hR : lex_reader_text_k1 r_ c (bif (decide (c.at_ < (c.line.length : Int))) then (lex_reader_text_c1 (c.line.getD (Int.toNat c.at_) 0) c2).2 else c2) = R := fo2 (fun p : LexReader × Bool => lex_reader_text_k1 r_ p.1 p.2) (c, (bif (decide (c.at_ < (c.line.length : Int))) then (lex_reader_text_c1 (c.line.getD (Int.toNat c.at_) 0) c2).2 else c2)) hR (cf h2 rfl); refine dchk (by kernel_rfl) ?_; refine ai gkA ?_; (first | refine ⟨(List.drop (Int.toNat r_.at_) (List.take (Int.toNat c.at_) c.line)), by exact cvA, ?_⟩ | refine ⟨_, fun _ => ⟨(List.drop (Int.toNat r_.at_) (List.take (Int.toNat c.at_) c.line)), by exact cvA, rfl, rfl⟩, ?_⟩ | refine ⟨_, rfl, ⟨(List.drop (Int.toNat r_.at_) (List.take (Int.toNat c.at_) c.line)), by exact cvA, Sub.refl _, rfl⟩, ?_⟩); (repeat ((first | refine ai rfl ?_ | refine ai (fun _ => rfl) ?_))); refine ⟨_, _, Told.refl, ?_⟩; refine dchk (by kernel_rfl) ?_; (repeat ((first | refine ai rfl ?_ | refine ai (fun _ => rfl) ?_))); refine ai (fun h3 => ?_) (fun h4 => ?_)
  ·refine us (mv [0] (lex_reader_fail_c c r_.at_ 50) (dO (ds LexReader.lo) .nil) (dp (d1 (d1 .nil))) (rO (re LexReader.lo) .nil) rx) ?_; obtain rfl := foll hR (ct h3 rfl); exact rq (tt [0] (tO rfl (ts LexReader.lo) .nil) (turn_low (Low.agg' (Token.lo))))
  ·refine dchk (by kernel_rfl) ?_; refine ai gkA ?_; (repeat ((first | refine ai rfl ?_ | refine ai (fun _ => rfl) ?_))); refine ai (fun h5 => ?_) (fun h6 => ?_)
   ·refine us (mv [0] (lex_reader_fail_c c c.at_ 40) (dO (ds LexReader.lo) .nil) (dp (d1 (d1 .nil))) (rO (re LexReader.lo) .nil) rx) ?_; obtain rfl := foll hR (cf h4 (ct h5 rfl)); exact rq (tt [0] (tO rfl (ts LexReader.lo) .nil) (turn_low (Low.agg' (Token.lo))))
   ·refine dchk (by kernel_rfl) ?_; refine ai gkA ?_; (first | refine ⟨(List.drop (Int.toNat r_.at_) (List.take (Int.toNat (w64 (c.at_ + 1))) c.line)), by exact cvA, ?_⟩ | refine ⟨_, fun _ => ⟨(List.drop (Int.toNat r_.at_) (List.take (Int.toNat (w64 (c.at_ + 1))) c.line)), by exact cvA, rfl, rfl⟩, ?_⟩ | refine ⟨_, rfl, ⟨(List.drop (Int.toNat r_.at_) (List.take (Int.toNat (w64 (c.at_ + 1))) c.line)), by exact cvA, Sub.refl _, rfl⟩, ?_⟩); (first | apply u2 | apply u3 | apply u4 | apply us); exact runes_Unquote_c (runesBytes (List.drop (Int.toNat r_.at_) (List.take (Int.toNat (w64 (c.at_ + 1))) c.line))) szA (by refine Nat.le_trans (runesBytes_size _) ?_; simp only [List.length_drop, List.length_take]; omega) _; (repeat ((first | refine ai rfl ?_ | refine ai (fun _ => rfl) ?_ | refine ai (fun _ => runes_Unquote_c (runesBytes (List.drop (Int.toNat r_.at_) (List.take (Int.toNat (w64 (c.at_ + 1))) c.line))) szA (by refine Nat.le_trans (runesBytes_size _) ?_; simp only [List.length_drop, List.length_take]; omega) _) ?_))); refine ai (fun h7 => ?_) (fun h8 => ?_)
    ·refine us (mv [0] (lex_reader_fail_c { c with at_ := (w64 (c.at_ + 1)) } r_.at_ ((runes_Unquote (runesBytes (List.drop (Int.toNat r_.at_) (List.take (Int.toNat (w64 (c.at_ + 1))) c.line)))).2)) (dO (ds LexReader.lo) .nil) (dp (d1 (d1 .nil))) (rO (re LexReader.lo) .nil) rx) ?_; obtain rfl := foll hR (cf h4 (cf h6 (ct h7 rfl))); exact rq (tt [0] (tO rfl (ts LexReader.lo) .nil) (turn_low (Low.agg' (Token.lo))))
    ·obtain rfl := foll hR (cf h4 (cf h6 (cf h8 rfl))); exact rq (tt [0] (tO rfl (ts LexReader.lo) .nil) (turn_low (Low.agg' (Token.lo))))
def shape_sizes (min max wall : Int) : List Alt := (List.range (max - min + 1).toNat).map fun (i : Nat) => (⟨max - (i : Int), wall⟩ : Alt)
def shape_Options (s : Shape) : List Alt := bif shape_Check s != 0 then [] else bif s.kind == 3 then s.alts ++ shape_sizes s.min s.max s.wall else s.alts
theorem shape_Check_mal {s : Shape} (h : (shape_Check s != 0) = false) (hk : (s.kind == 3) = true) : 1 <= s.min ∧ s.min <= s.max ∧ s.max <= 48 := by
 have hk' : s.kind = 3 := by simpa using hk
 simp only [shape_Check, hk'] at h
 revert h
 cases h2 : (((((s.alts.length : Int) == 0) && (decide (s.min <= s.max))) && (shape_fine (⟨s.min, s.wall⟩ : Alt))) && (decide (s.max <= 48))) with
 | false => simp [h2, shape_Check_k1]
 | true =>
  intro _
  simp [shape_fine] at h2
  omega
theorem shape_sizes_len (lo hi wall : Int) : ((downFrom hi (hi - lo + 1).toNat).map fun (n : Int) => (⟨n, wall⟩ : Alt)) = shape_sizes lo hi wall := by
 simp [downFrom, shape_sizes, List.map_map, Function.comp_def]
theorem shape_Options_c (s : Shape) (hs0 : s.sz) : ∀ objs, AGives Tryz.prog 209 [Shape.a s] objs (altL (shape_Options s)) := by
 generalize hR : shape_Options s = R; refine ga (.cons (Shape.low _ _) .nil) lw (kp 4 [7, 13, 18]) Tryz.func209 ?_; have hk0 := hs0; obtain z7 : s.alts.length <= 4294967296 := hs0; refine us (shape_Check_c s szA _) ?_; refine ai (fun h1 => ?_) (fun h2 => ?_)
 ·obtain rfl := foll hR (ct h1 rfl); exact ret_seen lw seen_nil
 ·refine us (mv [] (slices_Clone_Alt_o s.alts szA) .nil (dv (dn_low (Alt.lows _ _)) .nil) (rO rr .nil) (rw_ 1 0 rfl)) ?_; refine ai (fun h3 => ?_) (fun h4 => ?_)
  ·refine us (r := .fn (.func 233) [] [.ptr 4 0 1 0 0, .ptr 3 0 1 0 0]) (o := [(0, .row 48 5 [[I s.kind, altL s.alts, I s.min, I s.max, I s.wall]]), (0, .row 103 2 (s.alts.map Alt.cells)), (0, .row 46 1 [[.own 1 0 2 0 s.alts.length]]), (0, .row 3 1 [[I s.min]]), (0, .row 3 1 [[I s.max]])]) (ACalls.of_cwp (fun _ => true) Tryz.func222 rfl rfl ?_) ?_
   ·exact ⟨_, _, told_same, rfl, rfl⟩
   obtain ⟨q1, q2, q3⟩ := shape_Check_mal h2 h3; refine range_next (α := Int) (fun n => .int .i64 n) (downFrom s.max (s.max - s.min + 1).toNat) (fun xs => [(0, .row 48 5 [[I s.kind, altL s.alts, I s.min, I s.max, I s.wall]]), (0, .row 103 2 ((s.alts ++ xs.map fun (n : Int) => (⟨n, s.wall⟩ : Alt)).map Alt.cells)), (0, .row 46 1 [[.own 1 0 2 0 (s.alts ++ xs.map fun (n : Int) => (⟨n, s.wall⟩ : Alt)).length]]), (0, .row 3 1 [[I s.min]]), (0, .row 3 1 [[I s.max]])])
    (by simp) (by decide) (by decide) rfl rfl rfl rfl ?_ ?_ (by decide) ?_ ?_
   ·intro xs q hq _; simp only [List.mem_cons, List.not_mem_nil, or_false] at hq; rcases hq with rfl | rfl | rfl | rfl | rfl <;> exact ⟨_, _, _, rfl⟩
   ·intro K a w hs; have hv := rep_fn_ptrs (hs.slot 18); obtain ⟨c1, c2⟩ := box_cell (o := 4) hs.mem rfl; obtain ⟨c3, c4⟩ := box_cell (o := 3) hs.mem rfl; refine ⟨233, #[.pointer (some ⟨K.ρ 4 0, 0, none⟩), .pointer (some ⟨K.ρ 3 0, 0, none⟩)], ⟨K.ρ 3 0, 0, none⟩, .int .i64 s.min, hv, ?_, c4, ?_, ?_⟩
    ·intro args w; simp [go_sem]
    ·intro K1 xs W hs1; have hv1 := rep_fn_ptrs (hs1.slot 18); have e : K1.ρ 3 0 = K.ρ 3 0 := by
      have := hv1.symm.trans hv; exact (by simpa using this : K1.ρ 4 0 = K.ρ 4 0 ∧ K1.ρ 3 0 = K.ρ 3 0).2
     rw [← e]; exact (box_cell (o := 3) hs1.mem rfl).1
    ·rw [downFrom_length]; exact sizes_stops 2 (by decide) _ _ s.min s.max w q1 q2 q3 c2 c4 c1 c3
   ·intro xs x hlen; rw [downFrom_length] at hlen; refine Or.inl ?_; refine ⟨app_ok 16 rfl lnA (by simp; omega), ?_⟩; exact wk [0, 1, 2, 3, 4] (tO rfl (ts Shape.lo) (tO rfl (turn_same (by simp only [List.map_append, List.append_assoc]; rfl) (low_map fun _ => Alt.lowc _ _)) (tO rfl (turn_row1 (.cons _ _ _ _ (to 1 (by simp [List.length_append]; omega)) .nil)) (tO rfl (ts (l1 .nil)) (tO rfl (ts (l1 .nil)) .nil)))))
     (sv (turn_fn .nil (.cons _ _ _ _ (turn_ptr 4 rfl rfl) (.cons _ _ _ _ (turn_ptr 3 rfl rfl) .nil))) (s1 (sv (turn_ptr 2 rfl rfl) (s1 (s1 (sv (turn_ptr 0 rfl rfl) (sl (Shape.low _ _) .nil)))))))
   ·have e : shape_Options s = s.alts ++ (downFrom s.max (s.max - s.min + 1).toNat).map fun (n : Int) => (⟨n, s.wall⟩ : Alt) := by
     rw [shape_sizes_len]; exact cf h2 (ct h3 rfl)
    obtain rfl := foll hR e; exact ret_seen lw (seen_list Alt.zero _ rfl rfl rfl)
  ·obtain rfl := foll hR (cf h2 (cf h4 rfl)); exact ret_seen lw (seen_list Alt.zero _ rfl eqA lnA)
def fleet_where_g1 (is : Node -> Bool) : List Node -> List Int -> Nat -> (List Int)
 | [], out, _ => out
 | x_ :: r, out, i => bif (is x_) then fleet_where_g1 is r (out ++ ([(i : Int)] : List Int)) (i + 1) else fleet_where_g1 is r out (i + 1)
def fleet_where_k1 (out : List Int) : Int := (nodeset_Of out).1
def fleet_where (l : List Node) (is : Node -> Bool) : Int := bif ((fleet_Check l) != 0) then 0 else fleet_where_k1 (fleet_where_g1 is l [] 0)
def alloc_Quiet_g1 (l : List Node) : List Int -> Nat -> Bool
 | [], _ => true
 | x_ :: r, i => bif ((decide (x_ < (l.length : Int))) && ((l.getD (Int.toNat x_) Node.zero).want == 0)) then alloc_Quiet_g1 l r (i + 1) else false
def alloc_Quiet (l : List Node) (set_ : Int) : Bool := bif ((fleet_Check l) != 0) then false else alloc_Quiet_g1 l (nodeset_List set_) 0
theorem alloc_Quiet_c (l : List Node) (set_ : Int) (hs0 : l.length <= 4294967296) : ∀ objs, AGives Tryz.prog 137 [nodeL l, U set_] objs (Bo (alloc_Quiet l set_)) := by
 generalize hR : alloc_Quiet l set_ = R; refine ga (.cons lw (l1 .nil)) lx (kp 7 [9, 11, 12, 13, 14, 28]) Tryz.func137 ?_; have hk0 := hs0; obtain z7 : l.length <= 4294967296 := hs0; refine us (fleet_Check_c l szA _) ?_; refine ai (fun h1 => ?_) (fun h2 => ?_)
 ·obtain rfl := foll hR (ct h1 rfl); exact ret_seen lx sr
 ·refine us (nodeset_List_c set_ _) ?_; refine loop_start1 (fun (i : Nat) => alloc_Quiet_g1 l (List.drop i (nodeset_List set_)) i = R ∧ i <= (nodeset_List set_).length) (fun i => (nodeset_List set_).length - i) (fun i => [(0, nodeL l), (4, Bo false), (11, ints (nodeset_List set_)), (12, I ((nodeset_List set_).length : Int)), (13, I (i : Int))]) (fun i => []) 0 (wk [] .nil (sl lw (s1 (sl lw (s1 (s1 .nil)))))) ⟨foll hR (cf h2 rfl), by exact omA⟩ ?_; clear hR; rintro i ⟨hR, hj⟩; (try dsimp only at hR hj); refine ai (fun h3 => ?_) (fun h4 => ?_)
  ·have hlt := ltA h3; rw [drop_getD 0 hlt] at hR; have hq := nodeset_List_get set_ hlt; have hq2 := nodeset_List_len set_; refine ai gkA ?_; refine ai gkA ?_; refine ai (fun h5 => ?_) (fun h6 => ?_)
   ·exact loop_next1 (i + 1) (wk [] .nil (sl lw (s1 (sl lw (s1 (sv (turn_eq (I_eq (wr omA)) lx) .nil)))))) omA ⟨foll hR (ct h5 rfl), by exact omA⟩
   ·obtain rfl := foll hR (cf h6 rfl); exact ret_seen lx sr
  ·rw [drop_none (l := (nodeset_List set_)) (j := i) (geA h4)] at hR; obtain rfl := foll hR rfl; exact ret_seen lx sr
abbrev ledger_Charge_t3 := fun (y : Usage) (y1 : Usage) => (cmp_Or_int ([(cmp_Compare_string y.user y1.user), (cmp_Compare_string y.account y1.account)] : List Int))
abbrev ledger_Charge_t1 (l : List Usage) (user : ByteArray) (account : ByteArray) := slices_BinarySearchFunc_Usage l (⟨user, account, 0, 0⟩ : Usage) ledger_Charge_t3
abbrev ledger_Charge_t5 (l : List Usage) (user : ByteArray) (account : ByteArray) := ledger_insert_Usage l ((ledger_Charge_t1 l user account).1) (⟨user, account, 0, 0⟩ : Usage)
abbrev ledger_Charge_t2 (l : List Usage) (user : ByteArray) (account : ByteArray) := (ledger_Charge_t5 l user account).getD (Int.toNat ((ledger_Charge_t1 l user account).1)) Usage.zero
abbrev ledger_Charge_t4 (l : List Usage) (user : ByteArray) (account : ByteArray) := l.getD (Int.toNat ((ledger_Charge_t1 l user account).1)) Usage.zero
def ledger_Charge (l : List Usage) (user : ByteArray) (account : ByteArray) (n : Int) : (List Usage) × Int := bif ((ledger_Check l) != 0) then ([], (ledger_Check l)) else bif (((!(ledger_name user)) || (!(ledger_name account))) || (decide (n < 0))) then ([], 2) else bif (!(ledger_Charge_t1 l user account).2) then bif ((l.length : Int) == 200) then ([], 3) else ((((ledger_Charge_t5 l user account).set (Int.toNat ((ledger_Charge_t1 l user account).1)) { (ledger_Charge_t2 l user account) with used := (sat_Plus ([(ledger_Charge_t2 l user account).used, n] : List Int)) }).set (Int.toNat ((ledger_Charge_t1 l user account).1)) { (((ledger_Charge_t5 l user account).set (Int.toNat ((ledger_Charge_t1 l user account).1)) { (ledger_Charge_t2 l user account) with used := (sat_Plus ([(ledger_Charge_t2 l user account).used, n] : List Int)) }).getD (Int.toNat ((ledger_Charge_t1 l user account).1)) Usage.zero) with share := (sat_Plus ([(ledger_Charge_t2 l user account).share, n] : List Int)) }), 0) else (((l.set (Int.toNat ((ledger_Charge_t1 l user account).1)) { (ledger_Charge_t4 l user account) with used := (sat_Plus ([(ledger_Charge_t4 l user account).used, n] : List Int)) }).set (Int.toNat ((ledger_Charge_t1 l user account).1)) { ((l.set (Int.toNat ((ledger_Charge_t1 l user account).1)) { (ledger_Charge_t4 l user account) with used := (sat_Plus ([(ledger_Charge_t4 l user account).used, n] : List Int)) }).getD (Int.toNat ((ledger_Charge_t1 l user account).1)) Usage.zero) with share := (sat_Plus ([(ledger_Charge_t4 l user account).share, n] : List Int)) }), 0)
theorem ledger_Charge_c (l : List Usage) (user : ByteArray) (account : ByteArray) (n : Int) (hs0 : l.length <= 4294967296 ∧ (∀ y ∈ l, y.sz)) (hs1 : user.size <= 4294967296) (hs2 : account.size <= 4294967296) : ∀ objs, AGives Tryz.prog 68 [usageL l, Sg user, Sg account, I n] objs (AVal.tup [usageL ((ledger_Charge l user account n).1), I ((ledger_Charge l user account n).2)]) := by
 generalize hR : ledger_Charge l user account n = R; refine ga (.cons lw (l1 (l1 (l1 .nil)))) (Low.tup' (.cons lw (l1 .nil))) (kp 15 [18, 31, 44, 47]) Tryz.func68 ?_; have hk0 := hs0; obtain ⟨z17, z18⟩ : l.length <= 4294967296 ∧ (∀ y ∈ l, y.sz) := hs0; have hk1 := hs1; obtain z19 : user.size <= 4294967296 := hs1; have hk2 := hs2; obtain z20 : account.size <= 4294967296 := hs2; have hf0 : 0 <= (ledger_Charge_t1 l user account).1 ∧ (ledger_Charge_t1 l user account).1 <= (l.length : Int) := bsu_le l _ _ hk0.1; refine us (ledger_Check_c l szA _) ?_; refine ai (fun h1 => ?_) (fun h2 => ?_)
 ·obtain rfl := foll hR (ct h1 rfl); exact ret_seen (Low.tup' (.cons lw (l1 .nil))) (Seen.tup (ev (seen_nil) (e1 .nil)))
 ·refine us (ledger_name_c user _) ?_; (first | apply u2 | apply u3 | apply u4 | apply us); exact ledger_name_c account _; refine ai (fun h3 => ?_) (fun h4 => ?_)
  ·obtain rfl := foll hR (cf h2 (ct h3 rfl)); exact ret_seen (Low.tup' (.cons lw (l1 .nil))) (Seen.tup (ev (seen_nil) (e1 .nil)))
  ·have cl1 : ∀ (y1 : Usage) (y2 : Usage) (hzy1 : y1.sz) (hzy2 : y2.sz), AMoves Tryz.prog 114 [Usage.a y1, Usage.a y2] [] 0 (I (ledger_Charge_t3 y1 y2)) [] := by
    intro y1 y2 hzy1 hzy2; have hky1 := hzy1; obtain ⟨z5, z6⟩ : y1.user.size <= 4294967296 ∧ y1.account.size <= 4294967296 := hzy1; have hky2 := hzy2; obtain ⟨z7, z8⟩ : y2.user.size <= 4294967296 ∧ y2.account.size <= 4294967296 := hzy2; have hR : ledger_Charge_t3 y1 y2 = ledger_Charge_t3 y1 y2 := rfl; refine mo (kp 5 []) Tryz.func114 ?_; refine dchk (by kernel_rfl) ?_; (first | apply u2 | apply u3 | apply u4 | apply us); exact cmp_Compare_string_c y1.user y2.user _; (first | apply u2 | apply u3 | apply u4 | apply us); exact cmp_Compare_string_c y1.account y2.account _; (first | apply u2 | apply u3 | apply u4 | apply us); exact AGives.as2 (cmp_Or_int_c ([(cmp_Compare_string y1.user y2.user), (cmp_Compare_string y1.account y2.account)] : List Int) szA _) (av (as_lits (c := (fun q_ => [I q_])) (d := 0) ([(cmp_Compare_string y1.user y2.user), (cmp_Compare_string y1.account y2.account)] : List Int) rfl) .nil); (repeat ((first | refine ai rfl ?_ | refine ai (fun _ => rfl) ?_ | refine ai (fun _ => cmp_Compare_string_c y1.user y2.user _) ?_ | refine ai (fun _ => cmp_Compare_string_c y1.account y2.account _) ?_ | refine ai (fun _ => AGives.as2 (cmp_Or_int_c ([(cmp_Compare_string y1.user y2.user), (cmp_Compare_string y1.account y2.account)] : List Int) szA _) (av (as_lits (c := (fun q_ => [I q_])) (d := 0) ([(cmp_Compare_string y1.user y2.user), (cmp_Compare_string y1.account y2.account)] : List Int) rfl) .nil)) ?_))); refine ret_moves (fun r : Int => I r) (fun _ => []) (leaf := (cmp_Or_int ([(cmp_Compare_string y1.user y2.user), (cmp_Compare_string y1.account y2.account)] : List Int))) (foll hR rfl) ?_; exact tt [] .nil t1
   have hof1 : AMoves Tryz.prog 113 [usageL l, Usage.a (⟨user, account, 0, 0⟩ : Usage), AVal.fn (.func 114) [] []] [] 0 (AVal.tup [I ((ledger_Charge_t1 l user account).1), Bo ((ledger_Charge_t1 l user account).2)]) [] := by
    have hR : slices_BinarySearchFunc_Usage l (⟨user, account, 0, 0⟩ : Usage) ledger_Charge_t3 = slices_BinarySearchFunc_Usage l (⟨user, account, 0, 0⟩ : Usage) ledger_Charge_t3 := rfl; refine mo (kp 12 [17, 31]) Tryz.func113 ?_; refine loop_start2 (fun (i : Int) (j : Int) => ∃ m, (Int.toNat (j - i)) < m ∧ slices_BinarySearchFunc_Usage_k1 l (⟨user, account, 0, 0⟩ : Usage) ledger_Charge_t3 (slices_BinarySearchFunc_Usage_g1 l (⟨user, account, 0, 0⟩ : Usage) ledger_Charge_t3 m i j).1 (slices_BinarySearchFunc_Usage_g1 l (⟨user, account, 0, 0⟩ : Usage) ledger_Charge_t3 m i j).2 = slices_BinarySearchFunc_Usage l (⟨user, account, 0, 0⟩ : Usage) ledger_Charge_t3 ∧ 0 <= i ∧ i <= j ∧ j <= (l.length : Int)) (fun i j => (Int.toNat (j - i))) (fun i j => [(0, usageL l), (2, AVal.fn (.func 114) [] []), (4, AVal.ptr 0 0 4 0 0), (6, I 0), (7, Bo false), (8, I (l.length : Int)), (9, I i), (10, I j)]) (fun i j => [(0, AObj.row 67 4 [[Sg (⟨user, account, 0, 0⟩ : Usage).user, Sg (⟨user, account, 0, 0⟩ : Usage).account, I (⟨user, account, 0, 0⟩ : Usage).used, I (⟨user, account, 0, 0⟩ : Usage).share]])]) 0 (l.length : Int) (wk [0] (tO rfl (ts Usage.lo) .nil) (sl lw (sv (turn_low (Low.fn _ _ _ LowL.nil LowL.nil)) (sv (turn_ptr 0 rfl rfl) (s1 (s1 (s1 (s1 (s1 .nil))))))))) ⟨_, Nat.lt_succ_self _, foll hR rfl, by first | (dsimp only; rw [hh3]; omega) | first | (dsimp only; rw [hh]; omega) | exact exA⟩ ?_; clear hR; rintro i j ⟨m, hm, hR, hx⟩; (try dsimp only at hR hm hx); obtain ⟨m, rfl⟩ := sucA m; refine ai (fun h9 => ?_) (fun h10 => ?_)
    ·have qh9 := of_decide_eq_true h9; (have hq0 : i < j := qh9; have hh : w64 (Int.fdiv (wu64 (w64 (i + j))) (2 ^ (min (Int.toNat 1) 64))) = (i + j) / 2 := half_ok hx.1 hq0 hx.2.2 (by omega); have hh3 : w64 (w64 (Int.fdiv (wu64 (w64 (i + j))) (2 ^ (min (Int.toNat 1) 64))) + 1) = (i + j) / 2 + 1 := by rw [hh]; exact wr (by omega)); refine And.intro (by first | exact fun hg => decide_eq_true (by first | (show 0 <= w64 (Int.fdiv (wu64 (w64 (i + j))) (2 ^ (min (Int.toNat 1) 64))) ∧ w64 (Int.fdiv (wu64 (w64 (i + j))) (2 ^ (min (Int.toNat 1) 64))) < (l.length : Int); rw [hh]; omega) | exact ckA) | exact gkA) ?_; refine dchk (by kernel_rfl) ?_; refine And.intro (by first | exact fun hg => decide_eq_true (by first | (show 0 <= w64 (Int.fdiv (wu64 (w64 (i + j))) (2 ^ (min (Int.toNat 1) 64))) ∧ w64 (Int.fdiv (wu64 (w64 (i + j))) (2 ^ (min (Int.toNat 1) 64))) < (l.length : Int); rw [hh]; omega) | exact ckA) | exact gkA) ?_; (first | apply u2 | apply u3 | apply u4 | apply us); exact mv [] (cl1 (l.getD (Int.toNat (w64 (Int.fdiv (wu64 (w64 (i + j))) (2 ^ (min (Int.toNat 1) 64))))) Usage.zero) (⟨user, account, 0, 0⟩ : Usage) szA szA) .nil (dl (Usage.low _ _) (dl (Usage.low _ _) .nil)) .nil rx; (repeat ((first | refine ai rfl ?_ | refine ai (fun _ => rfl) ?_))); refine ai (fun h11 => ?_) (fun h12 => ?_)
     ·have qh11 := of_decide_eq_true h11; exact loop_next2 (w64 ((w64 (Int.fdiv (wu64 (w64 (i + j))) (2 ^ (min (Int.toNat 1) 64)))) + 1)) j (wk [0] (tO rfl (ts Usage.lo) .nil) (sl lw (sv (turn_low (Low.fn _ _ _ LowL.nil LowL.nil)) (sv (turn_ptr 0 rfl rfl) (s1 (s1 (s1 (s1 (s1 .nil))))))))) (by first | (dsimp only; rw [hh3]; omega) | first | (dsimp only; rw [hh]; omega) | exact omA) ⟨m, by first | (dsimp only; rw [hh3]; omega) | first | (dsimp only; rw [hh]; omega) | exact omA, foll hR (congrArg (fun p : Int × Int => slices_BinarySearchFunc_Usage_k1 l (⟨user, account, 0, 0⟩ : Usage) ledger_Charge_t3 p.1 p.2) (ct h9 (ct h11 rfl))), by first | (dsimp only; rw [hh3]; omega) | first | (dsimp only; rw [hh]; omega) | exact exA⟩
     ·have qh12 := of_decide_eq_false h12; exact loop_next2 i (w64 (Int.fdiv (wu64 (w64 (i + j))) (2 ^ (min (Int.toNat 1) 64)))) (wk [0] (tO rfl (ts Usage.lo) .nil) (sl lw (sv (turn_low (Low.fn _ _ _ LowL.nil LowL.nil)) (sv (turn_ptr 0 rfl rfl) (s1 (s1 (s1 (s1 (s1 .nil))))))))) (by first | (dsimp only; rw [hh3]; omega) | first | (dsimp only; rw [hh]; omega) | exact omA) ⟨m, by first | (dsimp only; rw [hh3]; omega) | first | (dsimp only; rw [hh]; omega) | exact omA, foll hR (congrArg (fun p : Int × Int => slices_BinarySearchFunc_Usage_k1 l (⟨user, account, 0, 0⟩ : Usage) ledger_Charge_t3 p.1 p.2) (ct h9 (cf h12 rfl))), by first | (dsimp only; rw [hh3]; omega) | first | (dsimp only; rw [hh]; omega) | exact exA⟩
    ·have qh10 := of_decide_eq_false h10; replace hR : slices_BinarySearchFunc_Usage_k1 l (⟨user, account, 0, 0⟩ : Usage) ledger_Charge_t3 i j = slices_BinarySearchFunc_Usage l (⟨user, account, 0, 0⟩ : Usage) ledger_Charge_t3 := fo2 (fun p : Int × Int => slices_BinarySearchFunc_Usage_k1 l (⟨user, account, 0, 0⟩ : Usage) ledger_Charge_t3 p.1 p.2) (i, j) hR (cf h10 rfl); refine dchk (by kernel_rfl) ?_; refine And.intro (by first | exact fun hg => decide_eq_true (by first | (show 0 <= w64 (Int.fdiv (wu64 (w64 (i + j))) (2 ^ (min (Int.toNat 1) 64))) ∧ w64 (Int.fdiv (wu64 (w64 (i + j))) (2 ^ (min (Int.toNat 1) 64))) < (l.length : Int); rw [hh]; omega) | exact ckA) | exact gkA) ?_; (first | apply u2 | apply u3 | apply u4 | apply us); exact mv [] (cl1 (l.getD (Int.toNat i) Usage.zero) (⟨user, account, 0, 0⟩ : Usage) szA szA) .nil (dl (Usage.low _ _) (dl (Usage.low _ _) .nil)) .nil rx; (repeat ((first | refine ai rfl ?_ | refine ai (fun _ => rfl) ?_))); refine ret_moves (fun r : Int × Bool => AVal.tup [I r.1, Bo r.2]) (fun r : Int × Bool => []) (leaf := (i, ((decide (i < (l.length : Int))) && ((ledger_Charge_t3 (l.getD (Int.toNat i) Usage.zero) (⟨user, account, 0, 0⟩ : Usage)) == 0)))) (foll hR rfl) ?_; exact tt [] .nil (turn_tup (c1 (c1 .nil)))
   refine us (mv [] (hof1) .nil (dl lw (dv (dn_low (Low.agg' (Usage.lo))) (dv (dn_low (Low.fn _ _ _ LowL.nil LowL.nil)) .nil))) .nil (Ren.low _ (Low.tup' (l1 (l1 .nil))))) ?_; refine us (mv [] (slices_Clone_Usage_o l szA) .nil (dl lw .nil) (rO rr .nil) (rw_ 1 0 rfl)) ?_; refine ai (fun h13 => ?_) (fun h14 => ?_)
   ·refine ai (fun h15 => ?_) (fun h16 => ?_)
    ·obtain rfl := foll hR (cf h2 (cf h4 (ct h13 (ct h15 rfl)))); exact ret_seen (Low.tup' (.cons lw (l1 .nil))) (Seen.tup (ev (seen_nil) (e1 .nil)))
    ·refine us (mv [] (ledger_insert_Usage_o l ((ledger_Charge_t1 l user account).1) (⟨user, account, 0, 0⟩ : Usage) szA szA (by first | ((have hl := ledger_insert_len l (ledger_Charge_t1 l user account).1 (⟨user, account, 0, 0⟩ : Usage) hf0.1 hf0.2; (try simp only [ledger_Charge_t5, List.length_set]); omega)) | first | ((have ht : (ledger_Charge_t1 l user account).1 < (l.length : Int) := bsu_lt (by assumption); (try simp only [List.length_set]); omega)) | exact ckA)) .nil (dl lw (d1 (dv (dn_low (Low.agg' (Usage.lo))) .nil))) (rO rr .nil) (rw_ 2 0 rfl)) ?_; refine dchk (by kernel_rfl) ?_; refine And.intro (by first | exact fun hg => decide_eq_true (by first | ((have hl := ledger_insert_len l (ledger_Charge_t1 l user account).1 (⟨user, account, 0, 0⟩ : Usage) hf0.1 hf0.2; (try simp only [ledger_Charge_t5, List.length_set]); omega)) | first | ((have ht : (ledger_Charge_t1 l user account).1 < (l.length : Int) := bsu_lt (by assumption); (try simp only [List.length_set]); omega)) | exact ckA) | exact gkA) ?_; refine ⟨_, evalOp_load rfl rfl rfl (elemI_at Usage.zero (Int.toNat ((ledger_Charge_t1 l user account).1)) roA (by first | ((have hl := ledger_insert_len l (ledger_Charge_t1 l user account).1 (⟨user, account, 0, 0⟩ : Usage) hf0.1 hf0.2; (try simp only [ledger_Charge_t5, List.length_set]); omega)) | first | ((have ht : (ledger_Charge_t1 l user account).1 < (l.length : Int) := bsu_lt (by assumption); (try simp only [List.length_set]); omega)) | exact ckA)) rfl, ?_⟩; (first | apply u2 | apply u3 | apply u4 | apply us); exact AGives.as2 (sat_Plus_c ([(ledger_Charge_t2 l user account).used, n] : List Int) szA _) (av (as_lits (c := (fun q_ => [I q_])) (d := 0) ([(ledger_Charge_t2 l user account).used, n] : List Int) rfl) .nil); refine And.intro (by first | exact fun hg => decide_eq_true (by first | ((have hl := ledger_insert_len l (ledger_Charge_t1 l user account).1 (⟨user, account, 0, 0⟩ : Usage) hf0.1 hf0.2; (try simp only [ledger_Charge_t5, List.length_set]); omega)) | first | ((have ht : (ledger_Charge_t1 l user account).1 < (l.length : Int) := bsu_lt (by assumption); (try simp only [List.length_set]); omega)) | exact ckA) | exact gkA) ?_; refine ⟨_, evalOp_load rfl rfl rfl (elemI_at Usage.zero (Int.toNat ((ledger_Charge_t1 l user account).1)) roA (by first | ((have hl := ledger_insert_len l (ledger_Charge_t1 l user account).1 (⟨user, account, 0, 0⟩ : Usage) hf0.1 hf0.2; (try simp only [ledger_Charge_t5, List.length_set]); omega)) | first | ((have ht : (ledger_Charge_t1 l user account).1 < (l.length : Int) := bsu_lt (by assumption); (try simp only [List.length_set]); omega)) | exact ckA)) rfl, ?_⟩; (first | apply u2 | apply u3 | apply u4 | apply us); exact AGives.as2 (sat_Plus_c ([(ledger_Charge_t2 l user account).share, n] : List Int) szA _) (av (as_lits (c := (fun q_ => [I q_])) (d := 0) ([(ledger_Charge_t2 l user account).share, n] : List Int) rfl) .nil); refine And.intro (by first | exact fun hg => decide_eq_true (by first | ((have hl := ledger_insert_len l (ledger_Charge_t1 l user account).1 (⟨user, account, 0, 0⟩ : Usage) hf0.1 hf0.2; (try simp only [ledger_Charge_t5, List.length_set]); omega)) | first | ((have ht : (ledger_Charge_t1 l user account).1 < (l.length : Int) := bsu_lt (by assumption); (try simp only [List.length_set]); omega)) | exact ckA) | exact gkA) ?_; refine ⟨_, evalOp_store rfl rfl rfl rfl (elemI_at Usage.zero (Int.toNat ((ledger_Charge_t1 l user account).1)) roA (by first | ((have hl := ledger_insert_len l (ledger_Charge_t1 l user account).1 (⟨user, account, 0, 0⟩ : Usage) hf0.1 hf0.2; (try simp only [ledger_Charge_t5, List.length_set]); omega)) | first | ((have ht : (ledger_Charge_t1 l user account).1 < (l.length : Int) := bsu_lt (by assumption); (try simp only [List.length_set]); omega)) | exact ckA)) rfl rfl (set_map (Int.toNat ((ledger_Charge_t1 l user account).1)) { (ledger_Charge_t2 l user account) with used := (sat_Plus ([(ledger_Charge_t2 l user account).used, n] : List Int)) } roA rfl), ?_⟩; refine And.intro (by first | exact fun hg => decide_eq_true (by first | ((have hl := ledger_insert_len l (ledger_Charge_t1 l user account).1 (⟨user, account, 0, 0⟩ : Usage) hf0.1 hf0.2; (try simp only [ledger_Charge_t5, List.length_set]); omega)) | first | ((have ht : (ledger_Charge_t1 l user account).1 < (l.length : Int) := bsu_lt (by assumption); (try simp only [List.length_set]); omega)) | exact ckA) | exact gkA) ?_; refine ⟨_, evalOp_store rfl rfl rfl rfl (elemI_at Usage.zero (Int.toNat ((ledger_Charge_t1 l user account).1)) roA (by first | ((have hl := ledger_insert_len l (ledger_Charge_t1 l user account).1 (⟨user, account, 0, 0⟩ : Usage) hf0.1 hf0.2; (try simp only [ledger_Charge_t5, List.length_set]); omega)) | first | ((have ht : (ledger_Charge_t1 l user account).1 < (l.length : Int) := bsu_lt (by assumption); (try simp only [List.length_set]); omega)) | exact ckA)) rfl rfl (set_map (Int.toNat ((ledger_Charge_t1 l user account).1)) { (((ledger_Charge_t5 l user account).set (Int.toNat ((ledger_Charge_t1 l user account).1)) { (ledger_Charge_t2 l user account) with used := (sat_Plus ([(ledger_Charge_t2 l user account).used, n] : List Int)) }).getD (Int.toNat ((ledger_Charge_t1 l user account).1)) Usage.zero) with share := (sat_Plus ([(ledger_Charge_t2 l user account).share, n] : List Int)) } roA rfl), ?_⟩; (repeat ((first | refine ai rfl ?_ | refine ai (fun _ => rfl) ?_ | refine And.intro (evalOp_load rfl rfl rfl (elemI_at Usage.zero (Int.toNat ((ledger_Charge_t1 l user account).1)) roA (by first | ((have hl := ledger_insert_len l (ledger_Charge_t1 l user account).1 (⟨user, account, 0, 0⟩ : Usage) hf0.1 hf0.2; (try simp only [ledger_Charge_t5, List.length_set]); omega)) | first | ((have ht : (ledger_Charge_t1 l user account).1 < (l.length : Int) := bsu_lt (by assumption); (try simp only [List.length_set]); omega)) | exact ckA)) rfl) ?_ | refine ai (fun _ => AGives.as2 (sat_Plus_c ([(ledger_Charge_t2 l user account).used, n] : List Int) szA _) (av (as_lits (c := (fun q_ => [I q_])) (d := 0) ([(ledger_Charge_t2 l user account).used, n] : List Int) rfl) .nil)) ?_ | refine And.intro (evalOp_load rfl rfl rfl (elemI_at Usage.zero (Int.toNat ((ledger_Charge_t1 l user account).1)) roA (by first | ((have hl := ledger_insert_len l (ledger_Charge_t1 l user account).1 (⟨user, account, 0, 0⟩ : Usage) hf0.1 hf0.2; (try simp only [ledger_Charge_t5, List.length_set]); omega)) | first | ((have ht : (ledger_Charge_t1 l user account).1 < (l.length : Int) := bsu_lt (by assumption); (try simp only [List.length_set]); omega)) | exact ckA)) rfl) ?_ | refine ai (fun _ => AGives.as2 (sat_Plus_c ([(ledger_Charge_t2 l user account).share, n] : List Int) szA _) (av (as_lits (c := (fun q_ => [I q_])) (d := 0) ([(ledger_Charge_t2 l user account).share, n] : List Int) rfl) .nil)) ?_))); obtain rfl := foll hR (cf h2 (cf h4 (ct h13 (cf h16 rfl)))); exact ret_seen (Low.tup' (.cons lw (l1 .nil))) (Seen.tup (ev (seen_list Usage.zero _ rfl eqA lnA) (e1 .nil)))
   ·refine dchk (by kernel_rfl) ?_; refine And.intro (by first | exact fun hg => decide_eq_true (by first | ((have hl := ledger_insert_len l (ledger_Charge_t1 l user account).1 (⟨user, account, 0, 0⟩ : Usage) hf0.1 hf0.2; (try simp only [ledger_Charge_t5, List.length_set]); omega)) | first | ((have ht : (ledger_Charge_t1 l user account).1 < (l.length : Int) := bsu_lt (by assumption); (try simp only [List.length_set]); omega)) | exact ckA) | exact gkA) ?_; refine ⟨_, evalOp_load rfl rfl rfl (elemI_at Usage.zero (Int.toNat ((ledger_Charge_t1 l user account).1)) roA (by first | ((have hl := ledger_insert_len l (ledger_Charge_t1 l user account).1 (⟨user, account, 0, 0⟩ : Usage) hf0.1 hf0.2; (try simp only [ledger_Charge_t5, List.length_set]); omega)) | first | ((have ht : (ledger_Charge_t1 l user account).1 < (l.length : Int) := bsu_lt (by assumption); (try simp only [List.length_set]); omega)) | exact ckA)) rfl, ?_⟩; (first | apply u2 | apply u3 | apply u4 | apply us); exact AGives.as2 (sat_Plus_c ([(ledger_Charge_t4 l user account).used, n] : List Int) szA _) (av (as_lits (c := (fun q_ => [I q_])) (d := 0) ([(ledger_Charge_t4 l user account).used, n] : List Int) rfl) .nil); refine And.intro (by first | exact fun hg => decide_eq_true (by first | ((have hl := ledger_insert_len l (ledger_Charge_t1 l user account).1 (⟨user, account, 0, 0⟩ : Usage) hf0.1 hf0.2; (try simp only [ledger_Charge_t5, List.length_set]); omega)) | first | ((have ht : (ledger_Charge_t1 l user account).1 < (l.length : Int) := bsu_lt (by assumption); (try simp only [List.length_set]); omega)) | exact ckA) | exact gkA) ?_; refine ⟨_, evalOp_load rfl rfl rfl (elemI_at Usage.zero (Int.toNat ((ledger_Charge_t1 l user account).1)) roA (by first | ((have hl := ledger_insert_len l (ledger_Charge_t1 l user account).1 (⟨user, account, 0, 0⟩ : Usage) hf0.1 hf0.2; (try simp only [ledger_Charge_t5, List.length_set]); omega)) | first | ((have ht : (ledger_Charge_t1 l user account).1 < (l.length : Int) := bsu_lt (by assumption); (try simp only [List.length_set]); omega)) | exact ckA)) rfl, ?_⟩; (first | apply u2 | apply u3 | apply u4 | apply us); exact AGives.as2 (sat_Plus_c ([(ledger_Charge_t4 l user account).share, n] : List Int) szA _) (av (as_lits (c := (fun q_ => [I q_])) (d := 0) ([(ledger_Charge_t4 l user account).share, n] : List Int) rfl) .nil); refine And.intro (by first | exact fun hg => decide_eq_true (by first | ((have hl := ledger_insert_len l (ledger_Charge_t1 l user account).1 (⟨user, account, 0, 0⟩ : Usage) hf0.1 hf0.2; (try simp only [ledger_Charge_t5, List.length_set]); omega)) | first | ((have ht : (ledger_Charge_t1 l user account).1 < (l.length : Int) := bsu_lt (by assumption); (try simp only [List.length_set]); omega)) | exact ckA) | exact gkA) ?_; refine ⟨_, evalOp_store rfl rfl rfl rfl (elemI_at Usage.zero (Int.toNat ((ledger_Charge_t1 l user account).1)) roA (by first | ((have hl := ledger_insert_len l (ledger_Charge_t1 l user account).1 (⟨user, account, 0, 0⟩ : Usage) hf0.1 hf0.2; (try simp only [ledger_Charge_t5, List.length_set]); omega)) | first | ((have ht : (ledger_Charge_t1 l user account).1 < (l.length : Int) := bsu_lt (by assumption); (try simp only [List.length_set]); omega)) | exact ckA)) rfl rfl (set_map (Int.toNat ((ledger_Charge_t1 l user account).1)) { (ledger_Charge_t4 l user account) with used := (sat_Plus ([(ledger_Charge_t4 l user account).used, n] : List Int)) } roA rfl), ?_⟩; refine And.intro (by first | exact fun hg => decide_eq_true (by first | ((have hl := ledger_insert_len l (ledger_Charge_t1 l user account).1 (⟨user, account, 0, 0⟩ : Usage) hf0.1 hf0.2; (try simp only [ledger_Charge_t5, List.length_set]); omega)) | first | ((have ht : (ledger_Charge_t1 l user account).1 < (l.length : Int) := bsu_lt (by assumption); (try simp only [List.length_set]); omega)) | exact ckA) | exact gkA) ?_; refine ⟨_, evalOp_store rfl rfl rfl rfl (elemI_at Usage.zero (Int.toNat ((ledger_Charge_t1 l user account).1)) roA (by first | ((have hl := ledger_insert_len l (ledger_Charge_t1 l user account).1 (⟨user, account, 0, 0⟩ : Usage) hf0.1 hf0.2; (try simp only [ledger_Charge_t5, List.length_set]); omega)) | first | ((have ht : (ledger_Charge_t1 l user account).1 < (l.length : Int) := bsu_lt (by assumption); (try simp only [List.length_set]); omega)) | exact ckA)) rfl rfl (set_map (Int.toNat ((ledger_Charge_t1 l user account).1)) { ((l.set (Int.toNat ((ledger_Charge_t1 l user account).1)) { (ledger_Charge_t4 l user account) with used := (sat_Plus ([(ledger_Charge_t4 l user account).used, n] : List Int)) }).getD (Int.toNat ((ledger_Charge_t1 l user account).1)) Usage.zero) with share := (sat_Plus ([(ledger_Charge_t4 l user account).share, n] : List Int)) } roA rfl), ?_⟩; (repeat ((first | refine ai rfl ?_ | refine ai (fun _ => rfl) ?_ | refine And.intro (evalOp_load rfl rfl rfl (elemI_at Usage.zero (Int.toNat ((ledger_Charge_t1 l user account).1)) roA (by first | ((have hl := ledger_insert_len l (ledger_Charge_t1 l user account).1 (⟨user, account, 0, 0⟩ : Usage) hf0.1 hf0.2; (try simp only [ledger_Charge_t5, List.length_set]); omega)) | first | ((have ht : (ledger_Charge_t1 l user account).1 < (l.length : Int) := bsu_lt (by assumption); (try simp only [List.length_set]); omega)) | exact ckA)) rfl) ?_ | refine ai (fun _ => AGives.as2 (sat_Plus_c ([(ledger_Charge_t4 l user account).used, n] : List Int) szA _) (av (as_lits (c := (fun q_ => [I q_])) (d := 0) ([(ledger_Charge_t4 l user account).used, n] : List Int) rfl) .nil)) ?_ | refine And.intro (evalOp_load rfl rfl rfl (elemI_at Usage.zero (Int.toNat ((ledger_Charge_t1 l user account).1)) roA (by first | ((have hl := ledger_insert_len l (ledger_Charge_t1 l user account).1 (⟨user, account, 0, 0⟩ : Usage) hf0.1 hf0.2; (try simp only [ledger_Charge_t5, List.length_set]); omega)) | first | ((have ht : (ledger_Charge_t1 l user account).1 < (l.length : Int) := bsu_lt (by assumption); (try simp only [List.length_set]); omega)) | exact ckA)) rfl) ?_ | refine ai (fun _ => AGives.as2 (sat_Plus_c ([(ledger_Charge_t4 l user account).share, n] : List Int) szA _) (av (as_lits (c := (fun q_ => [I q_])) (d := 0) ([(ledger_Charge_t4 l user account).share, n] : List Int) rfl) .nil)) ?_))); obtain rfl := foll hR (cf h2 (cf h4 (cf h14 rfl))); exact ret_seen (Low.tup' (.cons lw (l1 .nil))) (Seen.tup (ev (seen_list Usage.zero _ rfl eqA lnA) (e1 .nil)))
theorem set_sz {α : Type} {P : α -> Prop} {l : List α} (h : ∀ y ∈ l, P y) {x : α} (hx : P x) (i : Nat) : ∀ y ∈ l.set i x, P y := by
 intro y hy
 rcases List.mem_or_eq_of_mem_set hy with hy | rfl
 ·exact h y hy
 ·exact hx
theorem ledger_Charge_sz {l : List Usage} {user account : ByteArray} {n : Int} (h : l.length <= 4294967296 ∧ ∀ y ∈ l, y.sz) (hu : user.size <= 4294967296) (ha : account.size <= 4294967296) (hc : ((ledger_Charge l user account n).2 == 0) = true) : (ledger_Charge l user account n).1.length <= 4294967296 ∧ ∀ y ∈ (ledger_Charge l user account n).1, y.sz := by
 unfold ledger_Charge at hc ⊢
 cases h1 : ((ledger_Check l) != 0) with
 | true =>
  rw [h1] at hc
  simp only [cond_true] at hc ⊢
  exact ⟨Nat.zero_le _, fun y hy => (nomatch hy)⟩
 | false =>
  have hlen : l.length <= 200 := by
   unfold ledger_Check at h1
   cases hd : decide ((l.length : Int) > 200) with
   | true => rw [hd] at h1; cases h1
   | false => have := of_decide_eq_false hd; omega
  simp only [cond_false]
  cases (((!(ledger_name user)) || (!(ledger_name account))) || (decide (n < 0))) with
  | true => exact ⟨Nat.zero_le _, fun y hy => (nomatch hy)⟩
  | false =>
   have hb := bsu_le l (⟨user, account, 0, 0⟩ : Usage) ledger_Charge_t3 h.1
   have put : ∀ (L : List Usage) (i : Nat) (p q : Int), (∀ y ∈ L, y.sz) -> ∀ y ∈ (L.set i { (L.getD i Usage.zero) with used := p }).set i { ((L.set i { (L.getD i Usage.zero) with used := p }).getD i Usage.zero) with share := q }, y.sz := by
    intro L i p q hL
    have g1 := getD_sz (i := i) hL (Usage.szz _)
    have h2 := set_sz (P := fun y : Usage => y.sz) hL (x := ({ (L.getD i Usage.zero) with used := p } : Usage)) ⟨g1.1, g1.2⟩ i
    have g2 := getD_sz (i := i) h2 (Usage.szz _)
    exact set_sz (P := fun y : Usage => y.sz) h2 (x := ({ ((L.set i { (L.getD i Usage.zero) with used := p }).getD i Usage.zero) with share := q } : Usage)) ⟨g2.1, g2.2⟩ i
   simp only [cond_false]
   cases (!(ledger_Charge_t1 l user account).2) with
   | true =>
    simp only [cond_true]
    cases ((l.length : Int) == 200) with
    | true => exact ⟨Nat.zero_le _, fun y hy => (nomatch hy)⟩
    | false =>
     refine ⟨?_, put _ _ _ _ ?_⟩
     ·show List.length (List.set (List.set (ledger_insert_Usage l _ _) _ _) _ _) <= _
      rw [List.length_set, List.length_set, ledger_insert_len _ _ _ hb.1 hb.2]
      omega
     ·intro y hy
      have hy : y ∈ ((((List.replicate 0 Usage.zero) ++ (List.take _ l)) ++ ([⟨user, account, 0, 0⟩] : List Usage)) ++ (List.drop _ l)) := hy
      rcases List.mem_append.1 hy with hy | hy
      ·rcases List.mem_append.1 hy with hy | hy
       ·rcases List.mem_append.1 hy with hy | hy
        ·exact (nomatch hy)
        ·exact h.2 y (List.mem_of_mem_take hy)
       ·rw [List.mem_singleton.1 hy]; exact ⟨hu, ha⟩
      ·exact h.2 y (List.mem_of_mem_drop hy)
   | false =>
    refine ⟨?_, put _ _ _ _ h.2⟩
    show List.length (List.set (List.set l _ _) _ _) <= _
    rw [List.length_set, List.length_set]
    exact h.1
theorem tick_led {c : State} (h : c.sz) {user account : ByteArray} (hu : user.size <= 4294967296) (ha : account.size <= 4294967296) {n : Int} (hc : ((ledger_Charge c.ledger user account n).2 == 0) = true) : ({ c with ledger := (ledger_Charge c.ledger user account n).1 } : State).sz :=
 ⟨h.1, h.2.1, h.2.2.1, h.2.2.2.1, h.2.2.2.2.1, ledger_Charge_sz h.2.2.2.2.2 hu ha hc⟩
def ledger_Decay_g1 (l : List Usage) : Nat -> Nat -> List Usage -> (List Usage)
 | 0, _, _ => []
 | m + 1, i, c => bif (decide ((i : Int) < (l.length : Int))) then ledger_Decay_g1 l m (i + 1) (c.set i { (c.getD i Usage.zero) with share := (sat_Half ((c.getD i Usage.zero).share)) }) else c
def ledger_Decay_k1 (c : List Usage) : (List Usage) := c
def ledger_Decay (l : List Usage) : (List Usage) := bif ((ledger_Check l) != 0) then [] else ledger_Decay_k1 (ledger_Decay_g1 l ((Int.toNat ((l.length : Int) - (0 : Int))) + 1) 0 l)
theorem ledger_Decay_c (l : List Usage) (hs0 : l.length <= 4294967296 ∧ (∀ y ∈ l, y.sz)) : ∀ objs, AGives Tryz.prog 35 [usageL l] objs (usageL (ledger_Decay l)) := by
 generalize hR : ledger_Decay l = R; refine ga (.cons lw .nil) lw (kp 5 [7, 11, 12, 13]) Tryz.func35 ?_; have hk0 := hs0; obtain ⟨z5, z6⟩ : l.length <= 4294967296 ∧ (∀ y ∈ l, y.sz) := hs0; refine us (ledger_Check_c l szA _) ?_; refine ai (fun h1 => ?_) (fun h2 => ?_)
 ·obtain rfl := foll hR (ct h1 rfl); exact ret_seen lw (seen_nil)
 ·refine us (mv [] (slices_Clone_Usage_o l szA) .nil (dl lw .nil) (rO rr .nil) (rw_ 0 0 rfl)) ?_; refine loop_start2 (fun (i : Nat) (c : List Usage) => ∃ m, (Int.toNat ((l.length : Int) - (i : Int))) < m ∧ ledger_Decay_k1 (ledger_Decay_g1 l m i c) = R ∧ c.length = l.length ∧ (i : Int) <= (l.length : Int)) (fun i c => (Int.toNat ((l.length : Int) - (i : Int)))) (fun i c => [(2, AVal.lit (.slice none 0 0)), (3, AVal.own 0 0 4 0 c.length), (11, I (l.length : Int)), (12, I (i : Int))]) (fun i c => [(0, AObj.row 67 4 (c.map Usage.cells))]) 0 l (wk [0] (tO rfl (tl eqA) .nil) (s1 (sv (to 0 lnA) (s1 (s1 .nil))))) ⟨_, Nat.lt_succ_self _, foll hR (cf h2 rfl), by exact exA⟩ ?_; clear hR; rintro i c ⟨m, hm, hR, hx⟩; (try dsimp only at hR hm hx); obtain ⟨m, rfl⟩ := sucA m; refine ai (fun h3 => ?_) (fun h4 => ?_)
  ·have qh3 := of_decide_eq_true h3; refine ai gkA ?_; refine ⟨_, evalOp_load rfl rfl rfl (elemI_at Usage.zero i roA ckA) rfl, ?_⟩; refine us (sat_Half_c ((c.getD i Usage.zero).share) _) ?_; refine ai gkA ?_; refine ⟨_, evalOp_store rfl rfl rfl rfl (elemI_at Usage.zero i roA ckA) rfl rfl (set_map i { (c.getD i Usage.zero) with share := (sat_Half ((c.getD i Usage.zero).share)) } roA rfl), ?_⟩; exact loop_next2 (i + 1) (c.set i { (c.getD i Usage.zero) with share := (sat_Half ((c.getD i Usage.zero).share)) }) (wk [0] (tO rfl (tl eqA) .nil) (s1 (sv (to 0 lnA) (s1 (sv (turn_eq (I_eq (wr omA)) lx) .nil))))) omA ⟨m, by exact omA, foll hR (congrArg (fun p : (List Usage) => ledger_Decay_k1 p) (ct h3 rfl)), by exact exA⟩
  ·have qh4 := of_decide_eq_false h4; replace hR : ledger_Decay_k1 c = R := fo2 (fun p : (List Usage) => ledger_Decay_k1 p) (c) hR (cf h4 rfl); obtain rfl := foll hR rfl; exact ret_seen lw (seen_list Usage.zero _ rfl eqA lnA)
def fleet_Note (l : List Node) (n : Int) : Note × Bool := bif (((((fleet_Check l) != 0) || (decide (n < 0))) || (decide (n >= (l.length : Int)))) || ((l.getD (Int.toNat n) Node.zero).want == 0)) then (Note.zero, false) else ((⟨(l.getD (Int.toNat n) Node.zero).want, n, (l.getD (Int.toNat n) Node.zero).job, (l.getD (Int.toNat n) Node.zero).epoch⟩ : Note), true)
theorem fleet_Note_c (l : List Node) (n : Int) (hs0 : l.length <= 4294967296) : ∀ objs, AGives Tryz.prog 95 [nodeL l, I n] objs (AVal.tup [Note.a ((fleet_Note l n).1), Bo ((fleet_Note l n).2)]) := by
 generalize hR : fleet_Note l n = R; refine ga (.cons lw (l1 .nil)) (Low.tup' (.cons (Note.low _ _) (l1 .nil))) (kp 6 [26]) Tryz.func95 ?_; have hk0 := hs0; obtain z3 : l.length <= 4294967296 := hs0; refine us (fleet_Check_c l szA _) ?_; refine ai gkA ?_; refine ai (fun h1 => ?_) (fun h2 => ?_)
 ·obtain rfl := foll hR (ct h1 rfl); exact ret_seen (Low.tup' (.cons (Note.low _ _) (l1 .nil))) (Seen.tup (e1 (e1 .nil)))
 ·refine dchk (by kernel_rfl) ?_; refine ai gkA ?_; refine ai gkA ?_; refine ai gkA ?_; (repeat ((first | refine ai rfl ?_ | refine ai (fun _ => rfl) ?_))); obtain rfl := foll hR (cf h2 rfl); exact ret_seen (Low.tup' (.cons (Note.low _ _) (l1 .nil))) (Seen.tup (e1 (e1 .nil)))
def ref05_text_g1 (l : List Int) (at_ : Int) : Nat -> Int -> Token × Int × Int × Int
 | 0, _ => (Token.zero, 0, 0, 0)
 | m + 1, i => bif ((decide (i < (l.length : Int))) && ((l.getD (Int.toNat i) 0) != 34)) then bif ((ref04_Class (l.getD (Int.toNat i) 0)) == 0) then (Token.zero, 0, i, 40) else bif ((l.getD (Int.toNat i) 0) == 92) then bif ((decide ((w64 (i + 1)) < (l.length : Int))) && ((ref04_Class (l.getD (Int.toNat (w64 (i + 1))) 0)) == 0)) then (Token.zero, 0, (w64 (i + 1)), 40) else ref05_text_g1 l at_ m (w64 ((w64 (i + 1)) + 1)) else ref05_text_g1 l at_ m (w64 (i + 1)) else bif (decide (i >= (l.length : Int))) then (Token.zero, 0, at_, 50) else bif ((ref04_Unquote (runesBytes (List.drop (Int.toNat at_) (List.take (Int.toNat (w64 (i + 1))) l)))).2 != 0) then (Token.zero, 0, at_, 50) else ((⟨4, (ref04_Unquote (runesBytes (List.drop (Int.toNat at_) (List.take (Int.toNat (w64 (i + 1))) l)))).1, 0, at_⟩ : Token), (w64 (i + 1)), 0, 0)
def ref05_text (l : List Int) (at_ : Int) : Token × Int × Int × Int := ref05_text_g1 l at_ ((Int.toNat ((l.length : Int) - (w64 (at_ + 1)))) + 1) (w64 (at_ + 1))
theorem ref05_text_c (l : List Int) (at_ : Int) (hs0 : l.length <= 4294967296) (hp0 : 0 <= at_ ∧ at_ < (l.length : Int) ∧ l.length <= 400) : ∀ objs, AGives Tryz.prog 227 [runes l, I at_] objs (AVal.tup [Token.a ((ref05_text l at_).1), I ((ref05_text l at_).2.1), I ((ref05_text l at_).2.2.1), I ((ref05_text l at_).2.2.2)]) := by
 generalize hR : ref05_text l at_ = R; refine ga (.cons lw (l1 .nil)) (Low.tup' (.cons (Token.low _ _) (l1 (l1 (l1 .nil))))) (kp 11 [23, 29, 36, 50, 58, 72]) Tryz.func227 ?_; have hk0 := hs0; obtain z13 : l.length <= 4294967296 := hs0; have hw0 : w64 (at_ + 1) = at_ + 1 := wr (by omega); refine loop_start1 (fun (i : Int) => ∃ m, (Int.toNat ((l.length : Int) - i)) < m ∧ ref05_text_g1 l at_ m i = R ∧ at_ < i ∧ i <= (l.length : Int) + 1) (fun i => (Int.toNat ((l.length : Int) - i))) (fun i => [(0, runes l), (1, I at_), (4, AVal.ptr 0 0 4 0 0), (5, I 0), (6, I 0), (7, I 0), (8, I i)]) (fun i => [(0, AObj.row 191 4 [[I 0, Sg ⟨#[]⟩, I 0, I 0]])]) (w64 (at_ + 1)) (wk [0] (tO rfl (ts Token.lo) .nil) (sl lw (s1 (sv (turn_ptr 0 rfl rfl) (s1 (s1 (s1 (s1 .nil)))))))) ⟨_, Nat.lt_succ_self _, foll hR rfl, by exact exA⟩ ?_; clear hR; rintro i ⟨m, hm, hR, hx⟩; (try dsimp only at hR hm hx); obtain ⟨m, rfl⟩ := sucA m; refine ai gkA ?_; refine ai (fun h1 => ?_) (fun h2 => ?_)
 ·have hq1 := of_decide_eq_true ((Bool.and_eq_true _ _).mp h1).1; have hw1 : w64 (i + 1) = i + 1 := wr (by omega); have hw2 : w64 (i + 1 + 1) = i + 1 + 1 := wr (by omega); refine ai gkA ?_; refine us (ref04_Class_c (l.getD (Int.toNat i) 0) _) ?_; refine ai (fun h3 => ?_) (fun h4 => ?_)
  ·obtain rfl := foll hR (ct h1 (ct h3 rfl)); exact ret_seen (Low.tup' (.cons (Token.low _ _) (l1 (l1 (l1 .nil))))) (Seen.tup (e1 (e1 (e1 (e1 .nil)))))
  ·refine ai gkA ?_; refine ai (fun h5 => ?_) (fun h6 => ?_)
   ·refine ai gkA ?_; (first | apply u2 | apply u3 | apply u4 | apply us); exact ref04_Class_c (l.getD (Int.toNat (w64 (i + 1))) 0) _; refine ai (fun h7 => ?_) (fun h8 => ?_)
    ·obtain rfl := foll hR (ct h1 (cf h4 (ct h5 (ct h7 rfl)))); exact ret_seen (Low.tup' (.cons (Token.low _ _) (l1 (l1 (l1 .nil))))) (Seen.tup (e1 (e1 (e1 (e1 .nil)))))
    ·exact loop_next1 (w64 ((w64 (i + 1)) + 1)) (wk [0] (tO rfl (ts Token.lo) .nil) (sl lw (s1 (sv (turn_ptr 0 rfl rfl) (s1 (s1 (s1 (s1 .nil)))))))) omA ⟨m, by exact omA, foll hR (ct h1 (cf h4 (ct h5 (cf h8 rfl)))), by exact exA⟩
   ·exact loop_next1 (w64 (i + 1)) (wk [0] (tO rfl (ts Token.lo) .nil) (sl lw (s1 (sv (turn_ptr 0 rfl rfl) (s1 (s1 (s1 (s1 .nil)))))))) omA ⟨m, by exact omA, foll hR (ct h1 (cf h4 (cf h6 rfl))), by exact exA⟩
 ·refine ai (fun h9 => ?_) (fun h10 => ?_)
  ·have qh9 := of_decide_eq_true h9; obtain rfl := foll hR (cf h2 (ct h9 rfl)); exact ret_seen (Low.tup' (.cons (Token.low _ _) (l1 (l1 (l1 .nil))))) (Seen.tup (e1 (e1 (e1 (e1 .nil)))))
  ·have qh10 := of_decide_eq_false h10; refine ai gkA ?_; (first | refine ⟨(List.drop (Int.toNat at_) (List.take (Int.toNat (w64 (i + 1))) l)), by exact cvA, ?_⟩ | refine ⟨_, fun _ => ⟨(List.drop (Int.toNat at_) (List.take (Int.toNat (w64 (i + 1))) l)), by exact cvA, rfl, rfl⟩, ?_⟩ | refine ⟨_, rfl, ⟨(List.drop (Int.toNat at_) (List.take (Int.toNat (w64 (i + 1))) l)), by exact cvA, Sub.refl _, rfl⟩, ?_⟩); refine us (ref04_Unquote_c (runesBytes (List.drop (Int.toNat at_) (List.take (Int.toNat (w64 (i + 1))) l))) szA _) ?_; refine ai (fun h11 => ?_) (fun h12 => ?_)
   ·obtain rfl := foll hR (cf h2 (cf h10 (ct h11 rfl))); exact ret_seen (Low.tup' (.cons (Token.low _ _) (l1 (l1 (l1 .nil))))) (Seen.tup (e1 (e1 (e1 (e1 .nil)))))
   ·obtain rfl := foll hR (cf h2 (cf h10 (cf h12 rfl))); exact ret_seen (Low.tup' (.cons (Token.low _ _) (l1 (l1 (l1 .nil))))) (Seen.tup (e1 (e1 (e1 (e1 .nil)))))
theorem ref05_text_lt1 (l : List Int) (at_ : Int) (h : l.length <= 400) : ∀ (m : Nat) (i : Int), at_ < i -> 0 <= at_ -> i <= (l.length : Int) + 1 -> (Int.toNat ((l.length : Int) - i)) < m -> ((ref05_text_g1 l at_ m i).2.2.2 != 0) = false -> at_ < (ref05_text_g1 l at_ m i).2.1 ∧ (ref05_text_g1 l at_ m i).2.1 <= (l.length : Int)
 | 0, i, _, _, _, hm => absurd hm (by omega)
 | m + 1, i, h0, hz, h1, hm => by
  rw [ref05_text_g1]
  cases hd : ((decide (i < (l.length : Int))) && ((l.getD (Int.toNat i) 0) != 34)) with
  | false =>
   simp only [cond_false]
   cases hi : (decide (i >= (l.length : Int))) with
   | true => intro h; cases h
   | false =>
    have hlt := of_decide_eq_false hi
    simp only [cond_false]
    cases ((ref04_Unquote (runesBytes (List.drop (Int.toNat at_) (List.take (Int.toNat (w64 (i + 1))) l)))).2 != 0) with
    | true => intro h; cases h
    | false =>
     intro _
     have hw : w64 (i + 1) = i + 1 := wr (by omega)
     simp only [cond_false]
     rw [hw]
     omega
  | true =>
   have hlt := of_decide_eq_true ((Bool.and_eq_true _ _).mp hd).1
   have hw : w64 (i + 1) = i + 1 := wr (by omega)
   have hw2 : w64 (i + 1 + 1) = i + 1 + 1 := wr (by omega)
   simp only [cond_true]
   cases ((ref04_Class (l.getD (Int.toNat i) 0)) == 0) with
   | true => intro h; cases h
   | false =>
    simp only [cond_false]
    rw [hw]
    cases ((l.getD (Int.toNat i) 0) == 92) with
    | true =>
     simp only [cond_true]
     cases ((decide ((i + 1) < (l.length : Int))) && ((ref04_Class (l.getD (Int.toNat (i + 1)) 0)) == 0)) with
     | true => intro h; cases h
     | false =>
      simp only [cond_false]
      rw [hw2]
      exact ref05_text_lt1 l at_ h m _ (by omega) hz (by omega) (by omega)
    | false => exact ref05_text_lt1 l at_ h m _ (by omega) hz (by omega) (by omega)
theorem ref05_text_lt (l : List Int) (at_ : Int) (h0 : 0 <= at_) (h1 : at_ < (l.length : Int)) (h : l.length <= 400) (he : ((ref05_text l at_).2.2.2 != 0) = false) : at_ < (ref05_text l at_).2.1 ∧ (ref05_text l at_).2.1 <= (l.length : Int) := by
 have hw : w64 (at_ + 1) = at_ + 1 := wr (by omega)
 unfold ref05_text at he ⊢
 rw [hw] at he ⊢
 exact ref05_text_lt1 l at_ h _ _ (by omega) h0 (by omega) (Nat.lt_succ_self _) he
def ref14_state (j : Job) : Bool := bif (j.state == 1) then bif (((j.start != 0) || (j.limit != 0)) || (j.nodes != 0)) then false else bif (j.promise == (-1)) then (j.choice == 0) else (((ref14_Tick j.promise) && (decide ((ref14_wall j.shape j.choice) > 0))) && (!j.held)) else bif (j.state == 2) then bif ((((((((ref14_wall j.shape j.choice) == 0) || j.held) || (!(ref14_Tick j.start))) || (!(ref14_Tick j.promise))) || (decide (j.start > j.promise))) || (!(ref14_Tick j.limit))) || (j.limit != (w64 (j.start + (ref14_wall j.shape j.choice))))) then false else ((ref14_Few j.nodes) && (ref07_Allows j.shape j.choice ((ref09_List j.nodes).length : Int))) else ((((((((ref14_Ended j.state) && (j.nodes == 0)) && (ref14_Tick j.start)) && (ref14_Tick j.limit)) && (decide (j.promise >= (-1)))) && (decide (j.promise <= 1000000))) && (decide (j.choice >= 0))) && (decide (j.choice <= 48)))
theorem ref14_state_c (j : Job) (hs0 : j.sz) : ∀ objs, AGives Tryz.prog 128 [Job.a j] objs (Bo (ref14_state j)) := by
 generalize hR : ref14_state j = R; refine ga (.cons (Job.low _ _) .nil) lx (kp 5 [10, 11, 25, 28, 48, 94]) Tryz.func128 ?_; have hk0 := hs0; obtain ⟨z11, z12, z13, z14, z15⟩ : j.name.size <= 4294967296 ∧ j.user.size <= 4294967296 ∧ j.account.size <= 4294967296 ∧ (j.shape.alts.length <= 4294967296) ∧ j.after.length <= 4294967296 := hs0; refine us (ref09_List_c j.nodes _) ?_; refine ai (fun h1 => ?_) (fun h2 => ?_)
 ·refine ai (fun h3 => ?_) (fun h4 => ?_)
  ·obtain rfl := foll hR (ct h1 (ct h3 rfl)); exact ret_seen lx sr
  ·refine ai (fun h5 => ?_) (fun h6 => ?_)
   ·obtain rfl := foll hR (ct h1 (cf h4 (ct h5 rfl))); exact ret_seen lx sr
   ·refine us (ref14_Tick_c j.promise _) ?_; (first | apply u2 | apply u3 | apply u4 | apply us); exact ref14_wall_c j.shape j.choice szA _; obtain rfl := foll hR (ct h1 (cf h4 (cf h6 rfl))); exact ret_seen lx sr
 ·refine ai (fun h7 => ?_) (fun h8 => ?_)
  ·refine us (ref14_wall_c j.shape j.choice szA _) ?_; (first | apply u2 | apply u3 | apply u4 | apply us); exact ref14_Tick_c j.start _; (first | apply u2 | apply u3 | apply u4 | apply us); exact ref14_Tick_c j.promise _; (first | apply u2 | apply u3 | apply u4 | apply us); exact ref14_Tick_c j.limit _; refine ai (fun h9 => ?_) (fun h10 => ?_)
   ·obtain rfl := foll hR (cf h2 (ct h7 (ct h9 rfl))); exact ret_seen lx sr
   ·refine us (ref14_Few_c j.nodes _) ?_; (first | apply u2 | apply u3 | apply u4 | apply us); exact ref07_Allows_c j.shape j.choice ((ref09_List j.nodes).length : Int) szA _; obtain rfl := foll hR (cf h2 (ct h7 (cf h10 rfl))); exact ret_seen lx sr
  ·refine us (ref14_Ended_c j.state _) ?_; (first | apply u2 | apply u3 | apply u4 | apply us); exact ref14_Tick_c j.start _; (first | apply u2 | apply u3 | apply u4 | apply us); exact ref14_Tick_c j.limit _; obtain rfl := foll hR (cf h2 (cf h8 rfl)); exact ret_seen lx sr
end Go.Proofs.YtigcpfbpmnppcaaGreatDoor
namespace Go.Proofs.YtigcpfbpmnppcaaGreatDoor
set_option linter.unusedSimpArgs false
set_option linter.unusedVariables false
open Go.Fw
set_option maxRecDepth 20000
set_option maxHeartbeats 4000000
attribute [local irreducible] ACalls AMoves
def ref25_resize_g2 (r_ : Resize) : List Node -> Int -> Nat -> Sum (Bool) (Int × Nat)
 | [], left, n1 => Sum.inr (left, n1)
 | x_ :: r, left, n1 => bif ((x_.job != r_.job) || (x_.state == 3)) then ref25_resize_g2 r_ r left (n1 + 1) else bif (!(ref25_moved x_ (n1 : Int) r_)) then Sum.inl false else bif ((x_.state == 1) && (!(ref25_Has r_.nodes (n1 : Int)))) then ref25_resize_g2 r_ r (w64 (left + 1)) (n1 + 1) else ref25_resize_g2 r_ r left (n1 + 1)
def ref25_resize_g1 (s : State) (r_ : Resize) : Nat -> Nat -> Bool
 | 0, _ => false
 | m + 1, n => bif (decide ((n : Int) < 64)) then bif (((ref25_Has r_.said (n : Int)) && (!(ref25_Has r_.nodes (n : Int)))) || ((ref25_Has r_.nodes (n : Int)) && (((decide ((n : Int) >= (s.nodes.length : Int))) || ((s.nodes.getD n Node.zero).job != r_.job)) || ((s.nodes.getD n Node.zero).state == 3)))) then false else ref25_resize_g1 s r_ m (n + 1) else (Sum.elim id (fun p1 : Int × Nat => bif r_.grow then (decide ((w64 (((ref09_List ((ref25_Run s r_.job).1.nodes)).length : Int) + ((ref09_List r_.nodes).length : Int))) <= (ref25_Run s r_.job).1.shape.max)) else ((decide (p1.1 > 0)) && (decide ((w64 (((ref09_List ((ref25_Run s r_.job).1.nodes)).length : Int) - ((ref09_List r_.nodes).length : Int))) >= (ref25_Run s r_.job).1.shape.min))))) (ref25_resize_g2 r_ s.nodes 0 0)
def ref25_resize (s : State) (r_ : Resize) : Bool := bif (((((!(ref25_Run s r_.job).2) || ((ref25_Run s r_.job).1.shape.kind != 3)) || (r_.nodes == 0)) || (decide (r_.since < 0))) || (decide (r_.since > 1000000))) then false else ref25_resize_g1 s r_ ((Int.toNat (64 - (0 : Int))) + 1) 0
theorem ref25_resize_c (s : State) (r_ : Resize) (hs0 : s.sz) : ∀ objs, AGives Tryz.prog 84 [State.a s, Resize.a r_] objs (Bo (ref25_resize s r_)) := by
 generalize hR : ref25_resize s r_ = R; refine ga (.cons (State.low _ _) (.cons (Resize.low _ _) .nil)) lx (kp 13 [42, 44, 90, 95, 112, 117, 127, 139]) Tryz.func84 ?_; have hk0 := hs0; obtain ⟨z17, z18, z19, z20, z21, z22, z23⟩ := hs0; refine us (ref25_Run_c s r_.job szA _) ?_; refine ai (fun h1 => ?_) (fun h2 => ?_)
 ·obtain rfl := foll hR (ct h1 rfl); exact ret_seen lx sr
 ·refine loop_start1 (fun (n : Nat) => ∃ m, (Int.toNat (64 - (n : Int))) < m ∧ ref25_resize_g1 s r_ m n = R) (fun n => (Int.toNat (64 - (n : Int)))) (fun n => [(2, AVal.ptr 0 0 8 0 0), (3, AVal.ptr 1 0 5 0 0), (4, Bo false), (5, AVal.ptr 2 0 20 0 0), (7, I (n : Int))]) (fun n => [(0, AObj.row 28 8 [[I s.now, nodeL s.nodes, jobL s.jobs, resizeL s.resizes, bookL s.books, usageL s.ledger, I s.nextJob, I s.nextBook]]), (0, AObj.row 88 5 [[I r_.job, Bo r_.grow, U r_.nodes, U r_.said, I r_.since]]), (0, AObj.row 52 20 [[I ((ref25_Run s r_.job).1.id), Sg ((ref25_Run s r_.job).1.name), Sg ((ref25_Run s r_.job).1.user), Sg ((ref25_Run s r_.job).1.account), I ((ref25_Run s r_.job).1.shape.kind), altL ((ref25_Run s r_.job).1.shape.alts), I ((ref25_Run s r_.job).1.shape.min), I ((ref25_Run s r_.job).1.shape.max), I ((ref25_Run s r_.job).1.shape.wall), I ((ref25_Run s r_.job).1.prio), depL ((ref25_Run s r_.job).1.after), I ((ref25_Run s r_.job).1.state), Bo ((ref25_Run s r_.job).1.held), I ((ref25_Run s r_.job).1.born), I ((ref25_Run s r_.job).1.promise), I ((ref25_Run s r_.job).1.choice), I ((ref25_Run s r_.job).1.start), I ((ref25_Run s r_.job).1.limit), U ((ref25_Run s r_.job).1.nodes), I ((ref25_Run s r_.job).1.used)]])]) 0 (wk [0, 1, 2] (tO rfl (ts State.lo) (tO rfl (ts Resize.lo) (tO rfl (ts Job.lo) .nil))) (sv (turn_ptr 0 rfl rfl) (sv (turn_ptr 1 rfl rfl) (s1 (sv (turn_ptr 2 rfl rfl) (s1 .nil)))))) ⟨_, Nat.lt_succ_self _, foll hR (cf h2 rfl)⟩ ?_; clear hR; rintro n ⟨m, hm, hR⟩; (try dsimp only at hR hm); obtain ⟨m, rfl⟩ := sucA m; refine ai (fun h3 => ?_) (fun h4 => ?_)
  ·have qh3 := of_decide_eq_true h3; refine dchk (by kernel_rfl) ?_; (first | apply u2 | apply u3 | apply u4 | apply us); exact ref25_Has_c r_.said (n : Int) _; (first | apply u2 | apply u3 | apply u4 | apply us); exact ref25_Has_c r_.nodes (n : Int) _; (first | apply u2 | apply u3 | apply u4 | apply us); exact ref25_Has_c r_.nodes (n : Int) _; refine ai gkA ?_; refine ai gkA ?_; (repeat ((first | refine ai rfl ?_ | refine ai (fun _ => rfl) ?_ | refine ai (fun _ => ref25_Has_c r_.said (n : Int) _) ?_ | refine ai (fun _ => ref25_Has_c r_.nodes (n : Int) _) ?_ | refine ai (fun _ => ref25_Has_c r_.nodes (n : Int) _) ?_))); refine ai (fun h5 => ?_) (fun h6 => ?_)
   ·obtain rfl := foll hR (ct h3 (ct h5 rfl)); exact ret_seen lx sr
   ·exact loop_next1 (n + 1) (wk [0, 1, 2] (tO rfl (ts State.lo) (tO rfl (ts Resize.lo) (tO rfl (ts Job.lo) .nil))) (sv (turn_ptr 0 rfl rfl) (sv (turn_ptr 1 rfl rfl) (s1 (sv (turn_ptr 2 rfl rfl) (sv (turn_eq (I_eq (wr omA)) lx) .nil)))))) omA ⟨m, by exact omA, foll hR (ct h3 (cf h6 rfl))⟩
  ·have qh4 := of_decide_eq_false h4; obtain ⟨m1_, rfl⟩ : ∃ q, q = m := ⟨m, rfl⟩; refine loop_start2 (fun (left : Int) (n1 : Nat) => (Sum.elim id (fun p1 : Int × Nat => bif r_.grow then (decide ((w64 (((ref09_List ((ref25_Run s r_.job).1.nodes)).length : Int) + ((ref09_List r_.nodes).length : Int))) <= (ref25_Run s r_.job).1.shape.max)) else ((decide (p1.1 > 0)) && (decide ((w64 (((ref09_List ((ref25_Run s r_.job).1.nodes)).length : Int) - ((ref09_List r_.nodes).length : Int))) >= (ref25_Run s r_.job).1.shape.min))))) (ref25_resize_g2 r_ (List.drop n1 s.nodes) left n1) = R ∧ n1 <= s.nodes.length) (fun left n1 => s.nodes.length - n1) (fun left n1 => [(2, AVal.ptr 0 0 8 0 0), (3, AVal.ptr 1 0 5 0 0), (4, Bo false), (5, AVal.ptr 2 0 20 0 0), (8, I left), (9, I (n1 : Int))]) (fun left n1 => [(0, AObj.row 28 8 [[I s.now, nodeL s.nodes, jobL s.jobs, resizeL s.resizes, bookL s.books, usageL s.ledger, I s.nextJob, I s.nextBook]]), (0, AObj.row 88 5 [[I r_.job, Bo r_.grow, U r_.nodes, U r_.said, I r_.since]]), (0, AObj.row 52 20 [[I ((ref25_Run s r_.job).1.id), Sg ((ref25_Run s r_.job).1.name), Sg ((ref25_Run s r_.job).1.user), Sg ((ref25_Run s r_.job).1.account), I ((ref25_Run s r_.job).1.shape.kind), altL ((ref25_Run s r_.job).1.shape.alts), I ((ref25_Run s r_.job).1.shape.min), I ((ref25_Run s r_.job).1.shape.max), I ((ref25_Run s r_.job).1.shape.wall), I ((ref25_Run s r_.job).1.prio), depL ((ref25_Run s r_.job).1.after), I ((ref25_Run s r_.job).1.state), Bo ((ref25_Run s r_.job).1.held), I ((ref25_Run s r_.job).1.born), I ((ref25_Run s r_.job).1.promise), I ((ref25_Run s r_.job).1.choice), I ((ref25_Run s r_.job).1.start), I ((ref25_Run s r_.job).1.limit), U ((ref25_Run s r_.job).1.nodes), I ((ref25_Run s r_.job).1.used)]])]) 0 0 (wk [0, 1, 2] (tO rfl (ts State.lo) (tO rfl (ts Resize.lo) (tO rfl (ts Job.lo) .nil))) (sv (turn_ptr 0 rfl rfl) (sv (turn_ptr 1 rfl rfl) (s1 (sv (turn_ptr 2 rfl rfl) (s1 (s1 .nil))))))) ⟨foll hR (cf h4 rfl), by exact omA⟩ ?_; clear hR; rintro left n1 ⟨hR, hj⟩; (try dsimp only at hR hj); refine ai (fun h7 => ?_) (fun h8 => ?_)
   ·have hlt := ltA h7; rw [drop_getD Node.zero hlt] at hR; refine ai gkA ?_; refine ai (fun h9 => ?_) (fun h10 => ?_)
    ·exact loop_next2 left (n1 + 1) (wk [0, 1, 2] (tO rfl (ts State.lo) (tO rfl (ts Resize.lo) (tO rfl (ts Job.lo) .nil))) (sv (turn_ptr 0 rfl rfl) (sv (turn_ptr 1 rfl rfl) (s1 (sv (turn_ptr 2 rfl rfl) (s1 (sv (turn_eq (I_eq (wr omA)) lx) .nil))))))) omA ⟨foll hR (congrArg (Sum.elim id (fun p1 : Int × Nat => bif r_.grow then (decide ((w64 (((ref09_List ((ref25_Run s r_.job).1.nodes)).length : Int) + ((ref09_List r_.nodes).length : Int))) <= (ref25_Run s r_.job).1.shape.max)) else ((decide (p1.1 > 0)) && (decide ((w64 (((ref09_List ((ref25_Run s r_.job).1.nodes)).length : Int) - ((ref09_List r_.nodes).length : Int))) >= (ref25_Run s r_.job).1.shape.min))))) (ct h9 rfl)), by exact omA⟩
    ·refine us (ref25_moved_c (s.nodes.getD n1 Node.zero) (n1 : Int) r_ _) ?_; refine ai (fun h11 => ?_) (fun h12 => ?_)
     ·obtain rfl := foll hR (congrArg (Sum.elim id (fun p1 : Int × Nat => bif r_.grow then (decide ((w64 (((ref09_List ((ref25_Run s r_.job).1.nodes)).length : Int) + ((ref09_List r_.nodes).length : Int))) <= (ref25_Run s r_.job).1.shape.max)) else ((decide (p1.1 > 0)) && (decide ((w64 (((ref09_List ((ref25_Run s r_.job).1.nodes)).length : Int) - ((ref09_List r_.nodes).length : Int))) >= (ref25_Run s r_.job).1.shape.min))))) (cf h10 (ct h11 rfl))); exact ret_seen lx sr
     ·(first | apply u2 | apply u3 | apply u4 | apply us); exact ref25_Has_c r_.nodes (n1 : Int) _; refine ai (fun h13 => ?_) (fun h14 => ?_)
      ·exact loop_next2 (w64 (left + 1)) (n1 + 1) (wk [0, 1, 2] (tO rfl (ts State.lo) (tO rfl (ts Resize.lo) (tO rfl (ts Job.lo) .nil))) (sv (turn_ptr 0 rfl rfl) (sv (turn_ptr 1 rfl rfl) (s1 (sv (turn_ptr 2 rfl rfl) (s1 (sv (turn_eq (I_eq (wr omA)) lx) .nil))))))) omA ⟨foll hR (congrArg (Sum.elim id (fun p1 : Int × Nat => bif r_.grow then (decide ((w64 (((ref09_List ((ref25_Run s r_.job).1.nodes)).length : Int) + ((ref09_List r_.nodes).length : Int))) <= (ref25_Run s r_.job).1.shape.max)) else ((decide (p1.1 > 0)) && (decide ((w64 (((ref09_List ((ref25_Run s r_.job).1.nodes)).length : Int) - ((ref09_List r_.nodes).length : Int))) >= (ref25_Run s r_.job).1.shape.min))))) (cf h10 (cf h12 (ct h13 rfl)))), by exact omA⟩
      ·exact loop_next2 left (n1 + 1) (wk [0, 1, 2] (tO rfl (ts State.lo) (tO rfl (ts Resize.lo) (tO rfl (ts Job.lo) .nil))) (sv (turn_ptr 0 rfl rfl) (sv (turn_ptr 1 rfl rfl) (s1 (sv (turn_ptr 2 rfl rfl) (s1 (sv (turn_eq (I_eq (wr omA)) lx) .nil))))))) omA ⟨foll hR (congrArg (Sum.elim id (fun p1 : Int × Nat => bif r_.grow then (decide ((w64 (((ref09_List ((ref25_Run s r_.job).1.nodes)).length : Int) + ((ref09_List r_.nodes).length : Int))) <= (ref25_Run s r_.job).1.shape.max)) else ((decide (p1.1 > 0)) && (decide ((w64 (((ref09_List ((ref25_Run s r_.job).1.nodes)).length : Int) - ((ref09_List r_.nodes).length : Int))) >= (ref25_Run s r_.job).1.shape.min))))) (cf h10 (cf h12 (cf h14 rfl)))), by exact omA⟩
   ·rw [drop_none (l := s.nodes) (j := n1) (geA h8)] at hR; replace hR : (Sum.elim id (fun p1 : Int × Nat => bif r_.grow then (decide ((w64 (((ref09_List ((ref25_Run s r_.job).1.nodes)).length : Int) + ((ref09_List r_.nodes).length : Int))) <= (ref25_Run s r_.job).1.shape.max)) else ((decide (p1.1 > 0)) && (decide ((w64 (((ref09_List ((ref25_Run s r_.job).1.nodes)).length : Int) - ((ref09_List r_.nodes).length : Int))) >= (ref25_Run s r_.job).1.shape.min))))) (Sum.inr (left, n1)) = R := foll hR (congrArg (Sum.elim id (fun p1 : Int × Nat => bif r_.grow then (decide ((w64 (((ref09_List ((ref25_Run s r_.job).1.nodes)).length : Int) + ((ref09_List r_.nodes).length : Int))) <= (ref25_Run s r_.job).1.shape.max)) else ((decide (p1.1 > 0)) && (decide ((w64 (((ref09_List ((ref25_Run s r_.job).1.nodes)).length : Int) - ((ref09_List r_.nodes).length : Int))) >= (ref25_Run s r_.job).1.shape.min))))) rfl); refine us (ref09_List_c ((ref25_Run s r_.job).1.nodes) _) ?_; refine us (ref09_List_c r_.nodes _) ?_; refine ai (fun h15 => ?_) (fun h16 => ?_)
    ·obtain rfl := foll hR (ct h15 rfl); exact ret_seen lx sr
    ·obtain rfl := foll hR (cf h16 rfl); exact ret_seen lx sr
def ref25_Same (a : State) (b : State) : Bool := ((((((((a.now == b.now) && (a.nextJob == b.nextJob)) && (a.nextBook == b.nextBook)) && (ref12_Same a.nodes b.nodes)) && (ref15_Same a.jobs b.jobs)) && (ref25_SameResizes a.resizes b.resizes)) && (ref19_Same a.books b.books)) && (ref17_Same a.ledger b.ledger))
theorem ref25_Same_c (a : State) (b : State) (hs0 : a.sz) (hs1 : b.sz) : ∀ objs, AGives Tryz.prog 11 [State.a a, State.a b] objs (Bo (ref25_Same a b)) := by
 generalize hR : ref25_Same a b = R; refine ga (.cons (State.low _ _) (.cons (State.low _ _) .nil)) lx (kp 5 []) Tryz.func11 ?_; have hk0 := hs0; obtain ⟨z1, z2, z3, z4, z5, z6, z7⟩ := hs0; have hk1 := hs1; obtain ⟨z8, z9, z10, z11, z12, z13, z14⟩ := hs1; (first | apply u2 | apply u3 | apply u4 | apply us); exact ref12_Same_c a.nodes b.nodes szA szA _; (first | apply u2 | apply u3 | apply u4 | apply us); exact ref15_Same_c a.jobs b.jobs szA szA _; (first | apply u2 | apply u3 | apply u4 | apply us); exact ref25_SameResizes_c a.resizes b.resizes szA szA _; (first | apply u2 | apply u3 | apply u4 | apply us); exact ref19_Same_c a.books b.books szA szA _; (first | apply u2 | apply u3 | apply u4 | apply us); exact ref17_Same_c a.ledger b.ledger szA szA _; obtain rfl := foll hR rfl; exact ret_seen lx sr
end Go.Proofs.YtigcpfbpmnppcaaGreatDoor
namespace Go.Proofs.YtigcpfbpmnppcaaGreatDoor
set_option linter.unusedSimpArgs false
set_option linter.unusedVariables false
open Go.Fw
set_option maxRecDepth 20000
set_option maxHeartbeats 4000000
attribute [local irreducible] ACalls AMoves
def lex_reader_next (r_ : LexReader) : Token × LexReader := bif ((runes_Class (r_.line.getD (Int.toNat r_.at_) 0)) == 2) then ((lex_reader_word r_).1, (lex_reader_word r_).2) else bif ((runes_Class (r_.line.getD (Int.toNat r_.at_) 0)) == 3) then ((lex_reader_count r_).1, (lex_reader_count r_).2) else bif ((r_.line.getD (Int.toNat r_.at_) 0) == 34) then ((lex_reader_text r_).1, (lex_reader_text r_).2) else bif ((decide ((strings_IndexByte ⟨#[61, 58, 44, 45]⟩ (wu8 (r_.line.getD (Int.toNat r_.at_) 0))) >= 0)) && (decide ((r_.line.getD (Int.toNat r_.at_) 0) < 128))) then ((⟨5, (runeStr (r_.line.getD (Int.toNat r_.at_) 0)), 0, 0⟩ : Token), { r_ with at_ := (w64 (r_.at_ + 1)) }) else bif ((runes_Class (r_.line.getD (Int.toNat r_.at_) 0)) == 0) then (Token.zero, (lex_reader_fail r_ r_.at_ 40)) else (Token.zero, (lex_reader_fail r_ r_.at_ 50))
theorem lex_reader_next_c (r_ : LexReader) (hs0 : r_.sz) (hp0 : 0 <= r_.at_ ∧ r_.at_ < (r_.line.length : Int) ∧ r_.line.length <= 400) : AMoves Tryz.prog 238 [AVal.ptr 0 0 4 0 0] [(0, AObj.row 235 4 [[runes r_.line, I r_.at_, I r_.bad, I r_.error]])] 1 (Token.a ((lex_reader_next r_).1)) [(0, AObj.row 235 4 [[runes ((lex_reader_next r_).2.line), I ((lex_reader_next r_).2.at_), I ((lex_reader_next r_).2.bad), I ((lex_reader_next r_).2.error)]])] := by
 generalize hR : lex_reader_next r_ = R; refine mo (kp 4 [20, 26, 32, 37, 56]) Tryz.func238 ?_; have hk0 := hs0; obtain z11 : r_.line.length <= 4294967296 := hs0; refine dchk (by kernel_rfl) ?_; refine ai gkA ?_; (repeat ((first | refine ai rfl ?_ | refine ai (fun _ => rfl) ?_))); refine us (runes_Class_c (r_.line.getD (Int.toNat r_.at_) 0) _) ?_; refine ai (fun h1 => ?_) (fun h2 => ?_)
 ·refine us (mv [0] (lex_reader_word_c r_ szA ckA) (dO (ds LexReader.lo) .nil) (dp .nil) (rO (re LexReader.lo) .nil) (Ren.low _ (Low.agg' (Token.lo)))) ?_; obtain rfl := foll hR (ct h1 rfl); exact rq (tt [0] (tO rfl (ts LexReader.lo) .nil) (turn_low (Low.agg' (Token.lo))))
 ·refine us (runes_Class_c (r_.line.getD (Int.toNat r_.at_) 0) _) ?_; refine ai (fun h3 => ?_) (fun h4 => ?_)
  ·refine us (mv [0] (lex_reader_count_c r_ szA ckA) (dO (ds LexReader.lo) .nil) (dp .nil) (rO (re LexReader.lo) .nil) (Ren.low _ (Low.agg' (Token.lo)))) ?_; obtain rfl := foll hR (cf h2 (ct h3 rfl)); exact rq (tt [0] (tO rfl (ts LexReader.lo) .nil) (turn_low (Low.agg' (Token.lo))))
  ·refine ai (fun h5 => ?_) (fun h6 => ?_)
   ·refine us (mv [0] (lex_reader_text_c r_ szA ckA) (dO (ds LexReader.lo) .nil) (dp .nil) (rO (re LexReader.lo) .nil) (Ren.low _ (Low.agg' (Token.lo)))) ?_; obtain rfl := foll hR (cf h2 (cf h4 (ct h5 rfl))); exact rq (tt [0] (tO rfl (ts LexReader.lo) .nil) (turn_low (Low.agg' (Token.lo))))
   ·refine us (strings_IndexByte_c ⟨#[61, 58, 44, 45]⟩ (wu8 (r_.line.getD (Int.toNat r_.at_) 0)) _) ?_; refine ai (fun h7 => ?_) (fun h8 => ?_)
    ·obtain rfl := foll hR (cf h2 (cf h4 (cf h6 (ct h7 rfl)))); exact rq (tt [0] (tO rfl (ts LexReader.lo) .nil) (turn_low (Low.agg' (Token.lo))))
    ·refine us (runes_Class_c (r_.line.getD (Int.toNat r_.at_) 0) _) ?_; refine ai (fun h9 => ?_) (fun h10 => ?_)
     ·refine us (mv [0] (lex_reader_fail_c r_ r_.at_ 40) (dO (ds LexReader.lo) .nil) (dp (d1 (d1 .nil))) (rO (re LexReader.lo) .nil) rx) ?_; obtain rfl := foll hR (cf h2 (cf h4 (cf h6 (cf h8 (ct h9 rfl))))); exact rq (tt [0] (tO rfl (ts LexReader.lo) .nil) (turn_low (Low.agg' (Token.lo))))
     ·refine us (mv [0] (lex_reader_fail_c r_ r_.at_ 50) (dO (ds LexReader.lo) .nil) (dp (d1 (d1 .nil))) (rO (re LexReader.lo) .nil) rx) ?_; obtain rfl := foll hR (cf h2 (cf h4 (cf h6 (cf h8 (cf h10 rfl))))); exact rq (tt [0] (tO rfl (ts LexReader.lo) .nil) (turn_low (Low.agg' (Token.lo))))
def Adv (a b : LexReader) : Prop := b.line = a.line ∧ a.at_ <= b.at_ ∧ b.at_ <= (a.line.length : Int) ∧ b.error = a.error ∧ b.bad = a.bad
theorem lex_while_adv (is : Int -> Bool) : ∀ (m : Nat) (c : LexReader), 0 <= c.at_ -> c.at_ <= (c.line.length : Int) -> c.line.length <= 400 -> (Int.toNat ((c.line.length : Int) - c.at_)) < m -> Adv c (lex_reader_while_g1 is m c)
 | 0, c, _, _, _, h => absurd h (by omega)
 | m + 1, c, h0, h1, h2, h => by
  rw [lex_reader_while_g1]
  cases hc : ((decide (c.at_ < (c.line.length : Int))) && (is (c.line.getD (Int.toNat c.at_) 0))) with
  | false => exact ⟨rfl, Int.le_refl _, h1, rfl, rfl⟩
  | true =>
   have hlt := of_decide_eq_true ((Bool.and_eq_true _ _).mp hc).1
   have hw : w64 (c.at_ + 1) = c.at_ + 1 := wr (by omega)
   rw [hw]
   obtain ⟨a, b, d, e, f⟩ := lex_while_adv is m { c with at_ := c.at_ + 1 } (by dsimp only; omega) (by dsimp only; omega) h2 (by dsimp only; omega)
   dsimp only at a b d e f
   exact ⟨a, by simp only [cond_true]; omega, d, e, f⟩
theorem lex_reader_while_adv (r : LexReader) (is : Int -> Bool) (h0 : 0 <= r.at_) (h1 : r.at_ <= (r.line.length : Int)) (h2 : r.line.length <= 400) : Adv r (lex_reader_while r is).2 :=
 lex_while_adv is _ r h0 h1 h2 (Nat.lt_succ_self _)
theorem lex_reader_while_lt (r : LexReader) (is : Int -> Bool) (h0 : 0 <= r.at_) (h1 : r.at_ < (r.line.length : Int)) (h2 : r.line.length <= 400) (h : is (r.line.getD (Int.toNat r.at_) 0) = true) : r.at_ < (lex_reader_while r is).2.at_ := by
 have hw : w64 (r.at_ + 1) = r.at_ + 1 := wr (by omega)
 have e : (lex_reader_while r is).2 = lex_reader_while_g1 is (Int.toNat ((r.line.length : Int) - r.at_)) { r with at_ := r.at_ + 1 } := by
  show lex_reader_while_g1 is ((Int.toNat ((r.line.length : Int) - r.at_)) + 1) r = _
  rw [lex_reader_while_g1, show ((decide (r.at_ < (r.line.length : Int))) && (is (r.line.getD (Int.toNat r.at_) 0))) = true by rw [h, Bool.and_true]; exact decide_eq_true h1, hw]
  rfl
 rw [e]
 have := (lex_while_adv is (Int.toNat ((r.line.length : Int) - r.at_)) { r with at_ := r.at_ + 1 } (by dsimp only; omega) (by dsimp only; omega) h2 (by dsimp only; omega)).2.1
 dsimp only at this
 omega
theorem lex_fail_adv (r : LexReader) (p e : Int) (he : e ≠ 0) : (lex_reader_fail r p e).line = r.line ∧ (lex_reader_fail r p e).at_ = r.at_ ∧ (lex_reader_fail r p e).error ≠ 0 := by
 unfold lex_reader_fail
 cases h : (r.error == 0) with
 | true => exact ⟨rfl, rfl, he⟩
 | false => exact ⟨rfl, rfl, by simpa using h⟩
def Nxt (a b : LexReader) : Prop := b.line = a.line ∧ a.at_ <= b.at_ ∧ b.at_ <= (a.line.length : Int) ∧ (b.error ≠ 0 ∨ a.at_ < b.at_)
theorem lex_word_nxt (r : LexReader) (h0 : 0 <= r.at_) (h1 : r.at_ < (r.line.length : Int)) (h2 : r.line.length <= 400) (hc : ((runes_Class (r.line.getD (Int.toNat r.at_) 0)) == 2) = true) : Nxt r (lex_reader_word r).2 := by
 obtain ⟨a, b, c, _, _⟩ := lex_reader_while_adv r (fun (y : Int) => lex_reader_word_g1 y ([2, 3] : List Int) 0) h0 (by omega) h2
 exact ⟨a, b, c, Or.inr (lex_reader_while_lt r _ h0 h1 h2 (by simp only [lex_reader_word_g1, hc]; rfl))⟩
theorem class_digit (x : Int) (h : (runes_Class x == 3) = true) : 48 <= x ∧ x <= 57 := by
 unfold runes_Class at h
 revert h
 cases ((x == 9) || (x == 32)) with
 | true => simp
 | false =>
  simp only [cond_false]
  cases (((((decide (x < 32)) || ((decide (x >= 127)) && (decide (x <= 160)))) || ((decide (x >= 55296)) && (decide (x <= 57343)))) || (x == 65533)) || (decide (x > 1114111))) with
  | true => simp
  | false =>
   simp only [cond_false]
   cases hd : ((decide (x >= 48)) && (decide (x <= 57))) with
   | true => intro _; simp at hd; omega
   | false =>
    simp only [cond_false]
    cases ((((decide (x >= 97)) && (decide (x <= 122))) || ((decide (x >= 65)) && (decide (x <= 90)))) || (decide (x > 160))) <;> simp
theorem lex_count_nxt (r : LexReader) (h0 : 0 <= r.at_) (h1 : r.at_ < (r.line.length : Int)) (h2 : r.line.length <= 400) (hc : ((runes_Class (r.line.getD (Int.toNat r.at_) 0)) == 3) = true) : Nxt r (lex_reader_count r).2 := by
 obtain ⟨a, b, c, _, _⟩ := lex_reader_while_adv r (fun (y : Int) => (((decide (y >= 48)) && (decide (y <= 57))) || ((decide (y >= 97)) && (decide (y <= 122))))) h0 (by omega) h2
 have hd := class_digit _ hc
 have l := lex_reader_while_lt r (fun (y : Int) => (((decide (y >= 48)) && (decide (y <= 57))) || ((decide (y >= 97)) && (decide (y <= 122))))) h0 h1 h2 (by simp only [decide_eq_true hd.1, decide_eq_true hd.2]; rfl)
 unfold lex_reader_count
 cases (!(lex_digits ((lex_reader_while r (fun (y : Int) => (((decide (y >= 48)) && (decide (y <= 57))) || ((decide (y >= 97)) && (decide (y <= 122)))))).1))) with
 | true => exact ⟨a, b, c, Or.inr l⟩
 | false =>
  simp only [cond_false]
  cases (!(lex_number ((lex_reader_while r (fun (y : Int) => (((decide (y >= 48)) && (decide (y <= 57))) || ((decide (y >= 97)) && (decide (y <= 122)))))).1)).2) with
  | false => exact ⟨a, b, c, Or.inr l⟩
  | true =>
   obtain ⟨f1, f2, f3⟩ := lex_fail_adv (lex_reader_while r (fun (y : Int) => (((decide (y >= 48)) && (decide (y <= 57))) || ((decide (y >= 97)) && (decide (y <= 122)))))).2 r.at_ 50 (by decide)
   exact ⟨f1.trans a, by simp only [cond_true]; rw [f2]; exact b, by simp only [cond_true]; rw [f2]; exact c, Or.inl f3⟩
theorem lex_text_adv : ∀ (m : Nat) (c : LexReader) (b : Bool), 0 <= c.at_ -> c.at_ <= (c.line.length : Int) -> c.line.length <= 400 -> (Int.toNat ((c.line.length : Int) - c.at_)) < m -> Adv c (lex_reader_text_g1 m c b).1
 | 0, c, _, _, _, _, h => absurd h (by omega)
 | m + 1, c, b, h0, h1, h2, h => by
  rw [lex_reader_text_g1]
  cases hc : ((decide (c.at_ < (c.line.length : Int))) && (lex_reader_text_c1 (c.line.getD (Int.toNat c.at_) 0) b).1) with
  | false => exact ⟨rfl, Int.le_refl _, h1, rfl, rfl⟩
  | true =>
   have hlt := of_decide_eq_true ((Bool.and_eq_true _ _).mp hc).1
   have hw : w64 (c.at_ + 1) = c.at_ + 1 := wr (by omega)
   rw [hw]
   obtain ⟨a, b, d, e, f⟩ := lex_text_adv m { c with at_ := c.at_ + 1 } _ (by dsimp only; omega) (by dsimp only; omega) h2 (by dsimp only; omega)
   dsimp only at a b d e f
   exact ⟨a, by simp only [cond_true]; omega, d, e, f⟩
theorem lex_text_nxt (r : LexReader) (h0 : 0 <= r.at_) (h1 : r.at_ < (r.line.length : Int)) (h2 : r.line.length <= 400) : Nxt r (lex_reader_text r).2 := by
 obtain ⟨a, b, c, _, _⟩ := lex_text_adv _ r true h0 (by omega) h2 (Nat.lt_succ_self _)
 unfold lex_reader_text
 generalize (lex_reader_text_g1 ((Int.toNat ((r.line.length : Int) - r.at_)) + 1) r true).1 = q at a b c
 unfold lex_reader_text_k1
 have ff : ∀ (x : LexReader) (p e : Int), e ≠ 0 -> x.line = r.line -> r.at_ <= x.at_ -> x.at_ <= (r.line.length : Int) -> Nxt r (lex_reader_fail x p e) := by
  intro x p e he hx hp hq
  obtain ⟨f1, f2, f3⟩ := lex_fail_adv x p e he
  exact ⟨f1.trans hx, by rw [f2]; exact hp, by rw [f2]; exact hq, Or.inl f3⟩
 cases h3 : (q.at_ == (q.line.length : Int)) with
 | true => exact ff q _ _ (by decide) a b c
 | false =>
  simp only [cond_false]
  have h3' : q.at_ ≠ (r.line.length : Int) := by rw [a] at h3; simpa using h3
  have hw : w64 (q.at_ + 1) = q.at_ + 1 := wr (by omega)
  cases ((q.line.getD (Int.toNat q.at_) 0) != 34) with
  | true => exact ff q _ _ (by decide) a b c
  | false =>
   simp only [cond_false]
   rw [hw]
   cases h4 : ((runes_Unquote (runesBytes (List.drop (Int.toNat r.at_) (List.take (Int.toNat (q.at_ + 1)) q.line)))).2 != 0) with
   | true => exact ff { q with at_ := q.at_ + 1 } _ _ (by simpa using h4) a (by show r.at_ <= q.at_ + 1; omega) (by show q.at_ + 1 <= _; omega)
   | false => exact ⟨a, by show r.at_ <= q.at_ + 1; omega, by show q.at_ + 1 <= _; omega, Or.inr (by show r.at_ < q.at_ + 1; omega)⟩
theorem lex_next_nxt (r : LexReader) (h0 : 0 <= r.at_) (h1 : r.at_ < (r.line.length : Int)) (h2 : r.line.length <= 400) : Nxt r (lex_reader_next r).2 := by
 have hw : w64 (r.at_ + 1) = r.at_ + 1 := wr (by omega)
 have ff : ∀ (e : Int), e ≠ 0 -> Nxt r (lex_reader_fail r r.at_ e) := by
  intro e he
  obtain ⟨f1, f2, f3⟩ := lex_fail_adv r r.at_ e he
  exact ⟨f1, by rw [f2]; exact Int.le_refl _, by rw [f2]; omega, Or.inl f3⟩
 unfold lex_reader_next
 cases hc : ((runes_Class (r.line.getD (Int.toNat r.at_) 0)) == 2) with
 | true => exact lex_word_nxt r h0 h1 h2 hc
 | false =>
  simp only [cond_false]
  cases hd : ((runes_Class (r.line.getD (Int.toNat r.at_) 0)) == 3) with
  | true => exact lex_count_nxt r h0 h1 h2 hd
  | false =>
   simp only [cond_false]
   cases ((r.line.getD (Int.toNat r.at_) 0) == 34) with
   | true => exact lex_text_nxt r h0 h1 h2
   | false =>
    simp only [cond_false]
    cases ((decide ((strings_IndexByte ⟨#[61, 58, 44, 45]⟩ (wu8 (r.line.getD (Int.toNat r.at_) 0))) >= 0)) && (decide ((r.line.getD (Int.toNat r.at_) 0) < 128))) with
    | true => rw [hw]; exact ⟨rfl, by show r.at_ <= r.at_ + 1; omega, by show r.at_ + 1 <= _; omega, Or.inr (by show r.at_ < r.at_ + 1; omega)⟩
    | false =>
     simp only [cond_false]
     cases ((runes_Class (r.line.getD (Int.toNat r.at_) 0)) == 0) with
     | true => exact ff 40 (by decide)
     | false => exact ff 50 (by decide)
theorem lex_round (r c : LexReader) (b : Int -> Bool) (h0 : 0 <= r.at_) (h1 : r.at_ <= (r.line.length : Int)) (h2 : r.line.length <= 400) (he : (r.error == 0) = true) (e : c = (lex_reader_while r b).2) (hn : (c.at_ == (c.line.length : Int)) = false) :
  (0 <= c.at_ ∧ c.at_ < (c.line.length : Int) ∧ c.line.length <= 400) ∧ (0 <= (lex_reader_next c).2.at_ ∧ (lex_reader_next c).2.at_ <= ((lex_reader_next c).2.line.length : Int) ∧ (lex_reader_next c).2.line.length <= 400) ∧
  2 * Int.toNat (((lex_reader_next c).2.line.length : Int) - (lex_reader_next c).2.at_) + (bif (lex_reader_next c).2.error == 0 then 1 else 0) < 2 * Int.toNat ((r.line.length : Int) - r.at_) + (bif r.error == 0 then 1 else 0) ∧
  (((lex_reader_next c).2.error == 0) = true -> r.at_ + 1 <= (lex_reader_next c).2.at_) := by
 obtain ⟨a1, a2, a3, a4, a5⟩ := lex_reader_while_adv r b h0 h1 h2
 rw [← e] at a1 a2 a3 a4 a5
 have hn' : c.at_ ≠ (r.line.length : Int) := by rw [a1] at hn; simpa using hn
 have hc : 0 <= c.at_ ∧ c.at_ < (c.line.length : Int) ∧ c.line.length <= 400 := by rw [a1]; omega
 obtain ⟨n1, n2, n3, n4⟩ := lex_next_nxt c hc.1 hc.2.1 hc.2.2
 rw [he]
 rw [a1] at n1 n3
 refine ⟨hc, by rw [n1]; omega, ?_⟩
 rw [n1]
 rcases n4 with n4 | n4
 ·have : ((lex_reader_next c).2.error == 0) = false := by simpa using n4
  rw [this]
  simp only [cond_true, cond_false]
  exact ⟨by omega, fun h => nomatch h⟩
 ·refine ⟨?_, fun _ => by omega⟩
  cases ((lex_reader_next c).2.error == 0) <;> simp only [cond_true, cond_false] <;> omega
def job_view_option (v : Job) (choice : Int) : Alt × Bool := bif ((decide (choice < 0)) || (decide (choice >= ((shape_Options v.shape).length : Int)))) then (Alt.zero, false) else (((shape_Options v.shape).getD (Int.toNat choice) Alt.zero), true)
theorem job_view_option_c (v : Job) (choice : Int) (hs0 : v.sz) : ∀ objs, AGives Tryz.prog 195 [Job.a v, I choice] objs (AVal.tup [Alt.a ((job_view_option v choice).1), Bo ((job_view_option v choice).2)]) := by
 generalize hR : job_view_option v choice = R; refine ga (.cons (Job.low _ _) (l1 .nil)) (Low.tup' (.cons (Alt.low _ _) (l1 .nil))) (kp 7 [18]) Tryz.func195 ?_; have hk0 := hs0; obtain ⟨z3, z4, z5, z6, z7⟩ : v.name.size <= 4294967296 ∧ v.user.size <= 4294967296 ∧ v.account.size <= 4294967296 ∧ (v.shape.alts.length <= 4294967296) ∧ v.after.length <= 4294967296 := hs0; refine us (shape_Options_c v.shape szA _) ?_; refine ai (fun h1 => ?_) (fun h2 => ?_)
 ·obtain rfl := foll hR (ct h1 rfl); exact ret_seen (Low.tup' (.cons (Alt.low _ _) (l1 .nil))) (Seen.tup (e1 (e1 .nil)))
 ·refine ai gkA ?_; obtain rfl := foll hR (cf h2 rfl); exact ret_seen (Low.tup' (.cons (Alt.low _ _) (l1 .nil))) (Seen.tup (e1 (e1 .nil)))
def shape_Allows (s : Shape) (choice : Int) (n : Int) : Bool := bif ((decide (choice < 0)) || (decide (choice >= ((shape_Options s).length : Int)))) then false else bif (s.kind == 3) then ((decide (n >= s.min)) && (decide (n <= s.max))) else (((shape_Options s).getD (Int.toNat choice) Alt.zero).nodes == n)
theorem shape_Allows_c (s : Shape) (choice : Int) (n : Int) (hs0 : s.sz) : ∀ objs, AGives Tryz.prog 197 [Shape.a s, I choice, I n] objs (Bo (shape_Allows s choice n)) := by
 generalize hR : shape_Allows s choice n = R; refine ga (.cons (Shape.low _ _) (l1 (l1 .nil))) lx (kp 8 [17, 20]) Tryz.func197 ?_; have hk0 := hs0; obtain z5 : s.alts.length <= 4294967296 := hs0; refine us (shape_Options_c s szA _) ?_; refine ai (fun h1 => ?_) (fun h2 => ?_)
 ·obtain rfl := foll hR (ct h1 rfl); exact ret_seen lx sr
 ·refine ai (fun h3 => ?_) (fun h4 => ?_)
  ·obtain rfl := foll hR (cf h2 (ct h3 rfl)); exact ret_seen lx sr
  ·refine ai gkA ?_; obtain rfl := foll hR (cf h2 (cf h4 rfl)); exact ret_seen lx sr
def fleet_Of (l : List Node) (job : Int) (state : Int) : Int := (fleet_where l (fun (y : Node) => ((y.job == job) && (y.state == state))))
theorem fleet_Of_c (l : List Node) (job : Int) (state : Int) (hs0 : l.length <= 4294967296) : ∀ objs, AGives Tryz.prog 100 [nodeL l, I job, I state] objs (U (fleet_Of l job state)) := by
 generalize hR : fleet_Of l job state = R; refine ga (.cons lw (l1 (l1 .nil))) lx (kp 7 []) Tryz.func100 ?_; have hk0 := hs0; obtain z7 : l.length <= 4294967296 := hs0; have cl1 : ∀ (y1 : Node), AMoves Tryz.prog 140 [Node.a y1, AVal.ptr 0 0 1 0 0, AVal.ptr 1 0 1 0 0] [(0, AObj.row 3 1 [[I job]]), (0, AObj.row 3 1 [[I state]])] 2 (Bo ((fun (y : Node) => ((y.job == job) && (y.state == state))) y1)) [(0, AObj.row 3 1 [[I job]]), (0, AObj.row 3 1 [[I state]])] := by
  intro y1; have hR : (fun (y : Node) => ((y.job == job) && (y.state == state))) y1 = (fun (y : Node) => ((y.job == job) && (y.state == state))) y1 := rfl; refine mo (kp 5 []) Tryz.func140 ?_; refine ret_moves (fun r : Bool => Bo r) (fun _ => [(0, AObj.row 3 1 [[I job]]), (0, AObj.row 3 1 [[I state]])]) (leaf := ((y1.job == job) && (y1.state == state))) (foll hR rfl) ?_; exact tt [0, 1] (tO rfl (ts (l1 LowL.nil)) (tO rfl (ts (l1 LowL.nil)) .nil)) t1
 have hof1 : AMoves Tryz.prog 139 [nodeL l, AVal.fn (.func 140) [] [AVal.ptr 0 0 1 0 0, AVal.ptr 1 0 1 0 0]] [(0, AObj.row 3 1 [[I job]]), (0, AObj.row 3 1 [[I state]])] 2 (U (fleet_where l (fun (y : Node) => ((y.job == job) && (y.state == state))))) [(0, AObj.row 3 1 [[I job]]), (0, AObj.row 3 1 [[I state]])] := by
  have hR : fleet_where l (fun (y : Node) => ((y.job == job) && (y.state == state))) = fleet_where l (fun (y : Node) => ((y.job == job) && (y.state == state))) := rfl; refine mo (kp 10 [12, 13, 14, 15, 16, 22]) Tryz.func139 ?_; refine us (fleet_Check_c l szA _) ?_; refine ai (fun h1 => ?_) (fun h2 => ?_)
  ·refine ret_moves (fun r : Int => U r) (fun r : Int => [(0, AObj.row 3 1 [[I job]]), (0, AObj.row 3 1 [[I state]])]) (leaf := 0) (foll hR (ct h1 rfl)) ?_; exact tt [0, 1] (tO rfl (ts (l1 LowL.nil)) (tO rfl (ts (l1 LowL.nil)) .nil)) t1
  ·refine loop_start2 (fun (out : List Int) (i : Nat) => fleet_where_k1 (fleet_where_g1 (fun (y : Node) => ((y.job == job) && (y.state == state))) (List.drop i l) out i) = fleet_where l (fun (y : Node) => ((y.job == job) && (y.state == state))) ∧ i <= l.length ∧ out.length <= i) (fun out i => l.length - i) (fun out i => [(1, AVal.fn (.func 140) [] [AVal.ptr 0 0 1 0 0, AVal.ptr 1 0 1 0 0]), (4, U 0), (5, AVal.own 2 0 1 0 out.length), (13, nodeL l), (14, I (l.length : Int)), (15, I (i : Int))]) (fun out i => [(0, AObj.row 3 1 [[I job]]), (0, AObj.row 3 1 [[I state]]), (0, AObj.row 3 1 (out.map (fun q_ => [I q_])))]) [] 0 ((weaker_none 3 1).trans (wk [0, 1, 2] (tO rfl (ts (l1 LowL.nil)) (tO rfl (ts (l1 LowL.nil)) (tO rfl (tl eqA) .nil))) (sv (turn_fn .nil (cv (turn_ptr 0 rfl rfl) (cv (turn_ptr 1 rfl rfl) .nil))) (s1 (sv (turn_nilown 2 rfl) (sl lw (s1 (s1 .nil)))))))) ⟨foll hR (cf h2 rfl), by exact omA, by exact exA⟩ ?_; clear hR; rintro out i ⟨hR, hj, hx⟩; (try dsimp only at hR hj hx); refine ai (fun h3 => ?_) (fun h4 => ?_)
   ·have hlt := ltA h3; rw [drop_getD Node.zero hlt] at hR; refine ai gkA ?_; refine us (mv [0, 1] (cl1 (l.getD i Node.zero)) (dO (ds (l1 LowL.nil)) (dO (ds (l1 LowL.nil)) .nil)) (dl (Node.low _ _) (dp (dp .nil))) (rO (re (l1 LowL.nil)) (rO (re (l1 LowL.nil)) .nil)) rx) ?_; refine ai (fun h5 => ?_) (fun h6 => ?_)
    ·refine Or.inl ?_; (first | refine ⟨app_ok 8 rfl lnA apA, ?_⟩ | refine ⟨app_nil 8 rfl apA, ?_⟩); exact loop_next2 (out ++ ([(i : Int)] : List Int)) (i + 1) (wk [0, 1, 2] (tO rfl (ts (l1 LowL.nil)) (tO rfl (ts (l1 LowL.nil)) (tO rfl (tl eqA) .nil))) (sv (turn_fn .nil (cv (turn_ptr 0 rfl rfl) (cv (turn_ptr 1 rfl rfl) .nil))) (s1 (sv (to 2 lnA) (sl lw (s1 (sv (turn_eq (I_eq (wr omA)) lx) .nil))))))) omA ⟨foll hR (congrArg (fun p : (List Int) => fleet_where_k1 p) (ct h5 rfl)), by exact omA, by exact exA⟩
    ·exact loop_next2 out (i + 1) (wk [0, 1, 2] (tO rfl (ts (l1 LowL.nil)) (tO rfl (ts (l1 LowL.nil)) (tO rfl (tl eqA) .nil))) (sv (turn_fn .nil (cv (turn_ptr 0 rfl rfl) (cv (turn_ptr 1 rfl rfl) .nil))) (s1 (sv (to 2 lnA) (sl lw (s1 (sv (turn_eq (I_eq (wr omA)) lx) .nil))))))) omA ⟨foll hR (congrArg (fun p : (List Int) => fleet_where_k1 p) (cf h6 rfl)), by exact omA, by exact exA⟩
   ·rw [drop_none (l := l) (j := i) (geA h4)] at hR; replace hR : fleet_where_k1 out = fleet_where l (fun (y : Node) => ((y.job == job) && (y.state == state))) := fo2 (fun p : (List Int) => fleet_where_k1 p) (out) hR rfl; refine us (AGives.lent (nodeset_Of_c out szA []) (ev (seen_list _ _ rfl eqA lnA) .nil) (.cons lw .nil) (bare2_sound rfl)) ?_; refine ret_moves (fun r : Int => U r) (fun r : Int => [(0, AObj.row 3 1 [[I job]]), (0, AObj.row 3 1 [[I state]])]) (leaf := (nodeset_Of out).1) (foll hR rfl) ?_; exact tt [0, 1] (tO rfl (ts (l1 LowL.nil)) (tO rfl (ts (l1 LowL.nil)) .nil)) t1
 refine us (mv [0, 1] (hof1) (dO (ds (l1 LowL.nil)) (dO (ds (l1 LowL.nil)) .nil)) (dl lw (dv (dn_fn .nil (dp (dp .nil))) .nil)) (rO (re (l1 LowL.nil)) (rO (re (l1 LowL.nil)) .nil)) rx) ?_; obtain rfl := foll hR rfl; exact ret_seen lx sr
def alloc_Notes_g1 (l : List Node) : List Int -> List Note -> Nat -> (List Note)
 | [], out, _ => out
 | x_ :: r, out, i => bif (fleet_Note l x_).2 then alloc_Notes_g1 l r (out ++ ([(fleet_Note l x_).1] : List Note)) (i + 1) else alloc_Notes_g1 l r out (i + 1)
def alloc_Notes_k1 (out : List Note) : (List Note) := out
def alloc_Notes (l : List Node) (nodes : List Int) : (List Note) := alloc_Notes_k1 (alloc_Notes_g1 l nodes [] 0)
theorem alloc_Notes_c (l : List Node) (nodes : List Int) (hs0 : l.length <= 4294967296) (hs1 : nodes.length <= 4294967296) : ∀ objs, AGives Tryz.prog 49 [nodeL l, ints nodes] objs (noteL (alloc_Notes l nodes)) := by
 generalize hR : alloc_Notes l nodes = R; refine ga (.cons lw (.cons lw .nil)) lw (kp 10 [10, 11, 12, 13, 22]) Tryz.func49 ?_; have hk0 := hs0; obtain z5 : l.length <= 4294967296 := hs0; have hk1 := hs1; obtain z6 : nodes.length <= 4294967296 := hs1; refine loop_start2 (fun (out : List Note) (i : Nat) => alloc_Notes_k1 (alloc_Notes_g1 l (List.drop i nodes) out i) = R ∧ i <= nodes.length ∧ out.length <= i) (fun out i => nodes.length - i) (fun out i => [(0, nodeL l), (4, AVal.lit (.slice none 0 0)), (5, AVal.own 0 0 4 0 out.length), (10, ints nodes), (11, I (nodes.length : Int)), (12, I (i : Int))]) (fun out i => [(0, AObj.row 59 4 (out.map Note.cells))]) [] 0 ((weaker_none 59 4).trans (wk [0] (tO rfl (tl eqA) .nil) (sl lw (s1 (sv (turn_nilown 0 rfl) (sl lw (s1 (s1 .nil)))))))) ⟨foll hR rfl, by exact omA, by exact exA⟩ ?_; clear hR; rintro out i ⟨hR, hj, hx⟩; (try dsimp only at hR hj hx); refine ai (fun h1 => ?_) (fun h2 => ?_)
 ·have hlt := ltA h1; rw [drop_getD 0 hlt] at hR; refine ai gkA ?_; refine us (fleet_Note_c l (nodes.getD i 0) szA _) ?_; refine ai (fun h3 => ?_) (fun h4 => ?_)
  ·refine Or.inl ?_; (first | refine ⟨app_ok 32 rfl lnA apA, ?_⟩ | refine ⟨app_nil 32 rfl apA, ?_⟩); exact loop_next2 (out ++ ([(fleet_Note l (nodes.getD i 0)).1] : List Note)) (i + 1) (wk [0] (tO rfl (tl eqA) .nil) (sl lw (s1 (sv (to 0 lnA) (sl lw (s1 (sv (turn_eq (I_eq (wr omA)) lx) .nil))))))) omA ⟨foll hR (congrArg (fun p : (List Note) => alloc_Notes_k1 p) (ct h3 rfl)), by exact omA, by exact exA⟩
  ·exact loop_next2 out (i + 1) (wk [0] (tO rfl (tl eqA) .nil) (sl lw (s1 (sv (to 0 lnA) (sl lw (s1 (sv (turn_eq (I_eq (wr omA)) lx) .nil))))))) omA ⟨foll hR (congrArg (fun p : (List Note) => alloc_Notes_k1 p) (cf h4 rfl)), by exact omA, by exact exA⟩
 ·rw [drop_none (l := nodes) (j := i) (geA h2)] at hR; replace hR : alloc_Notes_k1 out = R := fo2 (fun p : (List Note) => alloc_Notes_k1 p) (out) hR rfl; obtain rfl := foll hR rfl; exact ret_seen lw (seen_list Note.zero _ rfl eqA lnA)
def ref05_one_k1 (l : List Int) (at_ : Int) (i : Bool) : Token × Int × Int × Int := bif i then ((⟨5, (runesBytes (List.drop (Int.toNat at_) (List.take (Int.toNat (w64 (at_ + 1))) l))), 0, at_⟩ : Token), (w64 (at_ + 1)), 0, 0) else (Token.zero, 0, at_, 50)
def ref05_one (l : List Int) (at_ : Int) : Token × Int × Int × Int := bif ((ref04_Class (l.getD (Int.toNat at_) 0)) == 0) then (Token.zero, 0, at_, 40) else bif ((ref04_Class (l.getD (Int.toNat at_) 0)) == 2) then ((⟨1, (ref04_Lower (runesBytes (List.drop (Int.toNat at_) (List.take (Int.toNat (ref05_end l at_)) l)))), 0, at_⟩ : Token), (ref05_end l at_), 0, 0) else bif ((ref04_Class (l.getD (Int.toNat at_) 0)) == 3) then bif (ref05_plain (List.drop (Int.toNat at_) (List.take (Int.toNat (ref05_end l at_)) l))) then ((⟨3, (runesBytes (List.drop (Int.toNat at_) (List.take (Int.toNat (ref05_end l at_)) l))), 0, at_⟩ : Token), (ref05_end l at_), 0, 0) else bif (decide ((ref05_Number (List.drop (Int.toNat at_) (List.take (Int.toNat (ref05_end l at_)) l))) < 0)) then (Token.zero, 0, at_, 50) else ((⟨2, ⟨#[]⟩, (ref05_Number (List.drop (Int.toNat at_) (List.take (Int.toNat (ref05_end l at_)) l))), at_⟩ : Token), (ref05_end l at_), 0, 0) else bif ((l.getD (Int.toNat at_) 0) == 34) then ((ref05_text l at_).1, (ref05_text l at_).2.1, (ref05_text l at_).2.2.1, (ref05_text l at_).2.2.2) else bif ((l.getD (Int.toNat at_) 0) == 61) then ref05_one_k1 l at_ ((l.getD (Int.toNat at_) 0) == 61) else bif ((l.getD (Int.toNat at_) 0) == 58) then ref05_one_k1 l at_ ((l.getD (Int.toNat at_) 0) == 58) else bif ((l.getD (Int.toNat at_) 0) == 44) then ref05_one_k1 l at_ ((l.getD (Int.toNat at_) 0) == 44) else ref05_one_k1 l at_ ((l.getD (Int.toNat at_) 0) == 45)
theorem ref05_one_c (l : List Int) (at_ : Int) (hs0 : l.length <= 4294967296) (hp0 : 0 <= at_ ∧ at_ < (l.length : Int) ∧ l.length <= 400) : ∀ objs, AGives Tryz.prog 212 [runes l, I at_] objs (AVal.tup [Token.a ((ref05_one l at_).1), I ((ref05_one l at_).2.1), I ((ref05_one l at_).2.2.1), I ((ref05_one l at_).2.2.2)]) := by
 generalize hR : ref05_one l at_ = R; refine ga (.cons lw (l1 .nil)) (Low.tup' (.cons (Token.low _ _) (l1 (l1 (l1 .nil))))) (kj [1000028] 11 [17, 18, 22, 37, 46, 65, 73, 74, 83]) Tryz.func212 ?_; have hk0 := hs0; obtain z21 : l.length <= 4294967296 := hs0; have hw0 : w64 (at_ + 1) = at_ + 1 := wr (by omega); have hf0 := ref05_end_le l at_ hp0.1 hp0.2.1 hp0.2.2; refine ai gkA ?_; refine us (ref04_Class_c (l.getD (Int.toNat at_) 0) _) ?_; refine ai (fun h1 => ?_) (fun h2 => ?_)
 ·obtain rfl := foll hR (ct h1 rfl); exact ret_seen (Low.tup' (.cons (Token.low _ _) (l1 (l1 (l1 .nil))))) (Seen.tup (e1 (e1 (e1 (e1 .nil)))))
 ·refine ai (fun h3 => ?_) (fun h4 => ?_)
  ·refine us (ref05_end_c l at_ szA ckA _) ?_; refine ai gkA ?_; (first | refine ⟨(List.drop (Int.toNat at_) (List.take (Int.toNat (ref05_end l at_)) l)), by exact cvA, ?_⟩ | refine ⟨_, fun _ => ⟨(List.drop (Int.toNat at_) (List.take (Int.toNat (ref05_end l at_)) l)), by exact cvA, rfl, rfl⟩, ?_⟩ | refine ⟨_, rfl, ⟨(List.drop (Int.toNat at_) (List.take (Int.toNat (ref05_end l at_)) l)), by exact cvA, Sub.refl _, rfl⟩, ?_⟩); refine us (ref04_Lower_c (runesBytes (List.drop (Int.toNat at_) (List.take (Int.toNat (ref05_end l at_)) l))) szA _) ?_; obtain rfl := foll hR (cf h2 (ct h3 rfl)); exact ret_seen (Low.tup' (.cons (Token.low _ _) (l1 (l1 (l1 .nil))))) (Seen.tup (e1 (e1 (e1 (e1 .nil)))))
  ·refine ai (fun h5 => ?_) (fun h6 => ?_)
   ·refine us (ref05_end_c l at_ szA ckA _) ?_; refine ai gkA ?_; refine us (AGives.as2 (ref05_plain_c (List.drop (Int.toNat at_) (List.take (Int.toNat (ref05_end l at_)) l)) szA _) (av (as_cut l (Int.toNat at_) (Int.toNat (ref05_end l at_)) leA ckA) .nil)) ?_; refine ai (fun h7 => ?_) (fun h8 => ?_)
    ·refine ai gkA ?_; (first | refine ⟨(List.drop (Int.toNat at_) (List.take (Int.toNat (ref05_end l at_)) l)), by exact cvA, ?_⟩ | refine ⟨_, fun _ => ⟨(List.drop (Int.toNat at_) (List.take (Int.toNat (ref05_end l at_)) l)), by exact cvA, rfl, rfl⟩, ?_⟩ | refine ⟨_, rfl, ⟨(List.drop (Int.toNat at_) (List.take (Int.toNat (ref05_end l at_)) l)), by exact cvA, Sub.refl _, rfl⟩, ?_⟩); obtain rfl := foll hR (cf h2 (cf h4 (ct h5 (ct h7 rfl)))); exact ret_seen (Low.tup' (.cons (Token.low _ _) (l1 (l1 (l1 .nil))))) (Seen.tup (e1 (e1 (e1 (e1 .nil)))))
    ·refine ai gkA ?_; refine us (AGives.as2 (ref05_Number_c (List.drop (Int.toNat at_) (List.take (Int.toNat (ref05_end l at_)) l)) szA _) (av (as_cut l (Int.toNat at_) (Int.toNat (ref05_end l at_)) leA ckA) .nil)) ?_; refine ai (fun h9 => ?_) (fun h10 => ?_)
     ·have qh9 := of_decide_eq_true h9; obtain rfl := foll hR (cf h2 (cf h4 (ct h5 (cf h8 (ct h9 rfl))))); exact ret_seen (Low.tup' (.cons (Token.low _ _) (l1 (l1 (l1 .nil))))) (Seen.tup (e1 (e1 (e1 (e1 .nil)))))
     ·have qh10 := of_decide_eq_false h10; obtain rfl := foll hR (cf h2 (cf h4 (ct h5 (cf h8 (cf h10 rfl))))); exact ret_seen (Low.tup' (.cons (Token.low _ _) (l1 (l1 (l1 .nil))))) (Seen.tup (e1 (e1 (e1 (e1 .nil)))))
   ·refine ai gkA ?_; refine ai (fun h11 => ?_) (fun h12 => ?_)
    ·refine us (ref05_text_c l at_ szA ckA _) ?_; obtain rfl := foll hR (cf h2 (cf h4 (cf h6 (ct h11 rfl)))); exact ret_seen (Low.tup' (.cons (Token.low _ _) (l1 (l1 (l1 .nil))))) (Seen.tup (e1 (e1 (e1 (e1 .nil)))))
    ·refine join_start1 (fun (i : Bool) => ref05_one_k1 l at_ i = R) (fun i => [(0, runes l), (1, I at_), (4, AVal.ptr 0 0 4 0 0), (5, I 0), (6, I 0), (7, I 0), (8, AVal.ptr 1 0 4 0 0), (83, Bo i)]) (fun i => [(0, AObj.row 191 4 [[I 0, Sg ⟨#[]⟩, I 0, I 0]]), (0, AObj.row 191 4 [[I 0, Sg ⟨#[]⟩, I 0, I at_]])]) ?_ ?_
     ·clear hR; rintro i hR; (try dsimp only at hR); refine ai (fun h13 => ?_) (fun h14 => ?_)
      ·refine ai gkA ?_; (first | refine ⟨(List.drop (Int.toNat at_) (List.take (Int.toNat (w64 (at_ + 1))) l)), by exact cvA, ?_⟩ | refine ⟨_, fun _ => ⟨(List.drop (Int.toNat at_) (List.take (Int.toNat (w64 (at_ + 1))) l)), by exact cvA, rfl, rfl⟩, ?_⟩ | refine ⟨_, rfl, ⟨(List.drop (Int.toNat at_) (List.take (Int.toNat (w64 (at_ + 1))) l)), by exact cvA, Sub.refl _, rfl⟩, ?_⟩); obtain rfl := foll hR (ct h13 rfl); exact ret_seen (Low.tup' (.cons (Token.low _ _) (l1 (l1 (l1 .nil))))) (Seen.tup (e1 (e1 (e1 (e1 .nil)))))
      ·obtain rfl := foll hR (cf h14 rfl); exact ret_seen (Low.tup' (.cons (Token.low _ _) (l1 (l1 (l1 .nil))))) (Seen.tup (e1 (e1 (e1 (e1 .nil)))))
     ·refine ai (fun h15 => ?_) (fun h16 => ?_)
      ·exact join_here1 ((l.getD (Int.toNat at_) 0) == 61) (wk [0, 1] (tO rfl (ts Token.lo) (tO rfl (ts Token.lo) .nil)) (sl lw (s1 (sv (turn_ptr 0 rfl rfl) (s1 (s1 (s1 (sv (turn_ptr 1 rfl rfl) (s1 .nil))))))))) (foll hR (cf h2 (cf h4 (cf h6 (cf h12 (ct h15 rfl))))))
      ·refine ai (fun h17 => ?_) (fun h18 => ?_)
       ·exact join_here1 ((l.getD (Int.toNat at_) 0) == 58) (wk [0, 1] (tO rfl (ts Token.lo) (tO rfl (ts Token.lo) .nil)) (sl lw (s1 (sv (turn_ptr 0 rfl rfl) (s1 (s1 (s1 (sv (turn_ptr 1 rfl rfl) (s1 .nil))))))))) (foll hR (cf h2 (cf h4 (cf h6 (cf h12 (cf h16 (ct h17 rfl)))))))
       ·refine ai (fun h19 => ?_) (fun h20 => ?_)
        ·exact join_here1 ((l.getD (Int.toNat at_) 0) == 44) (wk [0, 1] (tO rfl (ts Token.lo) (tO rfl (ts Token.lo) .nil)) (sl lw (s1 (sv (turn_ptr 0 rfl rfl) (s1 (s1 (s1 (sv (turn_ptr 1 rfl rfl) (s1 .nil))))))))) (foll hR (cf h2 (cf h4 (cf h6 (cf h12 (cf h16 (cf h18 (ct h19 rfl))))))))
        ·exact join_here1 ((l.getD (Int.toNat at_) 0) == 45) (wk [0, 1] (tO rfl (ts Token.lo) (tO rfl (ts Token.lo) .nil)) (sl lw (s1 (sv (turn_ptr 0 rfl rfl) (s1 (s1 (s1 (sv (turn_ptr 1 rfl rfl) (s1 .nil))))))))) (foll hR (cf h2 (cf h4 (cf h6 (cf h12 (cf h16 (cf h18 (cf h20 rfl))))))))
theorem ref05_one_k1_lt (l : List Int) (at_ : Int) (b : Bool) (h0 : 0 <= at_) (h1 : at_ < (l.length : Int)) (h : l.length <= 400) : ((ref05_one_k1 l at_ b).2.2.2 != 0) = false -> at_ < (ref05_one_k1 l at_ b).2.1 ∧ (ref05_one_k1 l at_ b).2.1 <= (l.length : Int) := by
 have hw : w64 (at_ + 1) = at_ + 1 := wr (by omega)
 cases b with
 | false => intro h; cases h
 | true => intro _; simp only [ref05_one_k1, cond_true]; rw [hw]; omega
theorem ref05_one_lt (l : List Int) (at_ : Int) (h0 : 0 <= at_) (h1 : at_ < (l.length : Int)) (h : l.length <= 400) : ((ref05_one l at_).2.2.2 != 0) = false -> at_ < (ref05_one l at_).2.1 ∧ (ref05_one l at_).2.1 <= (l.length : Int) := by
 have he := ref05_end_le l at_ h0 h1 h
 have hk := fun b => ref05_one_k1_lt l at_ b h0 h1 h
 have ht := ref05_text_lt l at_ h0 h1 h
 unfold ref05_one
 repeat' first
  | exact hk _
  | exact ht
  | exact fun _ => he
  | (intro h; cases h; done)
  | (rw [Bool.cond_eq_ite]; split)
end Go.Proofs.YtigcpfbpmnppcaaGreatDoor
