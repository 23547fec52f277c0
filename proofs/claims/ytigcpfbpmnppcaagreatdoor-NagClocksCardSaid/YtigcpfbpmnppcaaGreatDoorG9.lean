/-
  Contracts of functions, printed by a program of this repo (wip/dec). No condition beyond those that stand in each.
-/
import Derived.Test.YtigcpfbpmnppcaaGreatDoorG8
import Derived.Test.YtigcpfbpmnppcaaGreatDoorProg
namespace Go.Proofs.YtigcpfbpmnppcaaGreatDoor
set_option linter.unusedSimpArgs false
set_option linter.unusedVariables false
open Go.Fw
set_option maxRecDepth 20000
set_option maxHeartbeats 4000000
attribute [local irreducible] ACalls AMoves
def law14_Few (j : Job) : Bool := (((((law07_Few j.shape) && (decide ((j.after.length : Int) <= 100))) && (decide ((ByteArray.size j.name : Int) <= 1000))) && (decide ((ByteArray.size j.user : Int) <= 1000))) && (decide ((ByteArray.size j.account : Int) <= 1000)))
theorem law14_Few_c (j : Job) : ∀ objs, AGives Tryz.prog 66 [Job.a j] objs (Bo (law14_Few j)) := by
 generalize hR : law14_Few j = R; refine ga (.cons (Job.low _ _) .nil) lx (kp 3 []) Tryz.func66 ?_; refine us (law07_Few_c j.shape _) ?_; obtain rfl := foll hR rfl; exact ret_seen lx sr
def cmp_Compare_string (x_ : ByteArray) (y : ByteArray) : Int := bif (cmp_isNaN_string x_) then bif (cmp_isNaN_string y) then 0 else (-1) else bif (cmp_isNaN_string y) then 1 else bif (Op.bytesLess (ByteArray.toList x_) (ByteArray.toList y)) then (-1) else bif (!((Op.bytesLess (ByteArray.toList x_) (ByteArray.toList y)) || (ByteArray.toList x_ == ByteArray.toList y))) then 1 else 0
theorem cmp_Compare_string_c (x_ : ByteArray) (y : ByteArray) : ∀ objs, AGives Tryz.prog 147 [Sg x_, Sg y] objs (I (cmp_Compare_string x_ y)) := by
 generalize hR : cmp_Compare_string x_ y = R; refine ga (l1 (l1 .nil)) lx (kp 7 [11, 12, 13, 16, 19]) Tryz.func147 ?_; refine us (cmp_isNaN_string_c x_ _) ?_; refine us (cmp_isNaN_string_c y _) ?_; refine ai (fun h1 => ?_) (fun h2 => ?_)
 ·refine ai (fun h3 => ?_) (fun h4 => ?_)
  ·obtain rfl := foll hR (ct h1 (ct h3 rfl)); exact ret_seen lx sr
  ·obtain rfl := foll hR (ct h1 (cf h4 rfl)); exact ret_seen lx sr
 ·refine ai (fun h5 => ?_) (fun h6 => ?_)
  ·obtain rfl := foll hR (cf h2 (ct h5 rfl)); exact ret_seen lx sr
  ·refine ai (fun h7 => ?_) (fun h8 => ?_)
   ·obtain rfl := foll hR (cf h2 (cf h6 (ct h7 rfl))); exact ret_seen lx sr
   ·refine ai (fun h9 => ?_) (fun h10 => ?_)
    ·obtain rfl := foll hR (cf h2 (cf h6 (cf h8 (ct h9 rfl)))); exact ret_seen lx sr
    ·obtain rfl := foll hR (cf h2 (cf h6 (cf h8 (cf h10 rfl)))); exact ret_seen lx sr
def sat_Usage (n : Int) : Int := (sat_within_int n 0 1000000000000)
theorem sat_Usage_c (n : Int) : ∀ objs, AGives Tryz.prog 116 [I n] objs (I (sat_Usage n)) := by
 generalize hR : sat_Usage n = R; refine ga (l1 .nil) lx (kp 3 []) Tryz.func116 ?_; refine us (sat_within_int_c n 0 1000000000000 _) ?_; obtain rfl := foll hR rfl; exact ret_seen lx sr
def book_Check_g1 (l : List Book) : List Book -> Nat -> Int
 | [], _ => 0
 | x_ :: r, i => bif ((!(book_fine x_)) || ((decide ((i : Int) > 0)) && (decide ((l.getD (Int.toNat (w64 ((i : Int) - 1))) Book.zero).id >= x_.id)))) then 190 else book_Check_g1 l r (i + 1)
def book_Check (l : List Book) : Int := bif (decide ((l.length : Int) > 8)) then 190 else book_Check_g1 l l 0
theorem book_Check_c (l : List Book) (hs0 : l.length <= 4294967296) : ∀ objs, AGives Tryz.prog 79 [bookL l] objs (I (book_Check l)) := by
 generalize hR : book_Check l = R; refine ga (.cons lw .nil) lx (kp 5 [7, 8, 9, 10, 11, 32]) Tryz.func79 ?_; have hk0 := hs0; obtain z7 : l.length <= 4294967296 := hs0; refine ai (fun h1 => ?_) (fun h2 => ?_)
 ·have qh1 := of_decide_eq_true h1; obtain rfl := foll hR (ct h1 rfl); exact ret_seen lx sr
 ·have qh2 := of_decide_eq_false h2; refine loop_start1 (fun (i : Nat) => book_Check_g1 l (List.drop i l) i = R ∧ i <= l.length) (fun i => l.length - i) (fun i => [(0, bookL l), (2, I 0), (8, bookL l), (9, I (l.length : Int)), (10, I (i : Int))]) (fun i => []) 0 (wk [] .nil (sl lw (s1 (sl lw (s1 (s1 .nil)))))) ⟨foll hR (cf h2 rfl), by exact omA⟩ ?_; clear hR; rintro i ⟨hR, hj⟩; (try dsimp only at hR hj); refine ai (fun h3 => ?_) (fun h4 => ?_)
  ·have hlt := ltA h3; rw [drop_getD Book.zero hlt] at hR; refine ai gkA ?_; refine dchk (by kernel_rfl) ?_; (first | apply u2 | apply u3 | apply u4 | apply us); exact book_fine_c (l.getD i Book.zero) _; refine ai gkA ?_; (repeat ((first | refine ai rfl ?_ | refine ai (fun _ => rfl) ?_ | refine ai (fun _ => book_fine_c (l.getD i Book.zero) _) ?_))); refine ai (fun h5 => ?_) (fun h6 => ?_)
   ·obtain rfl := foll hR (ct h5 rfl); exact ret_seen lx sr
   ·exact loop_next1 (i + 1) (wk [] .nil (sl lw (s1 (sl lw (s1 (sv (turn_eq (I_eq (wr omA)) lx) .nil)))))) omA ⟨foll hR (cf h6 rfl), by exact omA⟩
  ·rw [drop_none (l := l) (j := i) (geA h4)] at hR; obtain rfl := foll hR rfl; exact ret_seen lx sr
def slices_ContainsFunc_Node (s : List Node) (f : Node -> Bool) : Bool := (decide ((slices_IndexFunc_Node s f) >= 0))
def slices_Contains_int (s : List Int) (v : Int) : Bool := (decide ((slices_Index_int s v) >= 0))
theorem slices_Contains_int_c (s : List Int) (v : Int) (hs0 : s.length <= 4294967296) : ∀ objs, AGives Tryz.prog 190 [ints s, I v] objs (Bo (slices_Contains_int s v)) := by
 generalize hR : slices_Contains_int s v = R; refine ga (.cons lw (l1 .nil)) lx (kp 5 []) Tryz.func190 ?_; have hk0 := hs0; obtain z1 : s.length <= 4294967296 := hs0; refine us (slices_Index_int_c s v szA _) ?_; obtain rfl := foll hR rfl; exact ret_seen lx sr
def cmd_length (n : Int) : Bool := (cmd_within n 1 100000)
theorem cmd_length_c (n : Int) : ∀ objs, AGives Tryz.prog 203 [I n] objs (Bo (cmd_length n)) := by
 generalize hR : cmd_length n = R; refine ga (l1 .nil) lx (kp 3 []) Tryz.func203 ?_; refine us (cmd_within_c n 1 100000 _) ?_; obtain rfl := foll hR rfl; exact ret_seen lx sr
def runes_Check_g1  : List (Nat × Int) -> Nat -> Int × Int
 | [], n => ((n : Int), 0)
 | x_ :: r, n => bif ((runes_Class x_.2) == 0) then ((n : Int), 40) else runes_Check_g1 r (n + 1)
def runes_Check (s : ByteArray) : Int × Int := runes_Check_g1 (runeList s) 0
theorem runes_Check_c (s : ByteArray) (hs0 : s.size <= 4294967296) : ∀ objs, AGives Tryz.prog 215 [Sg s] objs (AVal.tup [I ((runes_Check s).1), I ((runes_Check s).2)]) := by
 generalize hR : runes_Check s = R; refine ga (l1 .nil) (Low.tup' (l1 (l1 .nil))) (kp 7 [8, 9, 10, 14]) Tryz.func215 ?_; have hk0 := hs0; obtain z5 : s.size <= 4294967296 := hs0; refine loop_start2 (fun (n : Nat) (pos : Nat) => ∃ m, ByteArray.size s - pos <= m ∧ runes_Check_g1 (strRunes s m pos) n = R ∧ n <= pos) (fun n pos => ByteArray.size s - pos) (fun n pos => [(2, I 0), (3, I 0), (4, I (n : Int)), (8, AVal.ptr 0 0 1 0 0)]) (fun n pos => [(0, AObj.other (.strIter s pos))]) 0 0 (wk [0] (tO rfl (.strIter _ _) .nil) (s1 (s1 (s1 (sv (turn_ptr 0 rfl rfl) .nil))))) ⟨ByteArray.size s, by exact omA, foll hR rfl, by exact exA⟩ ?_; clear hR; rintro n pos ⟨m, hm, hR, hx⟩; (try dsimp only at hR hm hx); refine ai (fun h1 => ?_) (fun h2 => ?_)
 ·have hlt := of_decide_eq_true h1; have hw := decode_pos s pos; have hwe := decode_end s pos hlt; obtain ⟨m, rfl⟩ := sucA m; rw [strRunes_cons h1] at hR; refine ai (fun _ => ?_) (fun h => nomatch h); refine us (runes_Class_c ((pos, ((Utf8.decode s pos).1 : Int)).2) _) ?_; refine ai (fun h3 => ?_) (fun h4 => ?_)
  ·obtain rfl := foll hR (ct h3 rfl); exact ret_seen (Low.tup' (l1 (l1 .nil))) (Seen.tup (e1 (e1 .nil)))
  ·exact loop_next2 (n + 1) (pos + (Utf8.decode s pos).2) (wk [0] (tO rfl (.strIter _ _) .nil) (s1 (s1 (sv (turn_eq (I_eq (wr omA)) lx) (sv (turn_ptr 0 rfl rfl) .nil))))) omA ⟨m, by exact omA, foll hR (cf h4 rfl), by exact exA⟩
 ·rw [strRunes_nil h2] at hR; refine ai (fun h => nomatch h) (fun _ => ?_); obtain rfl := foll hR rfl; exact ret_seen (Low.tup' (l1 (l1 .nil))) (Seen.tup (e1 (e1 .nil)))
def lex_reader_word_g1 (y : Int) : List Int -> Nat -> Bool
 | [], _ => ((false || (y == 45)) || (y == 95))
 | x_ :: r, i => bif ((runes_Class y) == x_) then ((true || (y == 45)) || (y == 95)) else lex_reader_word_g1 y r (i + 1)
def lex_reader_word (r_ : LexReader) : Token × LexReader := ((⟨1, (runes_Lower ((lex_reader_while r_ (fun (y : Int) => lex_reader_word_g1 y ([2, 3] : List Int) 0)).1)), 0, 0⟩ : Token), (lex_reader_while r_ (fun (y : Int) => lex_reader_word_g1 y ([2, 3] : List Int) 0)).2)
theorem lex_reader_word_c (r_ : LexReader) (hs0 : r_.sz) (hp0 : 0 <= r_.at_ ∧ r_.at_ <= (r_.line.length : Int) ∧ r_.line.length <= 400) : AMoves Tryz.prog 242 [AVal.ptr 0 0 4 0 0] [(0, AObj.row 235 4 [[runes r_.line, I r_.at_, I r_.bad, I r_.error]])] 1 (Token.a ((lex_reader_word r_).1)) [(0, AObj.row 235 4 [[runes ((lex_reader_word r_).2.line), I ((lex_reader_word r_).2.at_), I ((lex_reader_word r_).2.bad), I ((lex_reader_word r_).2.error)]])] := by
 generalize hR : lex_reader_word r_ = R; refine mo (kp 5 []) Tryz.func242 ?_; have hk0 := hs0; obtain z7 : r_.line.length <= 4294967296 := hs0; refine Or.inl ?_; refine ACalls.of_cwp (fun _ => true) Tryz.func236 rfl rfl ?_; refine ⟨_, _, Told.refl, ?_⟩; have cl1 : ∀ (y1 : Int), AMoves Tryz.prog 251 [J y1, AVal.ptr 1 0 1 0 0] [(0, AObj.row 42 1 [[ints ([2, 3] : List Int)]]), (0, AObj.row 232 1 [[AVal.fn (.func 241) [] [AVal.ptr 0 0 1 0 0]]])] 2 (Bo ((fun (y : Int) => lex_reader_word_g1 y ([2, 3] : List Int) 0) y1)) [(0, AObj.row 42 1 [[ints ([2, 3] : List Int)]]), (0, AObj.row 232 1 [[AVal.fn (.func 241) [] [AVal.ptr 0 0 1 0 0]]])] := by
  intro y1; have hR : (fun (y : Int) => lex_reader_word_g1 y ([2, 3] : List Int) 0) y1 = (fun (y : Int) => lex_reader_word_g1 y ([2, 3] : List Int) 0) y1 := rfl; refine mo (kp 4 []) Tryz.func251 ?_; refine ACalls.of_cwp (fun _ => true) Tryz.func241 rfl rfl ?_; refine loop_start1 (fun (i : Nat) => lex_reader_word_g1 y1 (List.drop i ([2, 3] : List Int)) i = (fun (y : Int) => lex_reader_word_g1 y ([2, 3] : List Int) 0) y1 ∧ i <= ([2, 3] : List Int).length) (fun i => ([2, 3] : List Int).length - i) (fun i => [(0, J y1), (3, Bo false), (6, ints ([2, 3] : List Int)), (7, I (([2, 3] : List Int).length : Int)), (8, I (i : Int))]) (fun i => [(0, AObj.row 42 1 [[ints ([2, 3] : List Int)]]), (0, AObj.row 232 1 [[AVal.fn (.func 241) [] [AVal.ptr 0 0 1 0 0]]])]) 0 (wk [0, 1] (tO rfl (ts (lv lw LowL.nil)) (tO rfl (turn_row1 (cv (turn_fn .nil (cv (turn_ptr 0 rfl rfl) .nil)) .nil)) .nil)) (s1 (s1 (sl lw (s1 (s1 .nil)))))) ⟨foll hR rfl, by exact omA⟩ ?_; clear hR; rintro i ⟨hR, hj⟩; (try dsimp only at hR hj); refine ai (fun h1 => ?_) (fun h2 => ?_)
  ·(have hlt : i < ([2, 3] : List Int).length := by have := of_decide_eq_true h1; omega); rw [drop_getD 0 hlt] at hR; refine ai gkA ?_; refine us (runes_Class_c y1 _) ?_; refine ai (fun h3 => ?_) (fun h4 => ?_)
   ·refine ⟨_, _, Told.refl, ?_⟩; refine ret_moves (fun r : Bool => Bo r) (fun _ => [(0, AObj.row 42 1 [[ints ([2, 3] : List Int)]]), (0, AObj.row 232 1 [[AVal.fn (.func 241) [] [AVal.ptr 0 0 1 0 0]]])]) (leaf := ((true || (y1 == 45)) || (y1 == 95))) (foll hR (ct h3 rfl)) ?_; exact tt [0, 1] (tO rfl (ts (lv lw LowL.nil)) (tO rfl (turn_row1 (cv (turn_fn .nil (cv (turn_ptr 0 rfl rfl) .nil)) .nil)) .nil)) t1
   ·exact loop_next1 (i + 1) (wk [0, 1] (tO rfl (ts (lv lw LowL.nil)) (tO rfl (turn_row1 (cv (turn_fn .nil (cv (turn_ptr 0 rfl rfl) .nil)) .nil)) .nil)) (s1 (s1 (sl lw (s1 (sv (turn_eq (I_eq (wr omA)) lx) .nil)))))) omA ⟨foll hR (cf h4 rfl), by exact omA⟩
  ·rw [drop_none (l := ([2, 3] : List Int)) (j := i) (geA h2)] at hR; refine ⟨_, _, Told.refl, ?_⟩; refine ret_moves (fun r : Bool => Bo r) (fun _ => [(0, AObj.row 42 1 [[ints ([2, 3] : List Int)]]), (0, AObj.row 232 1 [[AVal.fn (.func 241) [] [AVal.ptr 0 0 1 0 0]]])]) (leaf := ((false || (y1 == 45)) || (y1 == 95))) (foll hR rfl) ?_; exact tt [0, 1] (tO rfl (ts (lv lw LowL.nil)) (tO rfl (turn_row1 (cv (turn_fn .nil (cv (turn_ptr 0 rfl rfl) .nil)) .nil)) .nil)) t1
 have hof1 : AMoves Tryz.prog 237 [AVal.ptr 0 0 4 0 0, AVal.fn (.func 251) [] [AVal.ptr 2 0 1 0 0]] [(0, AObj.row 235 4 [[runes r_.line, I r_.at_, I r_.bad, I r_.error]]), (0, AObj.row 42 1 [[ints ([2, 3] : List Int)]]), (0, AObj.row 232 1 [[AVal.fn (.func 241) [] [AVal.ptr 1 0 1 0 0]]])] 3 (Sg ((lex_reader_while r_ (fun (y : Int) => lex_reader_word_g1 y ([2, 3] : List Int) 0)).1)) [(0, AObj.row 235 4 [[runes (((lex_reader_while r_ (fun (y : Int) => lex_reader_word_g1 y ([2, 3] : List Int) 0)).2).line), I (((lex_reader_while r_ (fun (y : Int) => lex_reader_word_g1 y ([2, 3] : List Int) 0)).2).at_), I (((lex_reader_while r_ (fun (y : Int) => lex_reader_word_g1 y ([2, 3] : List Int) 0)).2).bad), I (((lex_reader_while r_ (fun (y : Int) => lex_reader_word_g1 y ([2, 3] : List Int) 0)).2).error)]]), (0, AObj.row 42 1 [[ints ([2, 3] : List Int)]]), (0, AObj.row 232 1 [[AVal.fn (.func 241) [] [AVal.ptr 1 0 1 0 0]]])] := by
  have hR : lex_reader_while r_ (fun (y : Int) => lex_reader_word_g1 y ([2, 3] : List Int) 0) = lex_reader_while r_ (fun (y : Int) => lex_reader_word_g1 y ([2, 3] : List Int) 0) := rfl; refine mo (kp 6 [33]) Tryz.func237 ?_; refine loop_start1 (fun (c : LexReader) => ∃ m, (Int.toNat ((c.line.length : Int) - c.at_)) < m ∧ lex_reader_while_k1 r_ (lex_reader_while_g1 (fun (y : Int) => lex_reader_word_g1 y ([2, 3] : List Int) 0) m c) = lex_reader_while r_ (fun (y : Int) => lex_reader_word_g1 y ([2, 3] : List Int) 0) ∧ 0 <= c.at_ ∧ c.at_ <= (c.line.length : Int) ∧ c.line.length <= 400 ∧ r_.at_ <= c.at_ ∧ 0 <= r_.at_) (fun c => (Int.toNat ((c.line.length : Int) - c.at_))) (fun c => [(0, AVal.ptr 0 0 4 0 0), (1, AVal.fn (.func 251) [] [AVal.ptr 2 0 1 0 0]), (4, Sg ⟨#[]⟩), (5, I r_.at_)]) (fun c => [(0, AObj.row 235 4 [[runes c.line, I c.at_, I c.bad, I c.error]]), (0, AObj.row 42 1 [[ints ([2, 3] : List Int)]]), (0, AObj.row 232 1 [[AVal.fn (.func 241) [] [AVal.ptr 1 0 1 0 0]]])]) r_ (wk [0, 1, 2] (tO rfl (ts LexReader.lo) (tO rfl (ts (lv lw LowL.nil)) (tO rfl (turn_row1 (cv (turn_fn .nil (cv (turn_ptr 1 rfl rfl) .nil)) .nil)) .nil))) (sv (turn_ptr 0 rfl rfl) (sv (turn_fn .nil (cv (turn_ptr 2 rfl rfl) .nil)) (s1 (s1 .nil))))) ⟨_, Nat.lt_succ_self _, foll hR rfl, by exact exA⟩ ?_; clear hR; rintro c ⟨m, hm, hR, hx⟩; (try dsimp only at hR hm hx); obtain ⟨m, rfl⟩ := sucA m; refine dchk (by kernel_rfl) ?_; refine ai gkA ?_; (first | apply u2 | apply u3 | apply u4 | apply us); exact mv [1, 2] (cl1 (c.line.getD (Int.toNat c.at_) 0)) (dO (ds (lv lw LowL.nil)) (dO (dc (dv (dn_fn .nil (dp .nil)) .nil)) .nil)) (d1 (dp .nil)) (rO (re (lv lw LowL.nil)) (rO (rc (rv (ren_fn .nil (.cons _ _ _ _ (rp 1 0 rfl) .nil)) .nil)) .nil)) rx; (repeat ((first | refine ai rfl ?_ | refine ai (fun _ => rfl) ?_))); refine ai (fun h5 => ?_) (fun h6 => ?_)
  ·have hq1 := of_decide_eq_true ((Bool.and_eq_true _ _).mp h5).1; have hwr : w64 (c.at_ + 1) = c.at_ + 1 := wr (by omega); exact loop_next1 { c with at_ := (w64 (c.at_ + 1)) } (wk [0, 1, 2] (tO rfl (ts LexReader.lo) (tO rfl (ts (lv lw LowL.nil)) (tO rfl (turn_row1 (cv (turn_fn .nil (cv (turn_ptr 1 rfl rfl) .nil)) .nil)) .nil))) (sv (turn_ptr 0 rfl rfl) (sv (turn_fn .nil (cv (turn_ptr 2 rfl rfl) .nil)) (s1 (s1 .nil))))) omA ⟨m, by exact omA, foll hR (congrArg (fun p : LexReader => lex_reader_while_k1 r_ p) (ct h5 rfl)), by exact exA⟩
  ·replace hR : lex_reader_while_k1 r_ c = lex_reader_while r_ (fun (y : Int) => lex_reader_word_g1 y ([2, 3] : List Int) 0) := fo2 (fun p : LexReader => lex_reader_while_k1 r_ p) (c) hR (cf h6 rfl); refine dchk (by kernel_rfl) ?_; refine ai gkA ?_; (first | refine ⟨(List.drop (Int.toNat r_.at_) (List.take (Int.toNat c.at_) c.line)), by exact cvA, ?_⟩ | refine ⟨_, fun _ => ⟨(List.drop (Int.toNat r_.at_) (List.take (Int.toNat c.at_) c.line)), by exact cvA, rfl, rfl⟩, ?_⟩ | refine ⟨_, rfl, ⟨(List.drop (Int.toNat r_.at_) (List.take (Int.toNat c.at_) c.line)), by exact cvA, Sub.refl _, rfl⟩, ?_⟩); (repeat ((first | refine ai rfl ?_ | refine ai (fun _ => rfl) ?_))); refine ret_moves (fun r : ByteArray × LexReader => Sg r.1) (fun r : ByteArray × LexReader => [(0, AObj.row 235 4 [[runes r.2.line, I r.2.at_, I r.2.bad, I r.2.error]]), (0, AObj.row 42 1 [[ints ([2, 3] : List Int)]]), (0, AObj.row 232 1 [[AVal.fn (.func 241) [] [AVal.ptr 1 0 1 0 0]]])]) (leaf := ((runesBytes (List.drop (Int.toNat r_.at_) (List.take (Int.toNat c.at_) c.line))), c)) (foll hR rfl) ?_; exact tt [0, 1, 2] (tO rfl (ts LexReader.lo) (tO rfl (ts (lv lw LowL.nil)) (tO rfl (turn_row1 (cv (turn_fn .nil (cv (turn_ptr 1 rfl rfl) .nil)) .nil)) .nil))) t1
 refine us (mv [0, 2, 3] (hof1) (dO (ds LexReader.lo) (dO (dc (dv (dn_as (as_lits (c := (fun q_ => [I q_])) (d := 0) ([2, 3] : List Int) rfl) lw) .nil)) (dO (dc (dv (dn_fn .nil (dp .nil)) .nil)) .nil))) (dp (dv (dn_fn .nil (dp .nil)) .nil)) (rO (re LexReader.lo) (rO (re (lv lw LowL.nil)) (rO (rc (rv (ren_fn .nil (.cons _ _ _ _ (rp 2 0 rfl) .nil)) .nil)) .nil))) rx) ?_; refine us (runes_Lower_c ((lex_reader_while r_ (fun (y : Int) => lex_reader_word_g1 y ([2, 3] : List Int) 0)).1) (by first | (exact lex_while_sz _ _ hp0.2.2) | exact szA) _) ?_; obtain rfl := foll hR rfl; exact rq (tt [0] (tO rfl (ts LexReader.lo) .nil) (turn_low (Low.agg' (Token.lo))))
def strconv_Atoi (s : ByteArray) : Int × Unit := ((istrconv_Atoi s).1, ())
theorem strconv_Atoi_c (s : ByteArray) (hs0 : s.size <= 4294967296) (hp0 : atoiOK s) : ∀ objs, AGives Tryz.prog 262 [Sg s] objs (AVal.tup [I ((strconv_Atoi s).1), AVal.lit .nilIface]) := by
 generalize hR : strconv_Atoi s = R; refine ga (l1 .nil) (Low.tup' (l1 (l1 .nil))) (kp 6 [12]) Tryz.func262 ?_; have hk0 := hs0; obtain z1 : s.size <= 4294967296 := hs0; refine us (istrconv_Atoi_c s szA ckA _) ?_; refine ai (fun h => nomatch h) (fun _ => ?_); obtain rfl := foll hR rfl; exact ret_seen (Low.tup' (l1 (l1 .nil))) (Seen.tup (e1 (e1 .nil)))
def lex_reader_text_c1 (x_ : Int) (held : Bool) : Bool × Bool := bif (((runes_Class x_) == 0) || ((x_ == 34) && (!held))) then (false, held) else (true, ((x_ == 92) && (!held)))
theorem lex_reader_text_c1_c (x_ : Int) (held : Bool) : AMoves Tryz.prog 256 [J x_, AVal.ptr 0 0 1 0 0] [(0, AObj.row 4 1 [[Bo held]])] 1 (Bo ((lex_reader_text_c1 x_ held).1)) [(0, AObj.row 4 1 [[Bo ((lex_reader_text_c1 x_ held).2)]])] := by
 generalize hR : lex_reader_text_c1 x_ held = R; refine mo (kp 4 [14]) Tryz.func256 ?_; refine us (runes_Class_c x_ _) ?_; refine ai (fun h1 => ?_) (fun h2 => ?_)
 ·obtain rfl := foll hR (ct h1 rfl); exact rq (tt [0] (tO rfl (ts (l1 LowL.nil)) .nil) t1)
 ·obtain rfl := foll hR (cf h2 rfl); exact rq (tt [0] (tO rfl (ts (l1 LowL.nil)) .nil) t1)
def utf8_AppendRune (p_ : List Int) (r_ : Int) : (List Int) := bif (decide ((wu32 r_) <= 127)) then (p_ ++ ([(wu8 r_)] : List Int)) else (utf8_appendRuneNonASCII p_ r_)
theorem utf8_AppendRune_o (p_ : List Int) (r_ : Int) (hs0 : p_.length <= 4294967296) : AMoves Tryz.prog 261 [AVal.own 0 0 1 0 p_.length, J r_] [(0, AObj.row 5 1 (p_.map (fun q_ => [Y q_])))] 0 (AVal.own 0 0 1 0 (utf8_AppendRune p_ r_).length) [(0, AObj.row 5 1 ((utf8_AppendRune p_ r_).map (fun q_ => [Y q_])))] := by
 generalize hR : utf8_AppendRune p_ r_ = R; refine mo (kp 5 [7]) Tryz.func261 ?_; have hk0 := hs0; obtain z3 : p_.length <= 4294967296 := hs0; refine ai (fun h1 => ?_) (fun h2 => ?_)
 ·have qh1 := of_decide_eq_true h1; refine Or.inl ?_; (first | refine ⟨app_ok 1 rfl lnA apA, ?_⟩ | refine ⟨app_nil 1 rfl apA, ?_⟩); obtain rfl := foll hR (ct h1 rfl); exact rq (tt [0] (tO rfl (tl eqA) .nil) (to 0 lnA))
 ·have qh2 := of_decide_eq_false h2; refine us (mv [0] (utf8_appendRuneNonASCII_o p_ r_ szA) (dO (dr eqA) .nil) (dv (dn_ownl rfl lnA) (d1 .nil)) (rO rr .nil) (rw_ 1 0 rfl)) ?_; obtain rfl := foll hR (cf h2 rfl); exact rq (tt [1] (tO rfl (tl eqA) .nil) (to 0 lnA))
theorem utf8_AppendRune_all (l : List Int) (r_ : Int) : ∃ k, utf8_AppendRune l r_ = l ++ k ∧ 1 <= k.length ∧ k.length <= 4 ∧ byteIn k := by
 have h1 : ∀ a : Int, byteIn [wu8 a] := fun a => byteIn_cons (wu8_in a) byteIn_nil
 have h2 : ∀ a b : Int, byteIn [wu8 a, wu8 b] := fun a b => byteIn_cons (wu8_in a) (h1 b)
 have h3 : ∀ a b c : Int, byteIn [wu8 a, wu8 b, wu8 c] := fun a b c => byteIn_cons (wu8_in a) (h2 b c)
 have h4 : ∀ a b c d : Int, byteIn [wu8 a, wu8 b, wu8 c, wu8 d] := fun a b c d => byteIn_cons (wu8_in a) (h3 b c d)
 have hc : byteIn [239, 191, 189] := byteIn_cons (by decide) (byteIn_cons (by decide) (byteIn_cons (by decide) byteIn_nil))
 unfold utf8_AppendRune
 cases (decide ((wu32 r_) <= 127)) with
 | true => exact ⟨_, rfl, by simp, by simp, h1 _⟩
 | false =>
  simp only [cond_false]
  unfold utf8_appendRuneNonASCII
  repeat' first
   | exact ⟨_, rfl, by simp, by simp, h2 _ _⟩
   | exact ⟨_, rfl, by simp, by simp, h3 _ _ _⟩
   | exact ⟨_, rfl, by simp, by simp, h4 _ _ _ _⟩
   | exact ⟨_, rfl, by simp, by simp, hc⟩
   | unfold utf8_appendRuneNonASCII_k1
   | (rw [Bool.cond_eq_ite]; split)
theorem utf8_AppendRune_ne (l : List Int) (r_ : Int) : (utf8_AppendRune l r_).length ≠ 0 := by
 obtain ⟨k, e, h, _⟩ := utf8_AppendRune_all l r_
 rw [e, List.length_append]
 omega
theorem utf8_AppendRune_len (l : List Int) (r_ : Int) : (utf8_AppendRune l r_).length <= l.length + 4 := by
 obtain ⟨k, e, _, h, _⟩ := utf8_AppendRune_all l r_
 rw [e, List.length_append]
 omega
theorem byteIn_rune (l : List Int) (r_ : Int) (h : byteIn l) : byteIn (utf8_AppendRune l r_) := by
 obtain ⟨k, e, _, _, g⟩ := utf8_AppendRune_all l r_
 rw [e]
 exact byteIn_app h g
def slices_ContainsFunc_Dep (s : List Dep) (f : Dep -> Bool) : Bool := (decide ((slices_IndexFunc_Dep s f) >= 0))
def cmd_id (n : Int) : Bool := (cmd_within n 1 99999)
theorem cmd_id_c (n : Int) : ∀ objs, AGives Tryz.prog 208 [I n] objs (Bo (cmd_id n)) := by
 generalize hR : cmd_id n = R; refine ga (l1 .nil) lx (kp 3 []) Tryz.func208 ?_; refine us (cmd_within_c n 1 99999 _) ?_; obtain rfl := foll hR rfl; exact ret_seen lx sr
def slices_ContainsFunc_Alt (s : List Alt) (f : Alt -> Bool) : Bool := (decide ((slices_IndexFunc_Alt s f) >= 0))
def shape_Same (a : Shape) (b : Shape) : Bool := (((((a.kind == b.kind) && (a.min == b.min)) && (a.max == b.max)) && (a.wall == b.wall)) && (slices_Equal_Alt a.alts b.alts))
theorem shape_Same_c (a : Shape) (b : Shape) (hs0 : a.sz) (hs1 : b.sz) : ∀ objs, AGives Tryz.prog 142 [Shape.a a, Shape.a b] objs (Bo (shape_Same a b)) := by
 generalize hR : shape_Same a b = R; refine ga (.cons (Shape.low _ _) (.cons (Shape.low _ _) .nil)) lx (kp 5 []) Tryz.func142 ?_; have hk0 := hs0; obtain z1 : a.alts.length <= 4294967296 := hs0; have hk1 := hs1; obtain z2 : b.alts.length <= 4294967296 := hs1; (first | apply u2 | apply u3 | apply u4 | apply us); exact slices_Equal_Alt_c a.alts b.alts szA szA _; obtain rfl := foll hR rfl; exact ret_seen lx sr
def job_view_over (v : Job) : Bool := (((((((v.nodes == 0) && (job_tick v.start)) && (job_tick v.limit)) && (decide (v.promise >= (-1)))) && (decide (v.promise <= 1000000))) && (decide (v.choice >= 0))) && (decide (v.choice <= 48)))
theorem job_view_over_c (v : Job) : ∀ objs, AGives Tryz.prog 175 [Job.a v] objs (Bo (job_view_over v)) := by
 generalize hR : job_view_over v = R; refine ga (.cons (Job.low _ _) .nil) lx (kp 3 []) Tryz.func175 ?_; (first | apply u2 | apply u3 | apply u4 | apply us); exact job_tick_c v.start _; (first | apply u2 | apply u3 | apply u4 | apply us); exact job_tick_c v.limit _; obtain rfl := foll hR rfl; exact ret_seen lx sr
def nodeset_Count (s : Int) : Int := (bits_OnesCount64 s)
theorem nodeset_Count_c (s : Int) : ∀ objs, AGives Tryz.prog 24 [U s] objs (I (nodeset_Count s)) := by
 generalize hR : nodeset_Count s = R; refine ga (l1 .nil) lx (kp 3 []) Tryz.func24 ?_; refine us (bits_OnesCount64_c s _) ?_; obtain rfl := foll hR rfl; exact ret_seen lx sr
def nodeset_All (n : Int) : Int := bif (decide (n <= 0)) then 0 else bif (decide (n >= 64)) then 18446744073709551615 else (wu64 ((nodeset_one n) - 1))
theorem nodeset_All_c (n : Int) : ∀ objs, AGives Tryz.prog 210 [I n] objs (U (nodeset_All n)) := by
 generalize hR : nodeset_All n = R; refine ga (l1 .nil) lx (kp 3 [3, 6]) Tryz.func210 ?_; refine ai (fun h1 => ?_) (fun h2 => ?_)
 ·have qh1 := of_decide_eq_true h1; obtain rfl := foll hR (ct h1 rfl); exact ret_seen lx sr
 ·have qh2 := of_decide_eq_false h2; refine ai (fun h3 => ?_) (fun h4 => ?_)
  ·have qh3 := of_decide_eq_true h3; obtain rfl := foll hR (cf h2 (ct h3 rfl)); exact ret_seen lx sr
  ·have qh4 := of_decide_eq_false h4; refine us (nodeset_one_c n _) ?_; obtain rfl := foll hR (cf h2 (cf h4 rfl)); exact ret_seen lx sr
def nodeset_Of_g1  : List Int -> Int -> Nat -> Int × Int
 | [], s, _ => (s, 0)
 | x_ :: r, s, i => bif (((decide (x_ < 0)) || (decide (x_ >= 64))) || ((wu64 (BitVec.ofInt 64 s &&& BitVec.ofInt 64 (nodeset_one x_)).toNat) != 0)) then (0, 90) else nodeset_Of_g1 r (wu64 (BitVec.ofInt 64 s ||| BitVec.ofInt 64 (nodeset_one x_)).toNat) (i + 1)
def nodeset_Of (l : List Int) : Int × Int := nodeset_Of_g1 l 0 0
theorem nodeset_Of_c (l : List Int) (hs0 : l.length <= 4294967296) : ∀ objs, AGives Tryz.prog 167 [ints l] objs (AVal.tup [U ((nodeset_Of l).1), I ((nodeset_Of l).2)]) := by
 generalize hR : nodeset_Of l = R; refine ga (.cons lw .nil) (Low.tup' (l1 (l1 .nil))) (kp 7 [7, 8, 9, 10, 25]) Tryz.func167 ?_; have hk0 := hs0; obtain z5 : l.length <= 4294967296 := hs0; refine loop_start2 (fun (s : Int) (i : Nat) => nodeset_Of_g1 (List.drop i l) s i = R ∧ i <= l.length) (fun s i => l.length - i) (fun s i => [(2, U 0), (3, I 0), (4, U s), (7, ints l), (8, I (l.length : Int)), (9, I (i : Int))]) (fun s i => []) 0 0 (wk [] .nil (s1 (s1 (s1 (sl lw (s1 (s1 .nil))))))) ⟨foll hR rfl, by exact omA⟩ ?_; clear hR; rintro s i ⟨hR, hj⟩; (try dsimp only at hR hj); refine ai (fun h1 => ?_) (fun h2 => ?_)
 ·have hlt := ltA h1; rw [drop_getD 0 hlt] at hR; refine ai gkA ?_; (first | apply u2 | apply u3 | apply u4 | apply us); exact nodeset_one_c (l.getD i 0) _; refine ai (fun h3 => ?_) (fun h4 => ?_)
  ·obtain rfl := foll hR (ct h3 rfl); exact ret_seen (Low.tup' (l1 (l1 .nil))) (Seen.tup (e1 (e1 .nil)))
  ·refine us (nodeset_one_c (l.getD i 0) _) ?_; exact loop_next2 (wu64 (BitVec.ofInt 64 s ||| BitVec.ofInt 64 (nodeset_one (l.getD i 0))).toNat) (i + 1) (wk [] .nil (s1 (s1 (s1 (sl lw (s1 (sv (turn_eq (I_eq (wr omA)) lx) .nil))))))) omA ⟨foll hR (cf h4 rfl), by exact omA⟩
 ·rw [drop_none (l := l) (j := i) (geA h2)] at hR; obtain rfl := foll hR rfl; exact ret_seen (Low.tup' (l1 (l1 .nil))) (Seen.tup (e1 (e1 .nil)))
def nodeset_List_g1 (s : Int) : Nat -> List Int -> Nat -> (List Int)
 | 0, _, _ => []
 | m + 1, out, i => bif (decide ((i : Int) < 64)) then bif ((wu64 (BitVec.ofInt 64 s &&& BitVec.ofInt 64 (nodeset_one (i : Int))).toNat) != 0) then nodeset_List_g1 s m (out ++ ([(i : Int)] : List Int)) (i + 1) else nodeset_List_g1 s m out (i + 1) else out
def nodeset_List_k1 (out : List Int) : (List Int) := out
def nodeset_List (s : Int) : (List Int) := nodeset_List_k1 (nodeset_List_g1 s ((Int.toNat (64 - (0 : Int))) + 1) [] 0)
theorem nodeset_List_c (s : Int) : ∀ objs, AGives Tryz.prog 168 [U s] objs (ints (nodeset_List s)) := by
 generalize hR : nodeset_List s = R; refine ga (l1 .nil) lw (kp 5 [5, 6, 12]) Tryz.func168 ?_; refine loop_start2 (fun (out : List Int) (i : Nat) => ∃ m, (Int.toNat (64 - (i : Int))) < m ∧ nodeset_List_k1 (nodeset_List_g1 s m out i) = R ∧ out.length <= i) (fun out i => (Int.toNat (64 - (i : Int)))) (fun out i => [(0, U s), (2, AVal.lit (.slice none 0 0)), (3, AVal.own 0 0 1 0 out.length), (5, I (i : Int))]) (fun out i => [(0, AObj.row 3 1 (out.map (fun q_ => [I q_])))]) [] 0 ((weaker_none 3 1).trans (wk [0] (tO rfl (tl eqA) .nil) (s1 (s1 (sv (turn_nilown 0 rfl) (s1 .nil)))))) ⟨_, Nat.lt_succ_self _, foll hR rfl, by exact exA⟩ ?_; clear hR; rintro out i ⟨m, hm, hR, hx⟩; (try dsimp only at hR hm hx); obtain ⟨m, rfl⟩ := sucA m; refine ai (fun h1 => ?_) (fun h2 => ?_)
 ·have qh1 := of_decide_eq_true h1; refine us (nodeset_one_c (i : Int) _) ?_; refine ai (fun h3 => ?_) (fun h4 => ?_)
  ·refine Or.inl ?_; (first | refine ⟨app_ok 8 rfl lnA apA, ?_⟩ | refine ⟨app_nil 8 rfl apA, ?_⟩); exact loop_next2 (out ++ ([(i : Int)] : List Int)) (i + 1) (wk [0] (tO rfl (tl eqA) .nil) (s1 (s1 (sv (to 0 lnA) (sv (turn_eq (I_eq (wr omA)) lx) .nil))))) omA ⟨m, by exact omA, foll hR (congrArg (fun p : (List Int) => nodeset_List_k1 p) (ct h1 (ct h3 rfl))), by exact exA⟩
  ·exact loop_next2 out (i + 1) (wk [0] (tO rfl (tl eqA) .nil) (s1 (s1 (sv (to 0 lnA) (sv (turn_eq (I_eq (wr omA)) lx) .nil))))) omA ⟨m, by exact omA, foll hR (congrArg (fun p : (List Int) => nodeset_List_k1 p) (ct h1 (cf h4 rfl))), by exact exA⟩
 ·have qh2 := of_decide_eq_false h2; replace hR : nodeset_List_k1 out = R := fo2 (fun p : (List Int) => nodeset_List_k1 p) (out) hR (cf h2 rfl); obtain rfl := foll hR rfl; exact ret_seen lw (seen_list 0 _ rfl eqA lnA)
theorem nodeset_List_mem1 (s : Int) : ∀ (m : Nat) (out : List Int) (i : Nat), (∀ x ∈ out, 0 <= x ∧ x < 64) -> ∀ x ∈ nodeset_List_g1 s m out i, 0 <= x ∧ x < 64
 | 0, _, _, _, x, hx => by simp [nodeset_List_g1] at hx
 | m + 1, out, i, h, x, hx => by
  rw [nodeset_List_g1] at hx
  cases hd : decide ((i : Int) < 64) with
  | false => rw [hd] at hx; exact h x hx
  | true =>
   rw [hd] at hx
   have hi := of_decide_eq_true hd
   simp only [cond_true] at hx
   cases hb : ((wu64 (BitVec.ofInt 64 s &&& BitVec.ofInt 64 (nodeset_one (i : Int))).toNat) != 0) with
   | false => rw [hb] at hx; exact nodeset_List_mem1 s m out (i + 1) h x hx
   | true =>
    rw [hb] at hx
    refine nodeset_List_mem1 s m _ (i + 1) (fun y hy => ?_) x hx
    rcases List.mem_append.1 hy with hy | hy
    ·exact h y hy
    ·rw [List.mem_singleton.1 hy]; omega
theorem nodeset_List_mem (s : Int) : ∀ x ∈ nodeset_List s, 0 <= x ∧ x < 64 := nodeset_List_mem1 s _ _ _ (fun x hx => nomatch hx)
theorem nodeset_List_get (s : Int) {i : Nat} (h : i < (nodeset_List s).length) : 0 <= (nodeset_List s).getD i 0 ∧ (nodeset_List s).getD i 0 < 64 := by
 have e : (nodeset_List s).getD i 0 = (nodeset_List s)[i] := by simp [List.getD, List.getElem?_eq_getElem h]
 rw [e]
 exact nodeset_List_mem s _ (List.getElem_mem h)
theorem nodeset_List_len1 (s : Int) : ∀ (m : Nat) (out : List Int) (i : Nat), out.length <= i -> i <= 64 -> (nodeset_List_g1 s m out i).length <= 64
 | 0, _, _, _, _ => by simp [nodeset_List_g1]
 | m + 1, out, i, h, h64 => by
  rw [nodeset_List_g1]
  cases hd : decide ((i : Int) < 64) with
  | false => simp only [cond_false]; omega
  | true =>
   have hi := of_decide_eq_true hd
   simp only [cond_true]
   cases ((wu64 (BitVec.ofInt 64 s &&& BitVec.ofInt 64 (nodeset_one (i : Int))).toNat) != 0) with
   | false => exact nodeset_List_len1 s m out (i + 1) (by omega) (by omega)
   | true => exact nodeset_List_len1 s m _ (i + 1) (by simp; omega) (by omega)
theorem nodeset_List_len (s : Int) : (nodeset_List s).length <= 64 := nodeset_List_len1 s _ _ _ (by simp) (by omega)
def nodeset_Has (s : Int) (n : Int) : Bool := (((decide (n >= 0)) && (decide (n < 64))) && ((wu64 (BitVec.ofInt 64 s &&& BitVec.ofInt 64 (nodeset_one n)).toNat) != 0))
theorem nodeset_Has_c (s : Int) (n : Int) : ∀ objs, AGives Tryz.prog 99 [U s, I n] objs (Bo (nodeset_Has s n)) := by
 generalize hR : nodeset_Has s n = R; refine ga (l1 (l1 .nil)) lx (kp 5 []) Tryz.func99 ?_; (first | apply u2 | apply u3 | apply u4 | apply us); exact nodeset_one_c n _; obtain rfl := foll hR rfl; exact ret_seen lx sr
def job_copied (j : Job) : Job := j
theorem job_copied_c (j : Job) (hs0 : j.sz) : ∀ objs, AGives Tryz.prog 145 [Job.a j] objs (Job.a j) := by
 generalize hR : job_copied j = R; refine ga (.cons (Job.low _ _) .nil) (Job.low _ _) (kp 3 []) Tryz.func145 ?_; have hk0 := hs0; obtain ⟨z1, z2, z3, z4, z5⟩ : j.name.size <= 4294967296 ∧ j.user.size <= 4294967296 ∧ j.account.size <= 4294967296 ∧ (j.shape.alts.length <= 4294967296) ∧ j.after.length <= 4294967296 := hs0; refine us (slices_Clone_Alt_c j.shape.alts szA _) ?_; refine us (slices_Clone_Dep_c j.after szA _) ?_; obtain rfl := foll hR rfl; exact ret_seen (Job.low _ _) sr
def sat_sum_g1 (end_ : Int) : List Int -> Int -> Nat -> Int × Bool
 | [], left, _ => ((w64 (end_ - left)), true)
 | x_ :: r, left, i => bif (decide ((sat_within_int x_ 0 end_) > left)) then (end_, false) else sat_sum_g1 end_ r (w64 (left - (sat_within_int x_ 0 end_))) (i + 1)
def sat_sum (end_ : Int) (l : List Int) : Int × Bool := sat_sum_g1 end_ l end_ 0
theorem sat_sum_c (end_ : Int) (l : List Int) (hs0 : l.length <= 4294967296) : ∀ objs, AGives Tryz.prog 141 [I end_, ints l] objs (AVal.tup [I ((sat_sum end_ l).1), Bo ((sat_sum end_ l).2)]) := by
 generalize hR : sat_sum end_ l = R; refine ga (l1 (.cons lw .nil)) (Low.tup' (l1 (l1 .nil))) (kp 9 [10, 11, 12, 13, 21]) Tryz.func141 ?_; have hk0 := hs0; obtain z5 : l.length <= 4294967296 := hs0; refine loop_start2 (fun (left : Int) (i : Nat) => sat_sum_g1 end_ (List.drop i l) left i = R ∧ i <= l.length) (fun left i => l.length - i) (fun left i => [(0, I end_), (4, I 0), (5, Bo false), (6, I left), (10, ints l), (11, I (l.length : Int)), (12, I (i : Int))]) (fun left i => []) end_ 0 (wk [] .nil (s1 (s1 (s1 (s1 (sl lw (s1 (s1 .nil)))))))) ⟨foll hR rfl, by exact omA⟩ ?_; clear hR; rintro left i ⟨hR, hj⟩; (try dsimp only at hR hj); refine ai (fun h1 => ?_) (fun h2 => ?_)
 ·have hlt := ltA h1; rw [drop_getD 0 hlt] at hR; refine ai gkA ?_; refine us (sat_within_int_c (l.getD i 0) 0 end_ _) ?_; refine ai (fun h3 => ?_) (fun h4 => ?_)
  ·have qh3 := of_decide_eq_true h3; obtain rfl := foll hR (ct h3 rfl); exact ret_seen (Low.tup' (l1 (l1 .nil))) (Seen.tup (e1 (e1 .nil)))
  ·have qh4 := of_decide_eq_false h4; exact loop_next2 (w64 (left - (sat_within_int (l.getD i 0) 0 end_))) (i + 1) (wk [] .nil (s1 (s1 (s1 (s1 (sl lw (s1 (sv (turn_eq (I_eq (wr omA)) lx) .nil)))))))) omA ⟨foll hR (cf h4 rfl), by exact omA⟩
 ·rw [drop_none (l := l) (j := i) (geA h2)] at hR; obtain rfl := foll hR rfl; exact ret_seen (Low.tup' (l1 (l1 .nil))) (Seen.tup (e1 (e1 .nil)))
def state_Copy (s : State) : State := s
theorem state_Copy_o (s : State) (hs0 : s.sz) : AMoves Tryz.prog 34 [State.a s] [] 0 (AVal.agg [I s.now, AVal.own 0 0 7 0 s.nodes.length, AVal.own 1 0 20 0 s.jobs.length, AVal.own 2 0 5 0 s.resizes.length, AVal.own 3 0 4 0 s.books.length, AVal.own 4 0 4 0 s.ledger.length, I s.nextJob, I s.nextBook]) [(0, AObj.row 57 7 (s.nodes.map Node.cells)), (0, AObj.row 52 20 (s.jobs.map Job.cells)), (0, AObj.row 88 5 (s.resizes.map Resize.cells)), (0, AObj.row 90 4 (s.books.map Book.cells)), (0, AObj.row 67 4 (s.ledger.map Usage.cells))] := by
 generalize hR : state_Copy s = R; refine mo (kp 4 [26, 27, 28]) Tryz.func34 ?_; have hk0 := hs0; obtain ⟨z8, z9, z10, z11, z12, z13, z14⟩ := hs0; refine dchk (by kernel_rfl) ?_; (first | apply u2 | apply u3 | apply u4 | apply us); exact mv [] (state_copied_Node_o s.nodes szA) .nil (dl lw .nil) (rO rr .nil) (rw_ 2 0 rfl); (first | apply u2 | apply u3 | apply u4 | apply us); exact mv [] (state_copied_Job_o s.jobs szA) .nil (dl lw .nil) (rO rr .nil) (rw_ 3 0 rfl); (first | apply u2 | apply u3 | apply u4 | apply us); exact mv [] (state_copied_Resize_o s.resizes szA) .nil (dl lw .nil) (rO rr .nil) (rw_ 4 0 rfl); (first | apply u2 | apply u3 | apply u4 | apply us); exact mv [] (state_copied_Book_o s.books szA) .nil (dl lw .nil) (rO rr .nil) (rw_ 5 0 rfl); (first | apply u2 | apply u3 | apply u4 | apply us); exact mv [] (state_copied_Usage_o s.ledger szA) .nil (dl lw .nil) (rO rr .nil) (rw_ 6 0 rfl); (repeat ((first | refine ai rfl ?_ | refine ai (fun _ => rfl) ?_))); refine loop_start1 (fun (i : Nat) => True ∧ i <= s.jobs.length) (fun i => s.jobs.length - i) (fun i => [(1, AVal.ptr 0 0 8 0 0), (2, AVal.ptr 1 0 8 0 0), (26, I (s.jobs.length : Int)), (27, I (i : Int))]) (fun i => [(0, AObj.row 28 8 [[I s.now, AVal.own 2 0 7 0 s.nodes.length, AVal.own 3 0 20 0 s.jobs.length, AVal.own 4 0 5 0 s.resizes.length, AVal.own 5 0 4 0 s.books.length, AVal.own 6 0 4 0 s.ledger.length, I s.nextJob, I s.nextBook]]), (0, AObj.row 28 8 [[I 0, AVal.lit (.slice none 0 0), AVal.lit (.slice none 0 0), AVal.lit (.slice none 0 0), AVal.lit (.slice none 0 0), AVal.lit (.slice none 0 0), I 0, I 0]]), (0, AObj.row 57 7 (s.nodes.map Node.cells)), (0, AObj.row 52 20 (s.jobs.map Job.cells)), (0, AObj.row 88 5 (s.resizes.map Resize.cells)), (0, AObj.row 90 4 (s.books.map Book.cells)), (0, AObj.row 67 4 (s.ledger.map Usage.cells))]) 0 (wk [0, 1, 2, 3, 4, 5, 6] (tO rfl (turn_row1 (c1 (cv (to 2 lnA) (cv (to 3 lnA) (cv (to 4 lnA) (cv (to 5 lnA) (cv (to 6 lnA) (c1 (c1 .nil))))))))) (tO rfl (ts (l1 (l1 (l1 (l1 (l1 (l1 (l1 (l1 LowL.nil))))))))) (tO rfl (tl eqA) (tO rfl (tl eqA) (tO rfl (tl eqA) (tO rfl (tl eqA) (tO rfl (tl eqA) .nil))))))) (sv (turn_ptr 0 rfl rfl) (sv (turn_ptr 1 rfl rfl) (s1 (s1 .nil))))) ⟨trivial, by exact omA⟩ ?_; have hR0 := hR; rintro i ⟨hR, hj⟩; (try dsimp only at hR hj); refine ai (fun h1 => ?_) (fun h2 => ?_)
 ·have hlt := ltA h1; have hxz : (s.jobs.getD i Job.zero).sz := getD_sz (by first | assumption | grind) (Job.szz _); have hkz := hxz; obtain ⟨z3, z4, z5, z6, z7⟩ : ((s.jobs.getD i Job.zero).name).size <= 4294967296 ∧ ((s.jobs.getD i Job.zero).user).size <= 4294967296 ∧ ((s.jobs.getD i Job.zero).account).size <= 4294967296 ∧ ((((s.jobs.getD i Job.zero).shape).alts).length <= 4294967296) ∧ ((s.jobs.getD i Job.zero).after).length <= 4294967296 := hxz; refine dchk (by kernel_rfl) ?_; refine ai gkA ?_; refine ⟨_, evalOp_load rfl rfl rfl (elemI_at Job.zero i roA ckA) rfl, ?_⟩; (first | apply u2 | apply u3 | apply u4 | apply us); exact state_copied_Alt_c ((s.jobs.getD i Job.zero).shape.alts) szA _; refine ai gkA ?_; refine ⟨_, evalOp_load rfl rfl rfl (elemI_at Job.zero i roA ckA) rfl, ?_⟩; (first | apply u2 | apply u3 | apply u4 | apply us); exact state_copied_Dep_c ((s.jobs.getD i Job.zero).after) szA _; refine ai gkA ?_; refine ⟨_, evalOp_store rfl rfl rfl rfl (elemI_at Job.zero i roA ckA) rfl rfl (set_map_same Job.zero i roA ckA rfl), ?_⟩; refine ai gkA ?_; refine ⟨_, evalOp_store rfl rfl rfl rfl (elemI_at Job.zero i roA ckA) rfl rfl (set_map_same Job.zero i roA ckA rfl), ?_⟩; (repeat ((first | refine ai rfl ?_ | refine ai (fun _ => rfl) ?_ | refine And.intro (evalOp_load rfl rfl rfl (elemI_at Job.zero i roA ckA) rfl) ?_ | refine ai (fun _ => state_copied_Alt_c ((s.jobs.getD i Job.zero).shape.alts) szA _) ?_ | refine And.intro (evalOp_load rfl rfl rfl (elemI_at Job.zero i roA ckA) rfl) ?_ | refine ai (fun _ => state_copied_Dep_c ((s.jobs.getD i Job.zero).after) szA _) ?_))); exact loop_next1 (i + 1) (wk [0, 1, 2, 3, 4, 5, 6] (tO rfl (turn_row1 (c1 (cv (to 2 lnA) (cv (to 3 lnA) (cv (to 4 lnA) (cv (to 5 lnA) (cv (to 6 lnA) (c1 (c1 .nil))))))))) (tO rfl (ts (l1 (l1 (l1 (l1 (l1 (l1 (l1 (l1 LowL.nil))))))))) (tO rfl (tl eqA) (tO rfl (tl eqA) (tO rfl (tl eqA) (tO rfl (tl eqA) (tO rfl (tl eqA) .nil))))))) (sv (turn_ptr 0 rfl rfl) (sv (turn_ptr 1 rfl rfl) (s1 (sv (turn_eq (I_eq (wr omA)) lx) .nil))))) omA ⟨hR, by exact omA⟩
 ·skip; have hR := hR0; obtain rfl := foll hR rfl; exact rq (tt [2, 3, 4, 5, 6] (tO rfl (tl eqA) (tO rfl (tl eqA) (tO rfl (tl eqA) (tO rfl (tl eqA) (tO rfl (tl eqA) .nil))))) (turn_agg (c1 (cv (to 0 lnA) (cv (to 1 lnA) (cv (to 2 lnA) (cv (to 3 lnA) (cv (to 4 lnA) (c1 (c1 .nil))))))))))
theorem state_Copy_p (s : State) (hs0 : s.sz) : AMoves Tryz.prog 34 [State.a s] [] 0 (AVal.agg [I s.now, nodeL s.nodes, AVal.own 0 0 20 0 s.jobs.length, resizeL s.resizes, bookL s.books, usageL s.ledger, I s.nextJob, I s.nextBook]) [(0, AObj.row 52 20 (s.jobs.map Job.cells))] := by
 generalize hR : state_Copy s = R; refine mo (kp 4 [26, 27, 28]) Tryz.func34 ?_; have hk0 := hs0; obtain ⟨z8, z9, z10, z11, z12, z13, z14⟩ := hs0; refine dchk (by kernel_rfl) ?_; (first | apply u2 | apply u3 | apply u4 | apply us); exact mv [] (state_copied_Node_o s.nodes szA) .nil (dl lw .nil) (rO rr .nil) (rw_ 2 0 rfl); (first | apply u2 | apply u3 | apply u4 | apply us); exact mv [] (state_copied_Job_o s.jobs szA) .nil (dl lw .nil) (rO rr .nil) (rw_ 3 0 rfl); (first | apply u2 | apply u3 | apply u4 | apply us); exact mv [] (state_copied_Resize_o s.resizes szA) .nil (dl lw .nil) (rO rr .nil) (rw_ 4 0 rfl); (first | apply u2 | apply u3 | apply u4 | apply us); exact mv [] (state_copied_Book_o s.books szA) .nil (dl lw .nil) (rO rr .nil) (rw_ 5 0 rfl); (first | apply u2 | apply u3 | apply u4 | apply us); exact mv [] (state_copied_Usage_o s.ledger szA) .nil (dl lw .nil) (rO rr .nil) (rw_ 6 0 rfl); (repeat ((first | refine ai rfl ?_ | refine ai (fun _ => rfl) ?_))); refine loop_start1 (fun (i : Nat) => True ∧ i <= s.jobs.length) (fun i => s.jobs.length - i) (fun i => [(1, AVal.ptr 0 0 8 0 0), (2, AVal.ptr 1 0 8 0 0), (26, I (s.jobs.length : Int)), (27, I (i : Int))]) (fun i => [(0, AObj.row 28 8 [[I s.now, AVal.own 2 0 7 0 s.nodes.length, AVal.own 3 0 20 0 s.jobs.length, AVal.own 4 0 5 0 s.resizes.length, AVal.own 5 0 4 0 s.books.length, AVal.own 6 0 4 0 s.ledger.length, I s.nextJob, I s.nextBook]]), (0, AObj.row 28 8 [[I 0, AVal.lit (.slice none 0 0), AVal.lit (.slice none 0 0), AVal.lit (.slice none 0 0), AVal.lit (.slice none 0 0), AVal.lit (.slice none 0 0), I 0, I 0]]), (0, AObj.row 57 7 (s.nodes.map Node.cells)), (0, AObj.row 52 20 (s.jobs.map Job.cells)), (0, AObj.row 88 5 (s.resizes.map Resize.cells)), (0, AObj.row 90 4 (s.books.map Book.cells)), (0, AObj.row 67 4 (s.ledger.map Usage.cells))]) 0 (wk [0, 1, 2, 3, 4, 5, 6] (tO rfl (turn_row1 (c1 (cv (to 2 lnA) (cv (to 3 lnA) (cv (to 4 lnA) (cv (to 5 lnA) (cv (to 6 lnA) (c1 (c1 .nil))))))))) (tO rfl (ts (l1 (l1 (l1 (l1 (l1 (l1 (l1 (l1 LowL.nil))))))))) (tO rfl (tl eqA) (tO rfl (tl eqA) (tO rfl (tl eqA) (tO rfl (tl eqA) (tO rfl (tl eqA) .nil))))))) (sv (turn_ptr 0 rfl rfl) (sv (turn_ptr 1 rfl rfl) (s1 (s1 .nil))))) ⟨trivial, by exact omA⟩ ?_; have hR0 := hR; rintro i ⟨hR, hj⟩; (try dsimp only at hR hj); refine ai (fun h1 => ?_) (fun h2 => ?_)
 ·have hlt := ltA h1; have hxz : (s.jobs.getD i Job.zero).sz := getD_sz (by first | assumption | grind) (Job.szz _); have hkz := hxz; obtain ⟨z3, z4, z5, z6, z7⟩ : ((s.jobs.getD i Job.zero).name).size <= 4294967296 ∧ ((s.jobs.getD i Job.zero).user).size <= 4294967296 ∧ ((s.jobs.getD i Job.zero).account).size <= 4294967296 ∧ ((((s.jobs.getD i Job.zero).shape).alts).length <= 4294967296) ∧ ((s.jobs.getD i Job.zero).after).length <= 4294967296 := hxz; refine dchk (by kernel_rfl) ?_; refine ai gkA ?_; refine ⟨_, evalOp_load rfl rfl rfl (elemI_at Job.zero i roA ckA) rfl, ?_⟩; (first | apply u2 | apply u3 | apply u4 | apply us); exact state_copied_Alt_c ((s.jobs.getD i Job.zero).shape.alts) szA _; refine ai gkA ?_; refine ⟨_, evalOp_load rfl rfl rfl (elemI_at Job.zero i roA ckA) rfl, ?_⟩; (first | apply u2 | apply u3 | apply u4 | apply us); exact state_copied_Dep_c ((s.jobs.getD i Job.zero).after) szA _; refine ai gkA ?_; refine ⟨_, evalOp_store rfl rfl rfl rfl (elemI_at Job.zero i roA ckA) rfl rfl (set_map_same Job.zero i roA ckA rfl), ?_⟩; refine ai gkA ?_; refine ⟨_, evalOp_store rfl rfl rfl rfl (elemI_at Job.zero i roA ckA) rfl rfl (set_map_same Job.zero i roA ckA rfl), ?_⟩; (repeat ((first | refine ai rfl ?_ | refine ai (fun _ => rfl) ?_ | refine And.intro (evalOp_load rfl rfl rfl (elemI_at Job.zero i roA ckA) rfl) ?_ | refine ai (fun _ => state_copied_Alt_c ((s.jobs.getD i Job.zero).shape.alts) szA _) ?_ | refine And.intro (evalOp_load rfl rfl rfl (elemI_at Job.zero i roA ckA) rfl) ?_ | refine ai (fun _ => state_copied_Dep_c ((s.jobs.getD i Job.zero).after) szA _) ?_))); exact loop_next1 (i + 1) (wk [0, 1, 2, 3, 4, 5, 6] (tO rfl (turn_row1 (c1 (cv (to 2 lnA) (cv (to 3 lnA) (cv (to 4 lnA) (cv (to 5 lnA) (cv (to 6 lnA) (c1 (c1 .nil))))))))) (tO rfl (ts (l1 (l1 (l1 (l1 (l1 (l1 (l1 (l1 LowL.nil))))))))) (tO rfl (tl eqA) (tO rfl (tl eqA) (tO rfl (tl eqA) (tO rfl (tl eqA) (tO rfl (tl eqA) .nil))))))) (sv (turn_ptr 0 rfl rfl) (sv (turn_ptr 1 rfl rfl) (s1 (sv (turn_eq (I_eq (wr omA)) lx) .nil))))) omA ⟨hR, by exact omA⟩
 ·skip; have hR := hR0; obtain rfl := foll hR rfl; exact rq (tt [3] (tO rfl (tl eqA) .nil) (turn_agg (c1 (cv (turn_listL _ _ rfl (Nat.zero_le _) (by decide) eqA (fun _ => Node.lowc _ _) lnA) (cv (to 0 lnA) (cv (turn_listL _ _ rfl (Nat.zero_le _) (by decide) eqA (fun _ => Resize.lowc _ _) lnA) (cv (turn_listL _ _ rfl (Nat.zero_le _) (by decide) eqA (fun _ => Book.lowc _ _) lnA) (cv (turn_listL _ _ rfl (Nat.zero_le _) (by decide) eqA (fun _ => Usage.lowc _ _) lnA) (c1 (c1 .nil))))))))))
def ref17_Check_g1 (l : List Usage) : List Usage -> Nat -> Int
 | [], _ => 0
 | x_ :: r, i => bif ((((((((i : Int) == 200) || (!(ref17_name x_.user))) || (!(ref17_name x_.account))) || (decide (x_.used < 0))) || (decide (x_.used > 1000000000000))) || (decide (x_.share < 0))) || (decide (x_.share > x_.used))) then 2 else bif ((decide ((i : Int) > 0)) && (!(ref17_ahead (l.getD (Int.toNat (w64 ((i : Int) - 1))) Usage.zero) x_))) then 2 else ref17_Check_g1 l r (i + 1)
def ref17_Check (l : List Usage) : Int := ref17_Check_g1 l l 0
theorem ref17_Check_c (l : List Usage) (hs0 : l.length <= 4294967296 ∧ (∀ y ∈ l, y.sz)) : ∀ objs, AGives Tryz.prog 89 [usageL l] objs (I (ref17_Check l)) := by
 generalize hR : ref17_Check l = R; refine ga (.cons lw .nil) lx (kp 5 [8, 50, 62]) Tryz.func89 ?_; have hk0 := hs0; obtain ⟨z9, z10⟩ : l.length <= 4294967296 ∧ (∀ y ∈ l, y.sz) := hs0; refine loop_start1 (fun (i : Nat) => ref17_Check_g1 l (List.drop i l) i = R ∧ i <= l.length) (fun i => l.length - i) (fun i => [(0, usageL l), (2, I 0), (3, I (i : Int))]) (fun i => []) 0 (wk [] .nil (sl lw (s1 (s1 .nil)))) ⟨foll hR rfl, by exact omA⟩ ?_; clear hR; rintro i ⟨hR, hj⟩; (try dsimp only at hR hj); refine ai (fun h1 => ?_) (fun h2 => ?_)
 ·have hlt := ltA h1; rw [drop_getD Usage.zero hlt] at hR; have hxz : (l.getD i Usage.zero).sz := getD_sz (by first | assumption | grind) (Usage.szz _); have hkz := hxz; obtain ⟨z3, z4⟩ : ((l.getD i Usage.zero).user).size <= 4294967296 ∧ ((l.getD i Usage.zero).account).size <= 4294967296 := hxz; refine ai gkA ?_; (first | apply u2 | apply u3 | apply u4 | apply us); exact ref17_name_c ((l.getD i Usage.zero).user) _; (first | apply u2 | apply u3 | apply u4 | apply us); exact ref17_name_c ((l.getD i Usage.zero).account) _; refine ai (fun h5 => ?_) (fun h6 => ?_)
  ·obtain rfl := foll hR (ct h5 rfl); exact ret_seen lx sr
  ·refine dchk (by kernel_rfl) ?_; refine ai gkA ?_; (first | apply u2 | apply u3 | apply u4 | apply us); exact ref17_ahead_c (l.getD (Int.toNat (w64 ((i : Int) - 1))) Usage.zero) (l.getD i Usage.zero) _; (repeat ((first | refine ai rfl ?_ | refine ai (fun _ => rfl) ?_ | refine ai (fun _ => ref17_ahead_c (l.getD (Int.toNat (w64 ((i : Int) - 1))) Usage.zero) (l.getD i Usage.zero) _) ?_))); refine ai (fun h7 => ?_) (fun h8 => ?_)
   ·obtain rfl := foll hR (cf h6 (ct h7 rfl)); exact ret_seen lx sr
   ·exact loop_next1 (i + 1) (wk [] .nil (sl lw (s1 (sv (turn_eq (I_eq (wr omA)) lx) .nil)))) omA ⟨foll hR (cf h6 (cf h8 rfl)), by exact omA⟩
 ·rw [drop_none (l := l) (j := i) (geA h2)] at hR; obtain rfl := foll hR rfl; exact ret_seen lx sr
def ref12_Check_g1  : List Node -> Nat -> Int
 | [], _ => 0
 | x_ :: r, i => bif (!(ref12_fine x_)) then 120 else ref12_Check_g1 r (i + 1)
def ref12_Check (l : List Node) : Int := bif (((l.length : Int) == 0) || (decide ((l.length : Int) > 48))) then 120 else ref12_Check_g1 l 0
theorem ref12_Check_c (l : List Node) (hs0 : l.length <= 4294967296) : ∀ objs, AGives Tryz.prog 96 [nodeL l] objs (I (ref12_Check l)) := by
 generalize hR : ref12_Check l = R; refine ga (.cons lw .nil) lx (kp 4 [11, 15, 23]) Tryz.func96 ?_; have hk0 := hs0; obtain z7 : l.length <= 4294967296 := hs0; refine ai (fun h1 => ?_) (fun h2 => ?_)
 ·obtain rfl := foll hR (ct h1 rfl); exact ret_seen lx sr
 ·refine loop_start1 (fun (i : Nat) => ref12_Check_g1 (List.drop i l) i = R ∧ i <= l.length) (fun i => l.length - i) (fun i => [(0, nodeL l), (2, I 0), (3, I (i : Int))]) (fun i => []) 0 (wk [] .nil (sl lw (s1 (s1 .nil)))) ⟨foll hR (cf h2 rfl), by exact omA⟩ ?_; clear hR; rintro i ⟨hR, hj⟩; (try dsimp only at hR hj); refine ai (fun h3 => ?_) (fun h4 => ?_)
  ·have hlt := ltA h3; rw [drop_getD Node.zero hlt] at hR; refine ai gkA ?_; refine us (ref12_fine_c (l.getD i Node.zero) _) ?_; refine ai (fun h5 => ?_) (fun h6 => ?_)
   ·obtain rfl := foll hR (ct h5 rfl); exact ret_seen lx sr
   ·exact loop_next1 (i + 1) (wk [] .nil (sl lw (s1 (sv (turn_eq (I_eq (wr omA)) lx) .nil)))) omA ⟨foll hR (cf h6 rfl), by exact omA⟩
  ·rw [drop_none (l := l) (j := i) (geA h4)] at hR; obtain rfl := foll hR rfl; exact ret_seen lx sr
theorem ref12_Check_len {l : List Node} (h : (ref12_Check l != 0) = false) : l.length <= 48 := by
 simp only [ref12_Check] at h
 revert h
 cases h2 : (((l.length : Int) == 0) || (decide ((l.length : Int) > 48))) with
 | true => simp
 | false => intro _; simp at h2; omega
def ref07_Same (a : Shape) (b : Shape) : Bool := (((((a.kind == b.kind) && (a.min == b.min)) && (a.max == b.max)) && (a.wall == b.wall)) && (ref07_SameAlts a.alts b.alts))
theorem ref07_Same_c (a : Shape) (b : Shape) (hs0 : a.sz) (hs1 : b.sz) : ∀ objs, AGives Tryz.prog 131 [Shape.a a, Shape.a b] objs (Bo (ref07_Same a b)) := by
 generalize hR : ref07_Same a b = R; refine ga (.cons (Shape.low _ _) (.cons (Shape.low _ _) .nil)) lx (kp 5 []) Tryz.func131 ?_; have hk0 := hs0; obtain z1 : a.alts.length <= 4294967296 := hs0; have hk1 := hs1; obtain z2 : b.alts.length <= 4294967296 := hs1; (first | apply u2 | apply u3 | apply u4 | apply us); exact ref07_SameAlts_c a.alts b.alts szA szA _; obtain rfl := foll hR rfl; exact ret_seen lx sr
end Go.Proofs.YtigcpfbpmnppcaaGreatDoor
namespace Go.Proofs.YtigcpfbpmnppcaaGreatDoor
set_option linter.unusedSimpArgs false
set_option linter.unusedVariables false
open Go.Fw
set_option maxRecDepth 20000
set_option maxHeartbeats 4000000
attribute [local irreducible] ACalls AMoves
def ref04_Check_g1  : List (Nat × Int) -> Nat -> Int × Int
 | [], n => ((n : Int), 0)
 | x_ :: r, n => bif ((ref04_Class x_.2) == 0) then ((n : Int), 40) else ref04_Check_g1 r (n + 1)
def ref04_Check (s : ByteArray) : Int × Int := ref04_Check_g1 (runeList s) 0
theorem ref04_Check_c (s : ByteArray) (hs0 : s.size <= 4294967296) : ∀ objs, AGives Tryz.prog 183 [Sg s] objs (AVal.tup [I ((ref04_Check s).1), I ((ref04_Check s).2)]) := by
 generalize hR : ref04_Check s = R; refine ga (l1 .nil) (Low.tup' (l1 (l1 .nil))) (kp 7 [8, 9, 10, 14]) Tryz.func183 ?_; have hk0 := hs0; obtain z5 : s.size <= 4294967296 := hs0; refine loop_start2 (fun (n : Nat) (pos : Nat) => ∃ m, ByteArray.size s - pos <= m ∧ ref04_Check_g1 (strRunes s m pos) n = R ∧ n <= pos) (fun n pos => ByteArray.size s - pos) (fun n pos => [(2, I 0), (3, I 0), (4, I (n : Int)), (8, AVal.ptr 0 0 1 0 0)]) (fun n pos => [(0, AObj.other (.strIter s pos))]) 0 0 (wk [0] (tO rfl (.strIter _ _) .nil) (s1 (s1 (s1 (sv (turn_ptr 0 rfl rfl) .nil))))) ⟨ByteArray.size s, by exact omA, foll hR rfl, by exact exA⟩ ?_; clear hR; rintro n pos ⟨m, hm, hR, hx⟩; (try dsimp only at hR hm hx); refine ai (fun h1 => ?_) (fun h2 => ?_)
 ·have hlt := of_decide_eq_true h1; have hw := decode_pos s pos; have hwe := decode_end s pos hlt; obtain ⟨m, rfl⟩ := sucA m; rw [strRunes_cons h1] at hR; refine ai (fun _ => ?_) (fun h => nomatch h); refine us (ref04_Class_c ((pos, ((Utf8.decode s pos).1 : Int)).2) _) ?_; refine ai (fun h3 => ?_) (fun h4 => ?_)
  ·obtain rfl := foll hR (ct h3 rfl); exact ret_seen (Low.tup' (l1 (l1 .nil))) (Seen.tup (e1 (e1 .nil)))
  ·exact loop_next2 (n + 1) (pos + (Utf8.decode s pos).2) (wk [0] (tO rfl (.strIter _ _) .nil) (s1 (s1 (sv (turn_eq (I_eq (wr omA)) lx) (sv (turn_ptr 0 rfl rfl) .nil))))) omA ⟨m, by exact omA, foll hR (cf h4 rfl), by exact exA⟩
 ·rw [strRunes_nil h2] at hR; refine ai (fun h => nomatch h) (fun _ => ?_); obtain rfl := foll hR rfl; exact ret_seen (Low.tup' (l1 (l1 .nil))) (Seen.tup (e1 (e1 .nil)))
def ref05_end_g1 (l : List Int) (at_ : Int) : Nat -> Int -> Int
 | 0, _ => 0
 | m + 1, i => bif (decide (i < (l.length : Int))) then bif ((((((ref04_Class (l.getD (Int.toNat at_) 0)) == 2) && ((ref04_Class (l.getD (Int.toNat i) 0)) != 2)) && ((ref04_Class (l.getD (Int.toNat i) 0)) != 3)) && ((l.getD (Int.toNat i) 0) != 45)) && ((l.getD (Int.toNat i) 0) != 95)) then i else bif (((ref04_Class (l.getD (Int.toNat at_) 0)) == 3) && (!(ref05_small (l.getD (Int.toNat i) 0)))) then i else ref05_end_g1 l at_ m (w64 (i + 1)) else i
def ref05_end (l : List Int) (at_ : Int) : Int := ref05_end_g1 l at_ ((Int.toNat ((l.length : Int) - (w64 (at_ + 1)))) + 1) (w64 (at_ + 1))
theorem ref05_end_c (l : List Int) (at_ : Int) (hs0 : l.length <= 4294967296) (hp0 : 0 <= at_ ∧ at_ < (l.length : Int)) : ∀ objs, AGives Tryz.prog 223 [runes l, I at_] objs (I (ref05_end l at_)) := by
 generalize hR : ref05_end l at_ = R; refine ga (.cons lw (l1 .nil)) lx (kp 8 [18, 47, 58]) Tryz.func223 ?_; have hk0 := hs0; obtain z7 : l.length <= 4294967296 := hs0; have hw0 : w64 (at_ + 1) = at_ + 1 := wr (by omega); refine ai gkA ?_; refine us (ref04_Class_c (l.getD (Int.toNat at_) 0) _) ?_; refine loop_start1 (fun (i : Int) => ∃ m, (Int.toNat ((l.length : Int) - i)) < m ∧ ref05_end_g1 l at_ m i = R ∧ 0 <= i ∧ i <= (l.length : Int)) (fun i => (Int.toNat ((l.length : Int) - i))) (fun i => [(0, runes l), (4, I 0), (5, I (ref04_Class (l.getD (Int.toNat at_) 0))), (6, I i)]) (fun i => []) (w64 (at_ + 1)) (wk [] .nil (sl lw (s1 (s1 (s1 .nil))))) ⟨_, Nat.lt_succ_self _, foll hR rfl, by exact exA⟩ ?_; clear hR; rintro i ⟨m, hm, hR, hx⟩; (try dsimp only at hR hm hx); obtain ⟨m, rfl⟩ := sucA m; refine ai (fun h1 => ?_) (fun h2 => ?_)
 ·have qh1 := of_decide_eq_true h1; have hw1 : w64 (i + 1) = i + 1 := wr (by omega); refine ai gkA ?_; refine us (ref04_Class_c (l.getD (Int.toNat i) 0) _) ?_; refine ai gkA ?_; refine ai gkA ?_; refine ai (fun h3 => ?_) (fun h4 => ?_)
  ·obtain rfl := foll hR (ct h1 (ct h3 rfl)); exact ret_seen lx sr
  ·refine ai gkA ?_; (first | apply u2 | apply u3 | apply u4 | apply us); exact ref05_small_c (l.getD (Int.toNat i) 0) _; refine ai (fun h5 => ?_) (fun h6 => ?_)
   ·obtain rfl := foll hR (ct h1 (cf h4 (ct h5 rfl))); exact ret_seen lx sr
   ·exact loop_next1 (w64 (i + 1)) (wk [] .nil (sl lw (s1 (s1 (s1 .nil))))) omA ⟨m, by exact omA, foll hR (ct h1 (cf h4 (cf h6 rfl))), by exact exA⟩
 ·have qh2 := of_decide_eq_false h2; obtain rfl := foll hR (cf h2 rfl); exact ret_seen lx sr
theorem ref05_end_g1_le (l : List Int) (at_ : Int) (h : l.length <= 400) : ∀ (m : Nat) (i : Int), 0 <= i -> i <= l.length -> 0 <= ref05_end_g1 l at_ m i ∧ ref05_end_g1 l at_ m i <= l.length ∧ (Int.toNat ((l.length : Int) - i) < m -> i <= ref05_end_g1 l at_ m i) := by
 intro m
 induction m with
 | zero => intro i h0 h1; refine ⟨by simp [ref05_end_g1], by simp [ref05_end_g1], fun h => absurd h (by omega)⟩
 | succ m ih =>
  intro i h0 h1
  rw [ref05_end_g1]
  cases hd : decide (i < (l.length : Int)) with
  | false => exact ⟨h0, h1, fun _ => by simp⟩
  | true =>
   have hi := of_decide_eq_true hd
   have hw : w64 (i + 1) = i + 1 := wr (by omega)
   simp only [cond_true]
   cases ((((((ref04_Class (l.getD (Int.toNat at_) 0)) == 2) && ((ref04_Class (l.getD (Int.toNat i) 0)) != 2)) && ((ref04_Class (l.getD (Int.toNat i) 0)) != 3)) && ((l.getD (Int.toNat i) 0) != 45)) && ((l.getD (Int.toNat i) 0) != 95)) with
   | true => exact ⟨h0, h1, fun _ => by simp⟩
   | false =>
    simp only [cond_false]
    cases (((ref04_Class (l.getD (Int.toNat at_) 0)) == 3) && (!(ref05_small (l.getD (Int.toNat i) 0)))) with
    | true => exact ⟨h0, h1, fun _ => by simp⟩
    | false =>
     simp only [cond_false]
     rw [hw]
     obtain ⟨a, b, c⟩ := ih (i + 1) (by omega) (by omega)
     exact ⟨a, b, fun hm => by have := c (by omega); omega⟩
theorem ref05_end_le (l : List Int) (at_ : Int) (h0 : 0 <= at_) (h1 : at_ < l.length) (h : l.length <= 400) : at_ < ref05_end l at_ ∧ ref05_end l at_ <= l.length := by
 have hw : w64 (at_ + 1) = at_ + 1 := wr (by omega)
 unfold ref05_end
 rw [hw]
 obtain ⟨a, b, c⟩ := ref05_end_g1_le l at_ h ((Int.toNat ((l.length : Int) - (at_ + 1))) + 1) (at_ + 1) (by omega) (by omega)
 have := c (by omega)
 omega
def ref08_waits_g2 (l : List Dep) (i : Nat) (x_ : Dep) : Nat -> Nat -> Sum (Bool) (Nat)
 | 0, _ => Sum.inr 0
 | m + 1, k => bif (decide ((k : Int) < (i : Int))) then bif ((l.getD k Dep.zero).job == x_.job) then Sum.inl false else ref08_waits_g2 l i x_ m (k + 1) else Sum.inr k
def ref08_waits_g1 (l : List Dep) : List Dep -> Nat -> Bool
 | [], _ => true
 | x_ :: r, i => bif ((!(ref08_in x_.how 1 3)) || (!(ref08_in x_.job 1 99999))) then false else (Sum.elim id (fun p1 : Nat => ref08_waits_g1 l r (i + 1))) (ref08_waits_g2 l i x_ ((Int.toNat ((i : Int) - (0 : Int))) + 1) 0)
def ref08_waits (l : List Dep) : Bool := bif (decide ((l.length : Int) > 4)) then false else ref08_waits_g1 l l 0
theorem ref08_waits_c (l : List Dep) (hs0 : l.length <= 4294967296) : ∀ objs, AGives Tryz.prog 156 [depL l] objs (Bo (ref08_waits l)) := by
 generalize hR : ref08_waits l = R; refine ga (.cons lw .nil) lx (kp 5 [7, 11, 29, 32, 45]) Tryz.func156 ?_; have hk0 := hs0; obtain z11 : l.length <= 4294967296 := hs0; refine ai (fun h1 => ?_) (fun h2 => ?_)
 ·have qh1 := of_decide_eq_true h1; obtain rfl := foll hR (ct h1 rfl); exact ret_seen lx sr
 ·have qh2 := of_decide_eq_false h2; refine loop_start1 (fun (i : Nat) => ref08_waits_g1 l (List.drop i l) i = R ∧ i <= l.length) (fun i => l.length - i) (fun i => [(0, depL l), (2, Bo false), (3, I (i : Int))]) (fun i => []) 0 (wk [] .nil (sl lw (s1 (s1 .nil)))) ⟨foll hR (cf h2 rfl), by exact omA⟩ ?_; clear hR; rintro i ⟨hR, hj⟩; (try dsimp only at hR hj); refine ai (fun h3 => ?_) (fun h4 => ?_)
  ·have hlt := ltA h3; rw [drop_getD Dep.zero hlt] at hR; refine ai gkA ?_; refine us (ref08_in_c ((l.getD i Dep.zero).how) 1 3 _) ?_; refine ai gkA ?_; (first | apply u2 | apply u3 | apply u4 | apply us); exact ref08_in_c ((l.getD i Dep.zero).job) 1 99999 _; refine ai (fun h5 => ?_) (fun h6 => ?_)
   ·obtain rfl := foll hR (ct h5 rfl); exact ret_seen lx sr
   ·refine loop_start1 (fun (k : Nat) => ∃ m, (Int.toNat ((i : Int) - (k : Int))) < m ∧ (Sum.elim id (fun p1 : Nat => ref08_waits_g1 l (List.drop (i + 1) l) (i + 1))) (ref08_waits_g2 l i (l.getD i Dep.zero) m k) = R ∧ (k : Int) <= (i : Int)) (fun k => (Int.toNat ((i : Int) - (k : Int)))) (fun k => [(0, depL l), (2, Bo false), (3, I (i : Int)), (4, I (k : Int)), (11, Bo (decide ((i : Int) < (l.length : Int)))), (29, Bo ((!(ref08_in (l.getD i Dep.zero).how 1 3)) || (!(ref08_in (l.getD i Dep.zero).job 1 99999))))]) (fun k => []) 0 (wk [] .nil (sl lw (s1 (s1 (s1 (s1 (s1 .nil))))))) ⟨_, Nat.lt_succ_self _, foll hR (cf h6 rfl), by exact exA⟩ ?_; clear hR; rintro k ⟨m, hm, hR, hx⟩; (try dsimp only at hR hm hx); obtain ⟨m, rfl⟩ := sucA m; refine ai (fun h7 => ?_) (fun h8 => ?_)
    ·have qh7 := of_decide_eq_true h7; refine dchk (by kernel_rfl) ?_; refine ai gkA ?_; refine ai gkA ?_; (repeat ((first | refine ai rfl ?_ | refine ai (fun _ => rfl) ?_))); refine ai (fun h9 => ?_) (fun h10 => ?_)
     ·obtain rfl := foll hR (congrArg (Sum.elim id (fun p1 : Nat => ref08_waits_g1 l (List.drop (i + 1) l) (i + 1))) (ct h7 (ct h9 rfl))); exact ret_seen lx sr
     ·exact loop_next1 (k + 1) (wk [] .nil (sl lw (s1 (s1 (sv (turn_eq (I_eq (wr omA)) lx) (s1 (s1 .nil))))))) omA ⟨m, by exact omA, foll hR (congrArg (Sum.elim id (fun p1 : Nat => ref08_waits_g1 l (List.drop (i + 1) l) (i + 1))) (ct h7 (cf h10 rfl))), by exact exA⟩
    ·have qh8 := of_decide_eq_false h8; replace hR : (Sum.elim id (fun p1 : Nat => ref08_waits_g1 l (List.drop (i + 1) l) (i + 1))) (Sum.inr k) = R := foll hR (congrArg (Sum.elim id (fun p1 : Nat => ref08_waits_g1 l (List.drop (i + 1) l) (i + 1))) (cf h8 rfl)); exact loop_next1 (i + 1) (wk [] .nil (sl lw (s1 (sv (turn_eq (I_eq (wr omA)) lx) .nil)))) omA ⟨foll hR rfl, by exact omA⟩
  ·rw [drop_none (l := l) (j := i) (geA h4)] at hR; obtain rfl := foll hR rfl; exact ret_seen lx sr
def ref07_Check_g3 (x_ : Alt) : List Alt -> Nat -> Sum (Int) (Nat)
 | [], k => Sum.inr k
 | x_1 :: r, k => bif (x_.nodes == x_1.nodes) then Sum.inl 70 else ref07_Check_g3 x_ r (k + 1)
def ref07_Check_g2 (s : Shape) : List Alt -> Nat -> Int
 | [], _ => 0
 | x_ :: r, i => bif ((!(ref07_size x_.nodes)) || (!(ref07_wall x_.wall))) then 70 else (Sum.elim id (fun p1 : Nat => ref07_Check_g2 s r (i + 1))) (ref07_Check_g3 x_ (List.drop (i + 1) s.alts) (i + 1))
def ref07_Check_k1 (s : Shape) (most : Int) : Int := bif (((((decide ((s.alts.length : Int) < 1)) || (decide ((s.alts.length : Int) > most))) || (s.min != 0)) || (s.max != 0)) || (s.wall != 0)) then 70 else ref07_Check_g2 s s.alts 0
def ref07_Check (s : Shape) : Int := bif (s.kind == 3) then bif (((((decide ((s.alts.length : Int) > 0)) || (!(ref07_size s.min))) || (!(ref07_size s.max))) || (decide (s.max < s.min))) || (!(ref07_wall s.wall))) then 70 else 0 else bif (s.kind == 2) then ref07_Check_k1 s 6 else bif (s.kind != 1) then 70 else ref07_Check_k1 s 1
theorem ref07_Check_c (s : Shape) (hs0 : s.sz) : ∀ objs, AGives Tryz.prog 157 [Shape.a s] objs (I (ref07_Check s)) := by
 generalize hR : ref07_Check s = R; refine ga (.cons (Shape.low _ _) .nil) lx (kj [1000010] 6 [8, 37, 40, 43, 69, 74, 94, 101, 116]) Tryz.func157 ?_; have hk0 := hs0; obtain z19 : s.alts.length <= 4294967296 := hs0; refine ai (fun h1 => ?_) (fun h2 => ?_)
 ·(first | apply u2 | apply u3 | apply u4 | apply us); exact ref07_size_c s.min _; (first | apply u2 | apply u3 | apply u4 | apply us); exact ref07_size_c s.max _; (first | apply u2 | apply u3 | apply u4 | apply us); exact ref07_wall_c s.wall _; refine ai (fun h3 => ?_) (fun h4 => ?_)
  ·obtain rfl := foll hR (ct h1 (ct h3 rfl)); exact ret_seen lx sr
  ·obtain rfl := foll hR (ct h1 (cf h4 rfl)); exact ret_seen lx sr
 ·refine join_start1 (fun (most : Int) => ref07_Check_k1 s most = R) (fun most => [(1, AVal.ptr 0 0 5 0 0), (2, I 0), (3, I most)]) (fun most => [(0, AObj.row 48 5 [[I s.kind, altL s.alts, I s.min, I s.max, I s.wall]])]) ?_ ?_
  ·clear hR; rintro most hR; (try dsimp only at hR); refine ai (fun h5 => ?_) (fun h6 => ?_)
   ·obtain rfl := foll hR (ct h5 rfl); exact ret_seen lx sr
   ·refine loop_start1 (fun (i : Nat) => ref07_Check_g2 s (List.drop i s.alts) i = R ∧ i <= s.alts.length) (fun i => s.alts.length - i) (fun i => [(1, AVal.ptr 0 0 5 0 0), (2, I 0), (4, I (i : Int))]) (fun i => [(0, AObj.row 48 5 [[I s.kind, altL s.alts, I s.min, I s.max, I s.wall]])]) 0 (wk [0] (tO rfl (ts Shape.lo) .nil) (sv (turn_ptr 0 rfl rfl) (s1 (s1 .nil)))) ⟨foll hR (cf h6 rfl), by exact omA⟩ ?_; clear hR; rintro i ⟨hR, hj⟩; (try dsimp only at hR hj); refine ai (fun h7 => ?_) (fun h8 => ?_)
    ·have hlt := ltA h7; rw [drop_getD Alt.zero hlt] at hR; refine ai gkA ?_; refine us (ref07_size_c ((s.alts.getD i Alt.zero).nodes) _) ?_; refine ai gkA ?_; (first | apply u2 | apply u3 | apply u4 | apply us); exact ref07_wall_c ((s.alts.getD i Alt.zero).wall) _; refine ai (fun h9 => ?_) (fun h10 => ?_)
     ·obtain rfl := foll hR (ct h9 rfl); exact ret_seen lx sr
     ·refine loop_start1 (fun (k : Nat) => (Sum.elim id (fun p1 : Nat => ref07_Check_g2 s (List.drop (i + 1) s.alts) (i + 1))) (ref07_Check_g3 (s.alts.getD i Alt.zero) (List.drop k s.alts) k) = R ∧ k <= s.alts.length) (fun k => s.alts.length - k) (fun k => [(1, AVal.ptr 0 0 5 0 0), (2, I 0), (4, I (i : Int)), (5, I (k : Int)), (74, Bo (decide ((i : Int) < (s.alts.length : Int)))), (94, Bo ((!(ref07_size (s.alts.getD i Alt.zero).nodes)) || (!(ref07_wall (s.alts.getD i Alt.zero).wall))))]) (fun k => [(0, AObj.row 48 5 [[I s.kind, altL s.alts, I s.min, I s.max, I s.wall]])]) (i + 1) (wk [0] (tO rfl (ts Shape.lo) .nil) (sv (turn_ptr 0 rfl rfl) (s1 (s1 (sv (turn_eq (I_eq (wr omA)) lx) (s1 (s1 .nil))))))) ⟨foll hR (cf h10 rfl), by exact omA⟩ ?_; clear hR; rintro k ⟨hR, hj⟩; (try dsimp only at hR hj); refine ai (fun h11 => ?_) (fun h12 => ?_)
      ·have hlt := ltA h11; rw [drop_getD Alt.zero hlt] at hR; refine dchk (by kernel_rfl) ?_; refine ai gkA ?_; refine ai gkA ?_; (repeat ((first | refine ai rfl ?_ | refine ai (fun _ => rfl) ?_))); refine ai (fun h13 => ?_) (fun h14 => ?_)
       ·obtain rfl := foll hR (congrArg (Sum.elim id (fun p1 : Nat => ref07_Check_g2 s (List.drop (i + 1) s.alts) (i + 1))) (ct h13 rfl)); exact ret_seen lx sr
       ·exact loop_next1 (k + 1) (wk [0] (tO rfl (ts Shape.lo) .nil) (sv (turn_ptr 0 rfl rfl) (s1 (s1 (sv (turn_eq (I_eq (wr omA)) lx) (s1 (s1 .nil))))))) omA ⟨foll hR (congrArg (Sum.elim id (fun p1 : Nat => ref07_Check_g2 s (List.drop (i + 1) s.alts) (i + 1))) (cf h14 rfl)), by exact omA⟩
      ·rw [drop_none (l := s.alts) (j := k) (geA h12)] at hR; replace hR : (Sum.elim id (fun p1 : Nat => ref07_Check_g2 s (List.drop (i + 1) s.alts) (i + 1))) (Sum.inr k) = R := foll hR (congrArg (Sum.elim id (fun p1 : Nat => ref07_Check_g2 s (List.drop (i + 1) s.alts) (i + 1))) rfl); exact loop_next1 (i + 1) (wk [0] (tO rfl (ts Shape.lo) .nil) (sv (turn_ptr 0 rfl rfl) (s1 (sv (turn_eq (I_eq (wr omA)) lx) .nil)))) omA ⟨foll hR rfl, by exact omA⟩
    ·rw [drop_none (l := s.alts) (j := i) (geA h8)] at hR; obtain rfl := foll hR rfl; exact ret_seen lx sr
  ·refine ai (fun h15 => ?_) (fun h16 => ?_)
   ·exact join_here1 6 (wk [0] (tO rfl (ts Shape.lo) .nil) (sv (turn_ptr 0 rfl rfl) (s1 (s1 .nil)))) (foll hR (cf h2 (ct h15 rfl)))
   ·refine ai (fun h17 => ?_) (fun h18 => ?_)
    ·obtain rfl := foll hR (cf h2 (cf h16 (ct h17 rfl))); exact ret_seen lx sr
    ·exact join_here1 1 (wk [0] (tO rfl (ts Shape.lo) .nil) (sv (turn_ptr 0 rfl rfl) (s1 (s1 .nil)))) (foll hR (cf h2 (cf h16 (cf h18 rfl))))
theorem ref07_Check_mal {s : Shape} (h : (ref07_Check s != 0) = false) (hk : (s.kind != 3) = false) : 1 <= s.min ∧ s.min <= s.max ∧ s.max <= 48 ∧ w64 (s.max - s.min) = s.max - s.min := by
 have hk' : s.kind = 3 := by simpa using hk
 have h1 : ref07_size s.min = true ∧ ref07_size s.max = true ∧ ¬ s.max < s.min := by
  simp only [ref07_Check, hk', beq_self_eq_true, cond_true] at h
  revert h
  cases h2 : (((((decide ((s.alts.length : Int) > 0)) || (!(ref07_size s.min))) || (!(ref07_size s.max))) || (decide (s.max < s.min))) || (!(ref07_wall s.wall))) with
  | true => simp
  | false => intro _; simp at h2; exact ⟨h2.1.1.1.2, h2.1.1.2, by omega⟩
 obtain ⟨a, b, c⟩ := h1
 simp [ref07_size] at a b
 exact ⟨by omega, by omega, by omega, wr (by omega)⟩
def ref25_Run (s : State) (id_ : Int) : Job × Bool := bif ((decide ((ref15_At s.jobs id_) < 0)) || ((s.jobs.getD (Int.toNat (ref15_At s.jobs id_)) Job.zero).state != 2)) then (Job.zero, false) else ((s.jobs.getD (Int.toNat (ref15_At s.jobs id_)) Job.zero), true)
theorem ref25_Run_c (s : State) (id_ : Int) (hs0 : s.sz) : ∀ objs, AGives Tryz.prog 121 [State.a s, I id_] objs (AVal.tup [Job.a ((ref25_Run s id_).1), Bo ((ref25_Run s id_).2)]) := by
 generalize hR : ref25_Run s id_ = R; refine ga (.cons (State.low _ _) (l1 .nil)) (Low.tup' (.cons (Job.low _ _) (l1 .nil))) (kp 7 [21]) Tryz.func121 ?_; have hk0 := hs0; obtain ⟨z3, z4, z5, z6, z7, z8, z9⟩ := hs0; have hf0 := ref15_At_lt s.jobs id_; refine us (ref15_At_c s.jobs id_ szA _) ?_; refine ai gkA ?_; refine ai (fun h1 => ?_) (fun h2 => ?_)
 ·obtain rfl := foll hR (ct h1 rfl); exact ret_seen (Low.tup' (.cons (Job.low _ _) (l1 .nil))) (Seen.tup (ev (Seen.agg (e1 (e1 (e1 (e1 (e1 (ev (seen_nil) (e1 (e1 (e1 (e1 (ev (seen_nil) (e1 (e1 (e1 (e1 (e1 (e1 (e1 (e1 (e1 .nil))))))))))))))))))))) (e1 .nil)))
 ·refine ai gkA ?_; obtain rfl := foll hR (cf h2 rfl); exact ret_seen (Low.tup' (.cons (Job.low _ _) (l1 .nil))) (Seen.tup (e1 (e1 .nil)))
def ref09_Has (s : Int) (n : Int) : Bool := bif ((decide (n < 0)) || (decide (n > 63))) then false else ((Int.tmod (wu64 (Int.tdiv s (ref09_bit n))) 2) == 1)
theorem ref09_Has_c (s : Int) (n : Int) : ∀ objs, AGives Tryz.prog 152 [U s, I n] objs (Bo (ref09_Has s n)) := by
 generalize hR : ref09_Has s n = R; refine ga (l1 (l1 .nil)) lx (kp 5 [10]) Tryz.func152 ?_; have hf0 := ref09_bit_pos n; refine ai (fun h1 => ?_) (fun h2 => ?_)
 ·obtain rfl := foll hR (ct h1 rfl); exact ret_seen lx sr
 ·refine us (ref09_bit_c n ckA _) ?_; refine ai gkA ?_; refine ai gkA ?_; obtain rfl := foll hR (cf h2 rfl); exact ret_seen lx sr
def ref01_Usage (n : Int) : Int := (ref01_held n 1000000000000)
theorem ref01_Usage_c (n : Int) : ∀ objs, AGives Tryz.prog 130 [I n] objs (I (ref01_Usage n)) := by
 generalize hR : ref01_Usage n = R; refine ga (l1 .nil) lx (kp 3 []) Tryz.func130 ?_; refine us (ref01_held_c n 1000000000000 _) ?_; obtain rfl := foll hR rfl; exact ret_seen lx sr
def ref19_Past_g1 (now : Int) : List Book -> List Book -> Nat -> (List Book) × Nat
 | [], out, i => (out, i)
 | x_ :: r, out, i => bif (decide (x_.to > now)) then ref19_Past_g1 now r (out ++ ([x_] : List Book)) (i + 1) else ref19_Past_g1 now r out (i + 1)
def ref19_Past_k1 (out : List Book) (i : Nat) : (List Book) := out
def ref19_Past (l : List Book) (now : Int) : (List Book) := bif ((ref19_Check l) != 0) then [] else ref19_Past_k1 ((ref19_Past_g1 now l [] 0).1) ((ref19_Past_g1 now l [] 0).2)
theorem ref19_Past_c (l : List Book) (now : Int) (hs0 : l.length <= 4294967296) : ∀ objs, AGives Tryz.prog 42 [bookL l, I now] objs (bookL (ref19_Past l now)) := by
 generalize hR : ref19_Past l now = R; refine ga (.cons lw (l1 .nil)) lw (kp 7 [9, 13, 22]) Tryz.func42 ?_; have hk0 := hs0; obtain z7 : l.length <= 4294967296 := hs0; refine us (ref19_Check_c l szA _) ?_; refine ai (fun h1 => ?_) (fun h2 => ?_)
 ·obtain rfl := foll hR (ct h1 rfl); exact ret_seen lw (seen_nil)
 ·refine loop_start2 (fun (out : List Book) (i : Nat) => ref19_Past_k1 (ref19_Past_g1 now (List.drop i l) out i).1 (ref19_Past_g1 now (List.drop i l) out i).2 = R ∧ i <= l.length ∧ out.length <= i) (fun out i => l.length - i) (fun out i => [(0, bookL l), (1, I now), (4, AVal.lit (.slice none 0 0)), (5, AVal.own 0 0 4 0 out.length), (6, I (i : Int))]) (fun out i => [(0, AObj.row 90 4 (out.map Book.cells))]) [] 0 ((weaker_none 90 4).trans (wk [0] (tO rfl (tl eqA) .nil) (sl lw (s1 (s1 (sv (turn_nilown 0 rfl) (s1 .nil))))))) ⟨foll hR (cf h2 rfl), by exact omA, by exact exA⟩ ?_; clear hR; rintro out i ⟨hR, hj, hx⟩; (try dsimp only at hR hj hx); refine ai (fun h3 => ?_) (fun h4 => ?_)
  ·have hlt := ltA h3; rw [drop_getD Book.zero hlt] at hR; refine ai gkA ?_; refine ai (fun h5 => ?_) (fun h6 => ?_)
   ·have qh5 := of_decide_eq_true h5; refine ai gkA ?_; refine Or.inl ?_; (first | refine ⟨app_ok 32 rfl lnA apA, ?_⟩ | refine ⟨app_nil 32 rfl apA, ?_⟩); exact loop_next2 (out ++ ([(l.getD i Book.zero)] : List Book)) (i + 1) (wk [0] (tO rfl (tl eqA) .nil) (sl lw (s1 (s1 (sv (to 0 lnA) (sv (turn_eq (I_eq (wr omA)) lx) .nil)))))) omA ⟨foll hR (congrArg (fun p : (List Book) × Nat => ref19_Past_k1 p.1 p.2) (ct h5 rfl)), by exact omA, by exact exA⟩
   ·have qh6 := of_decide_eq_false h6; exact loop_next2 out (i + 1) (wk [0] (tO rfl (tl eqA) .nil) (sl lw (s1 (s1 (sv (to 0 lnA) (sv (turn_eq (I_eq (wr omA)) lx) .nil)))))) omA ⟨foll hR (congrArg (fun p : (List Book) × Nat => ref19_Past_k1 p.1 p.2) (cf h6 rfl)), by exact omA, by exact exA⟩
  ·rw [drop_none (l := l) (j := i) (geA h4)] at hR; replace hR : ref19_Past_k1 out i = R := fo2 (fun p : (List Book) × Nat => ref19_Past_k1 p.1 p.2) (out, i) hR rfl; obtain rfl := foll hR rfl; exact ret_seen lw (seen_list Book.zero _ rfl eqA lnA)
end Go.Proofs.YtigcpfbpmnppcaaGreatDoor
