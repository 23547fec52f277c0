/-
  Contracts of functions, printed by a program of this repo (wip/dec). No condition beyond those that stand in each.
-/
import Derived.Test.YtigcpfbpmnppcaaGreatDoorH7
import Derived.Test.YtigcpfbpmnppcaaGreatDoorProg
namespace Go.Proofs.YtigcpfbpmnppcaaGreatDoor
set_option linter.unusedSimpArgs false
set_option linter.unusedVariables false
open Go.Fw
set_option maxRecDepth 20000
set_option maxHeartbeats 4000000
attribute [local irreducible] ACalls AMoves
def law12_Few (l : List Node) : Bool := (decide ((l.length : Int) <= 100))
theorem law12_Few_c (l : List Node) : ∀ objs, AGives Tryz.prog 28 [nodeL l] objs (Bo (law12_Few l)) := by
 generalize hR : law12_Few l = R; refine ga (.cons lw .nil) lx (kp 3 []) Tryz.func28 ?_; obtain rfl := foll hR rfl; exact ret_seen lx sr
def law07_Few (s : Shape) : Bool := (decide ((s.alts.length : Int) <= 100))
theorem law07_Few_c (s : Shape) : ∀ objs, AGives Tryz.prog 107 [Shape.a s] objs (Bo (law07_Few s)) := by
 generalize hR : law07_Few s = R; refine ga (.cons (Shape.low _ _) .nil) lx (kp 3 []) Tryz.func107 ?_; obtain rfl := foll hR rfl; exact ret_seen lx sr
def law19_Few (l : List Book) : Bool := (decide ((l.length : Int) <= 100))
theorem law19_Few_c (l : List Book) : ∀ objs, AGives Tryz.prog 30 [bookL l] objs (Bo (law19_Few l)) := by
 generalize hR : law19_Few l = R; refine ga (.cons lw .nil) lx (kp 3 []) Tryz.func30 ?_; obtain rfl := foll hR rfl; exact ret_seen lx sr
def law17_Few_g1  : List Usage -> Nat -> Bool
 | [], _ => true
 | x_ :: r, i => bif ((decide ((ByteArray.size x_.user : Int) > 1000)) || (decide ((ByteArray.size x_.account : Int) > 1000))) then false else law17_Few_g1 r (i + 1)
def law17_Few (l : List Usage) : Bool := bif (decide ((l.length : Int) > 300)) then false else law17_Few_g1 l 0
theorem law17_Few_c (l : List Usage) (hs0 : l.length <= 9223372036854775807 ∧ (∀ y ∈ l, y.szM)) : ∀ objs, AGives Tryz.prog 31 [usageL l] objs (Bo (law17_Few l)) := by
 generalize hR : law17_Few l = R; refine ga (.cons lw .nil) lx (kp 4 [6, 10, 28]) Tryz.func31 ?_; have hk0 := hs0; obtain ⟨z9, z10⟩ : l.length <= 9223372036854775807 ∧ (∀ y ∈ l, y.szM) := hs0; refine ai (fun h1 => ?_) (fun h2 => ?_)
 ·have qh1 := of_decide_eq_true h1; obtain rfl := foll hR (ct h1 rfl); exact ret_seen lx sr
 ·have qh2 := of_decide_eq_false h2; refine loop_start1 (fun (i : Nat) => law17_Few_g1 (List.drop i l) i = R ∧ i <= l.length) (fun i => l.length - i) (fun i => [(0, usageL l), (2, Bo false), (3, I (i : Int))]) (fun i => []) 0 (wk [] .nil (sl lw (s1 (s1 .nil)))) ⟨foll hR (cf h2 rfl), by exact omA⟩ ?_; clear hR; rintro i ⟨hR, hj⟩; (try dsimp only at hR hj); refine ai (fun h3 => ?_) (fun h4 => ?_)
  ·have hlt := ltA h3; rw [drop_getD Usage.zero hlt] at hR; have hxz : (l.getD i Usage.zero).szM := getD_sz (by first | assumption | grind) (Usage.szz _); have hkz := hxz; obtain ⟨z5, z6⟩ : ((l.getD i Usage.zero).user).size <= 9223372036854775807 ∧ ((l.getD i Usage.zero).account).size <= 9223372036854775807 := hxz; refine ai gkA ?_; refine ai gkA ?_; refine ai (fun h7 => ?_) (fun h8 => ?_)
   ·obtain rfl := foll hR (ct h7 rfl); exact ret_seen lx sr
   ·exact loop_next1 (i + 1) (wk [] .nil (sl lw (s1 (sv (turn_eq (I_eq (wr omA)) lx) .nil)))) omA ⟨foll hR (cf h8 rfl), by exact omA⟩
  ·rw [drop_none (l := l) (j := i) (geA h4)] at hR; obtain rfl := foll hR rfl; exact ret_seen lx sr
def ledger_name (s : ByteArray) : Bool := ((decide ((ByteArray.size s : Int) >= 1)) && (decide ((ByteArray.size s : Int) <= 64)))
theorem ledger_name_c (s : ByteArray) : ∀ objs, AGives Tryz.prog 112 [Sg s] objs (Bo (ledger_name s)) := by
 generalize hR : ledger_name s = R; refine ga (l1 .nil) lx (kp 3 []) Tryz.func112 ?_; obtain rfl := foll hR rfl; exact ret_seen lx sr
def cmp_Or_int_g1  : List Int -> Nat -> Int
 | [], _ => 0
 | x_ :: r, i => bif (x_ != 0) then x_ else cmp_Or_int_g1 r (i + 1)
def cmp_Or_int (vals : List Int) : Int := cmp_Or_int_g1 vals 0
theorem cmp_Or_int_c (vals : List Int) (hs0 : vals.length <= 4294967296) : ∀ objs, AGives Tryz.prog 146 [ints vals] objs (I (cmp_Or_int vals)) := by
 generalize hR : cmp_Or_int vals = R; refine ga (.cons lw .nil) lx (kp 6 [6, 7, 8, 9, 14]) Tryz.func146 ?_; have hk0 := hs0; obtain z5 : vals.length <= 4294967296 := hs0; refine loop_start1 (fun (i : Nat) => cmp_Or_int_g1 (List.drop i vals) i = R ∧ i <= vals.length) (fun i => vals.length - i) (fun i => [(2, I 0), (3, I 0), (6, ints vals), (7, I (vals.length : Int)), (8, I (i : Int))]) (fun i => []) 0 (wk [] .nil (s1 (s1 (sl lw (s1 (s1 .nil)))))) ⟨foll hR rfl, by exact omA⟩ ?_; clear hR; rintro i ⟨hR, hj⟩; (try dsimp only at hR hj); refine ai (fun h1 => ?_) (fun h2 => ?_)
 ·have hlt := ltA h1; rw [drop_getD 0 hlt] at hR; refine ai gkA ?_; refine ai (fun h3 => ?_) (fun h4 => ?_)
  ·obtain rfl := foll hR (ct h3 rfl); exact ret_seen lx sr
  ·exact loop_next1 (i + 1) (wk [] .nil (s1 (s1 (sl lw (s1 (sv (turn_eq (I_eq (wr omA)) lx) .nil)))))) omA ⟨foll hR (cf h4 rfl), by exact omA⟩
 ·rw [drop_none (l := vals) (j := i) (geA h2)] at hR; obtain rfl := foll hR rfl; exact ret_seen lx sr
def cmp_isNaN_string (x_ : ByteArray) : Bool := (!(ByteArray.toList x_ == ByteArray.toList x_))
theorem cmp_isNaN_string_c (x_ : ByteArray) : ∀ objs, AGives Tryz.prog 181 [Sg x_] objs (Bo (cmp_isNaN_string x_)) := by
 generalize hR : cmp_isNaN_string x_ = R; refine ga (l1 .nil) lx (kp 3 []) Tryz.func181 ?_; obtain rfl := foll hR rfl; exact ret_seen lx sr
def sat_within_int (n : Int) (from_ : Int) (to_ : Int) : Int := bif (decide (n < from_)) then from_ else bif (decide (n > to_)) then to_ else n
theorem sat_within_int_c (n : Int) (from_ : Int) (to_ : Int) : ∀ objs, AGives Tryz.prog 148 [I n, I from_, I to_] objs (I (sat_within_int n from_ to_)) := by
 generalize hR : sat_within_int n from_ to_ = R; refine ga (l1 (l1 (l1 .nil))) lx (kp 7 [7, 12]) Tryz.func148 ?_; refine ai (fun h1 => ?_) (fun h2 => ?_)
 ·have qh1 := of_decide_eq_true h1; obtain rfl := foll hR (ct h1 rfl); exact ret_seen lx sr
 ·have qh2 := of_decide_eq_false h2; refine ai (fun h3 => ?_) (fun h4 => ?_)
  ·have qh3 := of_decide_eq_true h3; obtain rfl := foll hR (cf h2 (ct h3 rfl)); exact ret_seen lx sr
  ·have qh4 := of_decide_eq_false h4; obtain rfl := foll hR (cf h2 (cf h4 rfl)); exact ret_seen lx sr
def book_fine (b : Book) : Bool := (((((((decide (b.id >= 1)) && (decide (b.id <= 99999))) && (decide (b.from_ >= 0))) && (decide (b.to > b.from_))) && (decide (b.to <= 1000000))) && (decide (b.nodes >= 1))) && (decide (b.nodes <= 48)))
theorem book_fine_c (b : Book) : ∀ objs, AGives Tryz.prog 117 [Book.a b] objs (Bo (book_fine b)) := by
 generalize hR : book_fine b = R; refine ga (.cons (Book.low _ _) .nil) lx (kp 3 []) Tryz.func117 ?_; obtain rfl := foll hR rfl; exact ret_seen lx sr
def slices_IndexFunc_Node_g1 (f : Node -> Bool) : List Node -> Nat -> Int
 | [], _ => (-1)
 | x_ :: r, i => bif (f x_) then (i : Int) else slices_IndexFunc_Node_g1 f r (i + 1)
def slices_IndexFunc_Node (s : List Node) (f : Node -> Bool) : Int := slices_IndexFunc_Node_g1 f s 0
def fleet_tick (n : Int) : Bool := ((decide (n >= 0)) && (decide (n <= 1000000)))
theorem fleet_tick_c (n : Int) : ∀ objs, AGives Tryz.prog 189 [I n] objs (Bo (fleet_tick n)) := by
 generalize hR : fleet_tick n = R; refine ga (l1 .nil) lx (kp 3 []) Tryz.func189 ?_; obtain rfl := foll hR rfl; exact ret_seen lx sr
def slices_Index_int_g1 (v : Int) : List Int -> Nat -> Int
 | [], _ => (-1)
 | x_ :: r, i => bif (v == x_) then (i : Int) else slices_Index_int_g1 v r (i + 1)
def slices_Index_int (s : List Int) (v : Int) : Int := slices_Index_int_g1 v s 0
theorem slices_Index_int_c (s : List Int) (v : Int) (hs0 : s.length <= 4294967296) : ∀ objs, AGives Tryz.prog 201 [ints s, I v] objs (I (slices_Index_int s v)) := by
 generalize hR : slices_Index_int s v = R; refine ga (.cons lw (l1 .nil)) lx (kp 6 [7, 8, 9, 16]) Tryz.func201 ?_; have hk0 := hs0; obtain z5 : s.length <= 4294967296 := hs0; refine loop_start1 (fun (i : Nat) => slices_Index_int_g1 v (List.drop i s) i = R ∧ i <= s.length) (fun i => s.length - i) (fun i => [(0, ints s), (1, I v), (4, I 0), (7, I (s.length : Int)), (8, I (i : Int))]) (fun i => []) 0 (wk [] .nil (sl lw (s1 (s1 (s1 (s1 .nil)))))) ⟨foll hR rfl, by exact omA⟩ ?_; clear hR; rintro i ⟨hR, hj⟩; (try dsimp only at hR hj); refine ai (fun h1 => ?_) (fun h2 => ?_)
 ·have hlt := ltA h1; rw [drop_getD 0 hlt] at hR; refine ai gkA ?_; refine ai (fun h3 => ?_) (fun h4 => ?_)
  ·obtain rfl := foll hR (ct h3 rfl); exact ret_seen lx sr
  ·exact loop_next1 (i + 1) (wk [] .nil (sl lw (s1 (s1 (s1 (sv (turn_eq (I_eq (wr omA)) lx) .nil)))))) omA ⟨foll hR (cf h4 rfl), by exact omA⟩
 ·rw [drop_none (l := s) (j := i) (geA h2)] at hR; obtain rfl := foll hR rfl; exact ret_seen lx sr
def job_tick (n : Int) : Bool := ((decide (n >= 0)) && (decide (n <= 1000000)))
theorem job_tick_c (n : Int) : ∀ objs, AGives Tryz.prog 171 [I n] objs (Bo (job_tick n)) := by
 generalize hR : job_tick n = R; refine ga (l1 .nil) lx (kp 3 []) Tryz.func171 ?_; obtain rfl := foll hR rfl; exact ret_seen lx sr
def cmd_within (n : Int) (from_ : Int) (to_ : Int) : Bool := ((decide (n >= from_)) && (decide (n <= to_)))
theorem cmd_within_c (n : Int) (from_ : Int) (to_ : Int) : ∀ objs, AGives Tryz.prog 202 [I n, I from_, I to_] objs (Bo (cmd_within n from_ to_)) := by
 generalize hR : cmd_within n from_ to_ = R; refine ga (l1 (l1 (l1 .nil))) lx (kp 7 []) Tryz.func202 ?_; obtain rfl := foll hR rfl; exact ret_seen lx sr
def runes_Class (r_ : Int) : Int := bif ((r_ == 9) || (r_ == 32)) then 1 else bif (((((decide (r_ < 32)) || ((decide (r_ >= 127)) && (decide (r_ <= 160)))) || ((decide (r_ >= 55296)) && (decide (r_ <= 57343)))) || (r_ == 65533)) || (decide (r_ > 1114111))) then 0 else bif ((decide (r_ >= 48)) && (decide (r_ <= 57))) then 3 else bif ((((decide (r_ >= 97)) && (decide (r_ <= 122))) || ((decide (r_ >= 65)) && (decide (r_ <= 90)))) || (decide (r_ > 160))) then 2 else 4
theorem runes_Class_c (r_ : Int) : ∀ objs, AGives Tryz.prog 228 [J r_] objs (I (runes_Class r_)) := by
 generalize hR : runes_Class r_ = R; refine ga (l1 .nil) lx (kp 3 [3, 10, 37, 44]) Tryz.func228 ?_; refine ai (fun h1 => ?_) (fun h2 => ?_)
 ·obtain rfl := foll hR (ct h1 rfl); exact ret_seen lx sr
 ·refine ai (fun h3 => ?_) (fun h4 => ?_)
  ·obtain rfl := foll hR (cf h2 (ct h3 rfl)); exact ret_seen lx sr
  ·refine ai (fun h5 => ?_) (fun h6 => ?_)
   ·obtain rfl := foll hR (cf h2 (cf h4 (ct h5 rfl))); exact ret_seen lx sr
   ·refine ai (fun h7 => ?_) (fun h8 => ?_)
    ·obtain rfl := foll hR (cf h2 (cf h4 (cf h6 (ct h7 rfl)))); exact ret_seen lx sr
    ·obtain rfl := foll hR (cf h2 (cf h4 (cf h6 (cf h8 rfl)))); exact ret_seen lx sr
def lex_reader_while_g1 (is : Int -> Bool) : Nat -> LexReader -> LexReader
 | 0, _ => LexReader.zero
 | m + 1, c => bif ((decide (c.at_ < (c.line.length : Int))) && (is (c.line.getD (Int.toNat c.at_) 0))) then lex_reader_while_g1 is m { c with at_ := (w64 (c.at_ + 1)) } else c
def lex_reader_while_k1 (r_ : LexReader) (c : LexReader) : ByteArray × LexReader := ((runesBytes (List.drop (Int.toNat r_.at_) (List.take (Int.toNat c.at_) c.line))), c)
def lex_reader_while (r_ : LexReader) (is : Int -> Bool) : ByteArray × LexReader := lex_reader_while_k1 r_ (lex_reader_while_g1 is ((Int.toNat ((r_.line.length : Int) - r_.at_)) + 1) r_)
theorem lex_while_line (is : Int -> Bool) : ∀ (m : Nat) (c : LexReader), (lex_reader_while_g1 is m c).line.length <= c.line.length
 | 0, _ => by simp [lex_reader_while_g1, LexReader.zero]
 | m + 1, c => by
  rw [lex_reader_while_g1]
  cases ((decide (c.at_ < (c.line.length : Int))) && (is (c.line.getD (Int.toNat c.at_) 0))) with
  | true => exact lex_while_line is m { c with at_ := (w64 (c.at_ + 1)) }
  | false => exact Nat.le_refl _
theorem lex_while_sz (r_ : LexReader) (is : Int -> Bool) (h : r_.line.length <= 400) : (lex_reader_while r_ is).1.size <= 4294967296 := by
 have h1 := lex_while_line is ((Int.toNat ((r_.line.length : Int) - r_.at_)) + 1) r_
 unfold lex_reader_while lex_reader_while_k1
 refine Nat.le_trans (runesBytes_size _) ?_
 simp only [List.length_drop, List.length_take]
 omega
def runes_Lower_g1 (s : ByteArray) : Nat -> Nat -> List Int -> (List Int)
 | 0, _, _ => []
 | m + 1, i, c => bif (decide ((i : Int) < (ByteArray.size s : Int))) then bif ((decide ((c.getD i 0) >= 65)) && (decide ((c.getD i 0) <= 90))) then runes_Lower_g1 s m (i + 1) (c.set i (wu8 ((wu8 ((c.getD i 0) + 97)) - 65))) else runes_Lower_g1 s m (i + 1) c else c
def runes_Lower_k1 (c : List Int) : ByteArray := (bytesStr c)
def runes_Lower (s : ByteArray) : ByteArray := runes_Lower_k1 (runes_Lower_g1 s ((Int.toNat ((ByteArray.size s : Int) - (0 : Int))) + 1) 0 (bytesOf s))
theorem runes_Lower_c (s : ByteArray) (hs0 : s.size <= 4294967296) : ∀ objs, AGives Tryz.prog 252 [Sg s] objs (Sg (runes_Lower s)) := by
 generalize hR : runes_Lower s = R; refine ga (l1 .nil) lx (kp 6 [8, 9, 10, 11, 20]) Tryz.func252 ?_; have hk0 := hs0; obtain z5 : s.size <= 4294967296 := hs0; refine loop_start2 (fun (i : Nat) (c : List Int) => ∃ m, (Int.toNat ((ByteArray.size s : Int) - (i : Int))) < m ∧ runes_Lower_k1 (runes_Lower_g1 s m i c) = R ∧ c.length = ByteArray.size s ∧ (i : Int) <= (ByteArray.size s : Int)) (fun i c => (Int.toNat ((ByteArray.size s : Int) - (i : Int)))) (fun i c => [(2, Sg ⟨#[]⟩), (3, AVal.own 0 0 1 0 c.length), (8, AVal.own 0 0 1 0 c.length), (9, I (ByteArray.size s : Int)), (10, I (i : Int))]) (fun i c => [(0, AObj.row 5 1 (c.map (fun q_ => [Y q_])))]) 0 (bytesOf s) (wk [0] (tO rfl (tl eqA) .nil) (s1 (sv (to 0 lnA) (sv (to 0 lnA) (s1 (s1 .nil)))))) ⟨_, Nat.lt_succ_self _, foll hR rfl, by exact exA⟩ ?_; clear hR; rintro i c ⟨m, hm, hR, hx⟩; (try dsimp only at hR hm hx); obtain ⟨m, rfl⟩ := sucA m; refine ai (fun h1 => ?_) (fun h2 => ?_)
 ·have qh1 := of_decide_eq_true h1; refine ai gkA ?_; refine ⟨_, evalOp_load rfl rfl rfl (elemI_at 0 i roA ckA) rfl, ?_⟩; refine ai (fun h3 => ?_) (fun h4 => ?_)
  ·refine ai gkA ?_; refine ⟨_, evalOp_store rfl rfl rfl rfl (elemI_at 0 i roA ckA) rfl rfl (set_map i (wu8 ((wu8 ((c.getD i 0) + 97)) - 65)) roA rfl), ?_⟩; exact loop_next2 (i + 1) (c.set i (wu8 ((wu8 ((c.getD i 0) + 97)) - 65))) (wk [0] (tO rfl (tl eqA) .nil) (s1 (sv (to 0 lnA) (sv (to 0 lnA) (s1 (sv (turn_eq (I_eq (wr omA)) lx) .nil)))))) omA ⟨m, by exact omA, foll hR (congrArg (fun p : (List Int) => runes_Lower_k1 p) (ct h1 (ct h3 rfl))), by exact exA⟩
  ·exact loop_next2 (i + 1) c (wk [0] (tO rfl (tl eqA) .nil) (s1 (sv (to 0 lnA) (sv (to 0 lnA) (s1 (sv (turn_eq (I_eq (wr omA)) lx) .nil)))))) omA ⟨m, by exact omA, foll hR (congrArg (fun p : (List Int) => runes_Lower_k1 p) (ct h1 (cf h4 rfl))), by exact exA⟩
 ·have qh2 := of_decide_eq_false h2; replace hR : runes_Lower_k1 c = R := fo2 (fun p : (List Int) => runes_Lower_k1 p) (c) hR (cf h2 rfl); (first | refine ⟨c, by exact cvA, ?_⟩ | refine ⟨_, fun _ => ⟨c, by exact cvA, rfl, rfl⟩, ?_⟩ | refine ⟨_, rfl, ⟨c, by exact cvA, Sub.refl _, rfl⟩, ?_⟩); obtain rfl := foll hR rfl; exact ret_seen lx sr
def lex_reader_fail (r_ : LexReader) (at_ : Int) (e_ : Int) : LexReader := bif (r_.error == 0) then (⟨r_.line, r_.at_, at_, e_⟩ : LexReader) else r_
theorem lex_reader_fail_c (r_ : LexReader) (at_ : Int) (e_ : Int) : AMoves Tryz.prog 246 [AVal.ptr 0 0 4 0 0, I at_, I e_] [(0, AObj.row 235 4 [[runes r_.line, I r_.at_, I r_.bad, I r_.error]])] 1 (AVal.tup []) [(0, AObj.row 235 4 [[runes ((lex_reader_fail r_ at_ e_).line), I ((lex_reader_fail r_ at_ e_).at_), I ((lex_reader_fail r_ at_ e_).bad), I ((lex_reader_fail r_ at_ e_).error)]])] := by
 generalize hR : lex_reader_fail r_ at_ e_ = R; refine mo (kp 6 [10]) Tryz.func246 ?_; refine ai (fun h1 => ?_) (fun h2 => ?_)
 ·obtain rfl := foll hR (ct h1 rfl); exact rq (tt [0] (tO rfl (ts LexReader.lo) .nil) t1)
 ·obtain rfl := foll hR (cf h2 rfl); exact rq (tt [0] (tO rfl (ts LexReader.lo) .nil) t1)
def lex_digits_g1 (s : ByteArray) : List (Nat × Int) -> Bool
 | [] => (!(ByteArray.toList s == ByteArray.toList ⟨#[]⟩))
 | x_ :: r => bif ((decide (x_.2 < 48)) || (decide (x_.2 > 57))) then false else lex_digits_g1 s r
def lex_digits (s : ByteArray) : Bool := lex_digits_g1 s (runeList s)
theorem lex_digits_c (s : ByteArray) (hs0 : s.size <= 4294967296) : ∀ objs, AGives Tryz.prog 254 [Sg s] objs (Bo (lex_digits s)) := by
 generalize hR : lex_digits s = R; refine ga (l1 .nil) lx (kp 5 [6, 7, 8, 15]) Tryz.func254 ?_; have hk0 := hs0; obtain z5 : s.size <= 4294967296 := hs0; refine loop_start1 (fun (pos : Nat) => ∃ m, ByteArray.size s - pos <= m ∧ lex_digits_g1 s (strRunes s m pos) = R) (fun pos => ByteArray.size s - pos) (fun pos => [(0, Sg s), (2, Bo false), (6, AVal.ptr 0 0 1 0 0)]) (fun pos => [(0, AObj.other (.strIter s pos))]) 0 (wk [0] (tO rfl (.strIter _ _) .nil) (s1 (s1 (sv (turn_ptr 0 rfl rfl) .nil)))) ⟨ByteArray.size s, by exact omA, foll hR rfl⟩ ?_; clear hR; rintro pos ⟨m, hm, hR⟩; (try dsimp only at hR hm); refine ai (fun h1 => ?_) (fun h2 => ?_)
 ·have hlt := of_decide_eq_true h1; have hw := decode_pos s pos; have hwe := decode_end s pos hlt; obtain ⟨m, rfl⟩ := sucA m; rw [strRunes_cons h1] at hR; refine ai (fun _ => ?_) (fun h => nomatch h); refine ai (fun h3 => ?_) (fun h4 => ?_)
  ·obtain rfl := foll hR (ct h3 rfl); exact ret_seen lx sr
  ·exact loop_next1 (pos + (Utf8.decode s pos).2) (wk [0] (tO rfl (.strIter _ _) .nil) (s1 (s1 (sv (turn_ptr 0 rfl rfl) .nil)))) omA ⟨m, by exact omA, foll hR (cf h4 rfl)⟩
 ·rw [strRunes_nil h2] at hR; refine ai (fun h => nomatch h) (fun _ => ?_); obtain rfl := foll hR rfl; exact ret_seen lx sr
theorem lex_digits_g1_ok (s : ByteArray) : ∀ l, lex_digits_g1 s l = true -> (!(ByteArray.toList s == ByteArray.toList ⟨#[]⟩)) = true ∧ ∀ x ∈ l, 48 <= x.2 ∧ x.2 <= 57
 | [], h => ⟨h, fun x hx => nomatch hx⟩
 | x :: r, h => by
  rw [lex_digits_g1] at h
  cases hc : ((decide (x.2 < 48)) || (decide (x.2 > 57))) with
  | true => rw [hc] at h; cases h
  | false =>
   rw [hc] at h
   obtain ⟨a, b⟩ := lex_digits_g1_ok s r h
   refine ⟨a, fun y hy => ?_⟩
   rcases List.mem_cons.1 hy with rfl | hy
   ·simp only [Bool.or_eq_false_iff, decide_eq_false_iff_not] at hc
    omega
   ·exact b y hy
theorem lex_digits_ok {s : ByteArray} {q : Bool} (h : (((!(lex_digits s)) || (decide ((ByteArray.size s : Int) > 9))) || q) = false) : atoiOK s := by
 simp only [Bool.or_eq_false_iff, Bool.not_eq_false', decide_eq_false_iff_not] at h
 obtain ⟨⟨h1, h2⟩, _⟩ := h
 obtain ⟨a, b⟩ := lex_digits_g1_ok s _ h1
 refine ⟨?_, by omega, fun i hi => digits_bytes s s.size 0 (by omega) b i (by omega) hi⟩
 rcases Nat.eq_zero_or_pos s.size with h0 | h0
 ·have e : s = ⟨#[]⟩ := by
   apply ByteArray.ext
   exact Array.eq_empty_of_size_eq_zero h0
  rw [e] at a
  simp at a
 ·exact h0
def istrconv_Atoi_g1 (s : ByteArray) : Nat -> Int -> Nat -> Int
 | 0, _, _ => 0
 | m + 1, n, i => bif (decide ((i : Int) < (ByteArray.size s : Int))) then istrconv_Atoi_g1 s m (w64 ((w64 (n * 10)) + (w64 (wu8 (((bytesOf s).getD i 0) - 48))))) (i + 1) else n
def istrconv_Atoi_k1 (n : Int) : Int × Unit := (n, ())
def istrconv_Atoi (s : ByteArray) : Int × Unit := istrconv_Atoi_k1 (istrconv_Atoi_g1 s ((Int.toNat ((ByteArray.size s : Int) - (0 : Int))) + 1) 0 0)
theorem istrconv_Atoi_c (s : ByteArray) (hs0 : s.size <= 4294967296) (hp0 : atoiOK s) : ∀ objs, AGives Tryz.prog 270 [Sg s] objs (AVal.tup [I ((istrconv_Atoi s).1), AVal.lit .nilIface]) := by
 generalize hR : istrconv_Atoi s = R; refine ga (l1 .nil) (Low.tup' (l1 (l1 .nil))) (kp 11 [30, 39, 44, 47, 48, 49, 50, 56, 66]) Tryz.func270 ?_; have hk0 := hs0; obtain z11 : s.size <= 4294967296 := hs0; refine ai (fun h1 => ?_) (fun h2 => ?_)
 ·refine ai gkA ?_; refine ai gkA ?_; refine ai (fun h3 => ?_) (fun h4 => ?_)
  ·exfalso; exact atoi_sign hp0 h3
  ·refine loop_start2 (fun (n : Int) (i : Nat) => ∃ m, (Int.toNat ((ByteArray.size s : Int) - (i : Int))) < m ∧ istrconv_Atoi_k1 (istrconv_Atoi_g1 s m n i) = R ∧ (i : Int) <= (ByteArray.size s : Int)) (fun n i => (Int.toNat ((ByteArray.size s : Int) - (i : Int)))) (fun n i => [(0, Sg s), (2, I 0), (3, AVal.lit .nilIface), (5, Sg s), (6, I n), (47, AVal.own 0 0 1 0 (ByteArray.size s)), (48, I (ByteArray.size s : Int)), (49, I (i : Int))]) (fun n i => [(0, AObj.row 5 1 ((bytesOf s).map (fun q_ => [Y q_])))]) 0 0 (wk [0] (tO rfl (tl eqA) .nil) (s1 (s1 (s1 (s1 (s1 (sv (to 0 lnA) (s1 (s1 .nil))))))))) ⟨_, Nat.lt_succ_self _, foll hR rfl, by exact exA⟩ ?_; clear hR; rintro n i ⟨m, hm, hR, hx⟩; (try dsimp only at hR hm hx); obtain ⟨m, rfl⟩ := sucA m; refine ai (fun h5 => ?_) (fun h6 => ?_)
   ·have qh5 := of_decide_eq_true h5; refine ai gkA ?_; refine ⟨_, evalOp_load rfl rfl rfl (elemI_at 0 i roA ckA) rfl, ?_⟩; refine ai (fun h7 => ?_) (fun h8 => ?_)
    ·exfalso; exact atoi_digit hp0 (by omega) h7
    ·have qh8 := of_decide_eq_false h8; exact loop_next2 (w64 ((w64 (n * 10)) + (w64 (wu8 (((bytesOf s).getD i 0) - 48))))) (i + 1) (wk [0] (tO rfl (tl eqA) .nil) (s1 (s1 (s1 (s1 (s1 (sv (to 0 lnA) (s1 (sv (turn_eq (I_eq (wr omA)) lx) .nil))))))))) omA ⟨m, by exact omA, foll hR (congrArg (fun p : Int => istrconv_Atoi_k1 p) (ct h5 rfl)), by exact exA⟩
   ·have qh6 := of_decide_eq_false h6; replace hR : istrconv_Atoi_k1 n = R := fo2 (fun p : Int => istrconv_Atoi_k1 p) (n) hR (cf h6 rfl); refine ai gkA ?_; refine ai (fun h9 => ?_) (fun h10 => ?_)
    ·exfalso; exact atoi_minus hp0 h9
    ·obtain rfl := foll hR rfl; exact ret_seen (Low.tup' (l1 (l1 .nil))) (Seen.tup (e1 (e1 .nil)))
 ·exfalso; have ha1 := hp0.1; have ha2 := hp0.2.1; simp at h2; omega
def utf8_appendRuneNonASCII_k1 (p_ : List Int) (r_ : Int) (i : Bool) : (List Int) := bif i then (p_ ++ ([(wu8 (BitVec.ofInt 8 224 ||| BitVec.ofInt 8 (wu8 (Int.fdiv r_ (2 ^ (min (Int.toNat 12) 32))))).toNat), (wu8 (BitVec.ofInt 8 128 ||| BitVec.ofInt 8 (wu8 (BitVec.ofInt 8 (wu8 (Int.fdiv r_ (2 ^ (min (Int.toNat 6) 32)))) &&& BitVec.ofInt 8 63).toNat)).toNat), (wu8 (BitVec.ofInt 8 128 ||| BitVec.ofInt 8 (wu8 (BitVec.ofInt 8 (wu8 r_) &&& BitVec.ofInt 8 63).toNat)).toNat)] : List Int)) else bif ((decide ((wu32 r_) > 65535)) && (decide ((wu32 r_) <= 1114111))) then (p_ ++ ([(wu8 (BitVec.ofInt 8 240 ||| BitVec.ofInt 8 (wu8 (Int.fdiv r_ (2 ^ (min (Int.toNat 18) 32))))).toNat), (wu8 (BitVec.ofInt 8 128 ||| BitVec.ofInt 8 (wu8 (BitVec.ofInt 8 (wu8 (Int.fdiv r_ (2 ^ (min (Int.toNat 12) 32)))) &&& BitVec.ofInt 8 63).toNat)).toNat), (wu8 (BitVec.ofInt 8 128 ||| BitVec.ofInt 8 (wu8 (BitVec.ofInt 8 (wu8 (Int.fdiv r_ (2 ^ (min (Int.toNat 6) 32)))) &&& BitVec.ofInt 8 63).toNat)).toNat), (wu8 (BitVec.ofInt 8 128 ||| BitVec.ofInt 8 (wu8 (BitVec.ofInt 8 (wu8 r_) &&& BitVec.ofInt 8 63).toNat)).toNat)] : List Int)) else (p_ ++ ([239, 191, 189] : List Int))
def utf8_appendRuneNonASCII (p_ : List Int) (r_ : Int) : (List Int) := bif (decide ((wu32 r_) <= 2047)) then (p_ ++ ([(wu8 (BitVec.ofInt 8 192 ||| BitVec.ofInt 8 (wu8 (Int.fdiv r_ (2 ^ (min (Int.toNat 6) 32))))).toNat), (wu8 (BitVec.ofInt 8 128 ||| BitVec.ofInt 8 (wu8 (BitVec.ofInt 8 (wu8 r_) &&& BitVec.ofInt 8 63).toNat)).toNat)] : List Int)) else bif (decide ((wu32 r_) < 55296)) then utf8_appendRuneNonASCII_k1 p_ r_ (decide ((wu32 r_) < 55296)) else utf8_appendRuneNonASCII_k1 p_ r_ ((decide (57343 < (wu32 r_))) && (decide ((wu32 r_) <= 65535)))
theorem utf8_appendRuneNonASCII_o (p_ : List Int) (r_ : Int) (hs0 : p_.length <= 4294967296) : AMoves Tryz.prog 269 [AVal.own 0 0 1 0 p_.length, J r_] [(0, AObj.row 5 1 (p_.map (fun q_ => [Y q_])))] 0 (AVal.own 0 0 1 0 (utf8_appendRuneNonASCII p_ r_).length) [(0, AObj.row 5 1 ((utf8_appendRuneNonASCII p_ r_).map (fun q_ => [Y q_])))] := by
 generalize hR : utf8_appendRuneNonASCII p_ r_ = R; refine mo (kj [1000007] 6 [11, 25, 50]) Tryz.func269 ?_; have hk0 := hs0; obtain z9 : p_.length <= 4294967296 := hs0; refine ai (fun h1 => ?_) (fun h2 => ?_)
 ·have qh1 := of_decide_eq_true h1; refine ai gkA ?_; refine Or.inl ?_; (first | refine ⟨app_ok 1 rfl lnA apA, ?_⟩ | refine ⟨app_nil 1 rfl apA, ?_⟩); obtain rfl := foll hR (ct h1 rfl); exact rq (tt [0] (tO rfl (tl eqA) .nil) (to 0 lnA))
 ·have qh2 := of_decide_eq_false h2; refine join_start1 (fun (i : Bool) => utf8_appendRuneNonASCII_k1 p_ r_ i = R) (fun i => [(0, AVal.own 0 0 1 0 p_.length), (1, J r_), (4, AVal.lit (.slice none 0 0)), (5, V (wu32 r_)), (25, Bo i)]) (fun i => [(0, AObj.row 5 1 (p_.map (fun q_ => [Y q_])))]) ?_ ?_
  ·clear hR; rintro i hR; (try dsimp only at hR); refine ai (fun h3 => ?_) (fun h4 => ?_)
   ·refine ai gkA ?_; refine ai gkA ?_; refine Or.inl ?_; (first | refine ⟨app_ok 1 rfl lnA apA, ?_⟩ | refine ⟨app_nil 1 rfl apA, ?_⟩); obtain rfl := foll hR (ct h3 rfl); exact rq (tt [0] (tO rfl (tl eqA) .nil) (to 0 lnA))
   ·refine ai (fun h5 => ?_) (fun h6 => ?_)
    ·refine ai gkA ?_; refine ai gkA ?_; refine ai gkA ?_; refine Or.inl ?_; (first | refine ⟨app_ok 1 rfl lnA apA, ?_⟩ | refine ⟨app_nil 1 rfl apA, ?_⟩); obtain rfl := foll hR (cf h4 (ct h5 rfl)); exact rq (tt [0] (tO rfl (tl eqA) .nil) (to 0 lnA))
    ·refine Or.inl ?_; (first | refine ⟨app_ok 1 rfl lnA apA, ?_⟩ | refine ⟨app_nil 1 rfl apA, ?_⟩); obtain rfl := foll hR (cf h4 (cf h6 rfl)); exact rq (tt [0] (tO rfl (tl eqA) .nil) (to 0 lnA))
  ·refine ai (fun h7 => ?_) (fun h8 => ?_)
   ·have qh7 := of_decide_eq_true h7; exact join_here1 (decide ((wu32 r_) < 55296)) (wk [0] (tO rfl (tl eqA) .nil) (sv (to 0 lnA) (s1 (s1 (s1 (s1 .nil)))))) (foll hR (cf h2 (ct h7 rfl)))
   ·have qh8 := of_decide_eq_false h8; exact join_here1 ((decide (57343 < (wu32 r_))) && (decide ((wu32 r_) <= 65535))) (wk [0] (tO rfl (tl eqA) .nil) (sv (to 0 lnA) (s1 (s1 (s1 (s1 .nil)))))) (foll hR (cf h2 (cf h8 rfl)))
def slices_IndexFunc_Dep_g1 (f : Dep -> Bool) : List Dep -> Nat -> Int
 | [], _ => (-1)
 | x_ :: r, i => bif (f x_) then (i : Int) else slices_IndexFunc_Dep_g1 f r (i + 1)
def slices_IndexFunc_Dep (s : List Dep) (f : Dep -> Bool) : Int := slices_IndexFunc_Dep_g1 f s 0
def shape_fine (a : Alt) : Bool := ((((decide (a.nodes >= 1)) && (decide (a.nodes <= 48))) && (decide (a.wall >= 1))) && (decide (a.wall <= 100000)))
theorem shape_fine_c (a : Alt) : ∀ objs, AGives Tryz.prog 218 [Alt.a a] objs (Bo (shape_fine a)) := by
 generalize hR : shape_fine a = R; refine ga (.cons (Alt.low _ _) .nil) lx (kp 3 []) Tryz.func218 ?_; obtain rfl := foll hR rfl; exact ret_seen lx sr
def slices_IndexFunc_Alt_g1 (f : Alt -> Bool) : List Alt -> Nat -> Int
 | [], _ => (-1)
 | x_ :: r, i => bif (f x_) then (i : Int) else slices_IndexFunc_Alt_g1 f r (i + 1)
def slices_IndexFunc_Alt (s : List Alt) (f : Alt -> Bool) : Int := slices_IndexFunc_Alt_g1 f s 0
def slices_Equal_Alt_g1 (s2 : List Alt) : List Alt -> Nat -> Bool
 | [], _ => true
 | x_ :: r, i => bif (!((x_.nodes == (s2.getD i Alt.zero).nodes) && (x_.wall == (s2.getD i Alt.zero).wall))) then false else slices_Equal_Alt_g1 s2 r (i + 1)
def slices_Equal_Alt (s1_ : List Alt) (s2 : List Alt) : Bool := bif ((s1_.length : Int) != (s2.length : Int)) then false else slices_Equal_Alt_g1 s2 s1_ 0
theorem slices_Equal_Alt_c (s1_ : List Alt) (s2 : List Alt) (hs0 : s1_.length <= 4294967296) (hs1 : s2.length <= 4294967296) : ∀ objs, AGives Tryz.prog 169 [altL s1_, altL s2] objs (Bo (slices_Equal_Alt s1_ s2)) := by
 generalize hR : slices_Equal_Alt s1_ s2 = R; refine ga (.cons lw (.cons lw .nil)) lx (kp 6 [10, 12, 13, 14, 24]) Tryz.func169 ?_; have hk0 := hs0; obtain z7 : s1_.length <= 4294967296 := hs0; have hk1 := hs1; obtain z8 : s2.length <= 4294967296 := hs1; refine ai (fun h1 => ?_) (fun h2 => ?_)
 ·obtain rfl := foll hR (ct h1 rfl); exact ret_seen lx sr
 ·refine loop_start1 (fun (i : Nat) => slices_Equal_Alt_g1 s2 (List.drop i s1_) i = R ∧ i <= s1_.length) (fun i => s1_.length - i) (fun i => [(0, altL s1_), (1, altL s2), (4, Bo false), (12, I (s1_.length : Int)), (13, I (i : Int))]) (fun i => []) 0 (wk [] .nil (sl lw (sl lw (s1 (s1 (s1 .nil)))))) ⟨foll hR (cf h2 rfl), by exact omA⟩ ?_; clear hR; rintro i ⟨hR, hj⟩; (try dsimp only at hR hj); refine ai (fun h3 => ?_) (fun h4 => ?_)
  ·have hlt := ltA h3; rw [drop_getD Alt.zero hlt] at hR; refine dchk (by kernel_rfl) ?_; refine ai gkA ?_; refine ai gkA ?_; refine ai (fun _ => (by kernel_rfl : eqOK _ _ = true)) ?_; (repeat ((first | refine ai rfl ?_ | refine ai (fun _ => rfl) ?_))); refine ai (fun h5 => ?_) (fun h6 => ?_)
   ·obtain rfl := foll hR (ct h5 rfl); exact ret_seen lx sr
   ·exact loop_next1 (i + 1) (wk [] .nil (sl lw (sl lw (s1 (s1 (sv (turn_eq (I_eq (wr omA)) lx) .nil)))))) omA ⟨foll hR (cf h6 rfl), by exact omA⟩
  ·rw [drop_none (l := s1_) (j := i) (geA h4)] at hR; obtain rfl := foll hR rfl; exact ret_seen lx sr
def slices_Equal_Dep_g1 (s2 : List Dep) : List Dep -> Nat -> Bool
 | [], _ => true
 | x_ :: r, i => bif (!((x_.how == (s2.getD i Dep.zero).how) && (x_.job == (s2.getD i Dep.zero).job))) then false else slices_Equal_Dep_g1 s2 r (i + 1)
def slices_Equal_Dep (s1_ : List Dep) (s2 : List Dep) : Bool := bif ((s1_.length : Int) != (s2.length : Int)) then false else slices_Equal_Dep_g1 s2 s1_ 0
theorem slices_Equal_Dep_c (s1_ : List Dep) (s2 : List Dep) (hs0 : s1_.length <= 4294967296) (hs1 : s2.length <= 4294967296) : ∀ objs, AGives Tryz.prog 143 [depL s1_, depL s2] objs (Bo (slices_Equal_Dep s1_ s2)) := by
 generalize hR : slices_Equal_Dep s1_ s2 = R; refine ga (.cons lw (.cons lw .nil)) lx (kp 6 [10, 12, 13, 14, 24]) Tryz.func143 ?_; have hk0 := hs0; obtain z7 : s1_.length <= 4294967296 := hs0; have hk1 := hs1; obtain z8 : s2.length <= 4294967296 := hs1; refine ai (fun h1 => ?_) (fun h2 => ?_)
 ·obtain rfl := foll hR (ct h1 rfl); exact ret_seen lx sr
 ·refine loop_start1 (fun (i : Nat) => slices_Equal_Dep_g1 s2 (List.drop i s1_) i = R ∧ i <= s1_.length) (fun i => s1_.length - i) (fun i => [(0, depL s1_), (1, depL s2), (4, Bo false), (12, I (s1_.length : Int)), (13, I (i : Int))]) (fun i => []) 0 (wk [] .nil (sl lw (sl lw (s1 (s1 (s1 .nil)))))) ⟨foll hR (cf h2 rfl), by exact omA⟩ ?_; clear hR; rintro i ⟨hR, hj⟩; (try dsimp only at hR hj); refine ai (fun h3 => ?_) (fun h4 => ?_)
  ·have hlt := ltA h3; rw [drop_getD Dep.zero hlt] at hR; refine dchk (by kernel_rfl) ?_; refine ai gkA ?_; refine ai gkA ?_; refine ai (fun _ => (by kernel_rfl : eqOK _ _ = true)) ?_; (repeat ((first | refine ai rfl ?_ | refine ai (fun _ => rfl) ?_))); refine ai (fun h5 => ?_) (fun h6 => ?_)
   ·obtain rfl := foll hR (ct h5 rfl); exact ret_seen lx sr
   ·exact loop_next1 (i + 1) (wk [] .nil (sl lw (sl lw (s1 (s1 (sv (turn_eq (I_eq (wr omA)) lx) .nil)))))) omA ⟨foll hR (cf h6 rfl), by exact omA⟩
  ·rw [drop_none (l := s1_) (j := i) (geA h4)] at hR; obtain rfl := foll hR rfl; exact ret_seen lx sr
def cmd_bare_k2 (c : Cmd) (i1 : Bool) : Cmd := bif i1 then (⟨c.kind, 0, ⟨#[]⟩, ⟨#[]⟩, ⟨#[]⟩, Shape.zero, 0, false, 0, false, [], c.node, 0, 0⟩ : Cmd) else bif (c.kind == 10) then (⟨c.kind, 0, ⟨#[]⟩, ⟨#[]⟩, ⟨#[]⟩, Shape.zero, 0, false, c.time, c.hasTime, [], 0, c.nodes, c.from_⟩ : Cmd) else (⟨c.kind, 0, ⟨#[]⟩, ⟨#[]⟩, ⟨#[]⟩, Shape.zero, 0, false, 0, false, [], 0, 0, 0⟩ : Cmd)
def cmd_bare_k1 (c : Cmd) (i : Bool) : Cmd := bif i then (⟨c.kind, c.job, ⟨#[]⟩, ⟨#[]⟩, ⟨#[]⟩, Shape.zero, 0, false, 0, false, [], 0, 0, 0⟩ : Cmd) else bif (c.kind == 5) then (⟨c.kind, c.job, ⟨#[]⟩, ⟨#[]⟩, ⟨#[]⟩, Shape.zero, c.prio, c.hasPrio, c.time, c.hasTime, [], 0, 0, 0⟩ : Cmd) else bif (c.kind == 6) then (⟨c.kind, c.job, ⟨#[]⟩, ⟨#[]⟩, ⟨#[]⟩, Shape.zero, 0, false, 0, false, [], 0, c.nodes, 0⟩ : Cmd) else bif (c.kind == 7) then cmd_bare_k2 c (c.kind == 7) else bif (c.kind == 8) then cmd_bare_k2 c (c.kind == 8) else cmd_bare_k2 c (c.kind == 9)
def cmd_bare (c : Cmd) : Cmd := bif (c.kind == 1) then { c with job := 0, time := 0, hasTime := false, node := 0, nodes := 0, from_ := 0 } else bif (c.kind == 2) then cmd_bare_k1 c (c.kind == 2) else bif (c.kind == 3) then cmd_bare_k1 c (c.kind == 3) else bif (c.kind == 4) then cmd_bare_k1 c (c.kind == 4) else bif (c.kind == 11) then cmd_bare_k1 c (c.kind == 11) else cmd_bare_k1 c (c.kind == 12)
theorem cmd_bare_c (c : Cmd) (hs0 : c.sz) : ∀ objs, AGives Tryz.prog 193 [Cmd.a c] objs (Cmd.a (cmd_bare c)) := by
 generalize hR : cmd_bare c = R; refine ga (.cons (Cmd.low _ _) .nil) (Cmd.low _ _) (kj [1000011, 1000019] 4 [8, 9, 32, 41, 58, 66, 73]) Tryz.func193 ?_; have hk0 := hs0; obtain ⟨z25, z26, z27, z28, z29⟩ : c.name.size <= 4294967296 ∧ c.user.size <= 4294967296 ∧ c.account.size <= 4294967296 ∧ (c.shape.alts.length <= 4294967296) ∧ c.after.length <= 4294967296 := hs0; refine ai (fun h1 => ?_) (fun h2 => ?_)
 ·refine dchk (by kernel_rfl) ?_; (repeat ((first | refine ai rfl ?_ | refine ai (fun _ => rfl) ?_))); (try (refine dchk (by kernel_rfl) ?_)); (repeat ((first | refine ai rfl ?_ | refine ai (fun _ => rfl) ?_))); obtain rfl := foll hR (ct h1 rfl); exact ret_seen (Cmd.low _ _) sr
 ·refine join_start1 (fun (i : Bool) => cmd_bare_k1 c i = R) (fun i => [(1, AVal.ptr 0 0 18 0 0), (2, AVal.ptr 1 0 18 0 0), (3, AVal.ptr 2 0 18 0 0), (8, I c.kind), (32, Bo i)]) (fun i => [(0, AObj.row 151 18 [[I c.kind, I c.job, Sg c.name, Sg c.user, Sg c.account, I c.shape.kind, altL c.shape.alts, I c.shape.min, I c.shape.max, I c.shape.wall, I c.prio, Bo c.hasPrio, I c.time, Bo c.hasTime, depL c.after, I c.node, I c.nodes, I c.from_]]), (0, AObj.row 151 18 [[I 0, I 0, Sg ⟨#[]⟩, Sg ⟨#[]⟩, Sg ⟨#[]⟩, I 0, AVal.lit (.slice none 0 0), I 0, I 0, I 0, I 0, Bo false, I 0, Bo false, AVal.lit (.slice none 0 0), I 0, I 0, I 0]]), (0, AObj.row 151 18 [[I c.kind, I 0, Sg ⟨#[]⟩, Sg ⟨#[]⟩, Sg ⟨#[]⟩, I 0, AVal.lit (.slice none 0 0), I 0, I 0, I 0, I 0, Bo false, I 0, Bo false, AVal.lit (.slice none 0 0), I 0, I 0, I 0]])]) ?_ ?_
  ·clear hR; rintro i hR; (try dsimp only at hR); refine ai (fun h3 => ?_) (fun h4 => ?_)
   ·obtain rfl := foll hR (ct h3 rfl); exact ret_seen (Cmd.low _ _) (Seen.agg (e1 (e1 (e1 (e1 (e1 (e1 (ev (seen_nil) (e1 (e1 (e1 (e1 (e1 (e1 (e1 (ev (seen_nil) (e1 (e1 (e1 .nil)))))))))))))))))))
   ·refine ai (fun h5 => ?_) (fun h6 => ?_)
    ·refine dchk (by kernel_rfl) ?_; (repeat ((first | refine ai rfl ?_ | refine ai (fun _ => rfl) ?_))); obtain rfl := foll hR (cf h4 (ct h5 rfl)); exact ret_seen (Cmd.low _ _) (Seen.agg (e1 (e1 (e1 (e1 (e1 (e1 (ev (seen_nil) (e1 (e1 (e1 (e1 (e1 (e1 (e1 (ev (seen_nil) (e1 (e1 (e1 .nil)))))))))))))))))))
    ·refine ai (fun h7 => ?_) (fun h8 => ?_)
     ·refine dchk (by kernel_rfl) ?_; (repeat ((first | refine ai rfl ?_ | refine ai (fun _ => rfl) ?_))); obtain rfl := foll hR (cf h4 (cf h6 (ct h7 rfl))); exact ret_seen (Cmd.low _ _) (Seen.agg (e1 (e1 (e1 (e1 (e1 (e1 (ev (seen_nil) (e1 (e1 (e1 (e1 (e1 (e1 (e1 (ev (seen_nil) (e1 (e1 (e1 .nil)))))))))))))))))))
     ·refine join_start1 (fun (i1 : Bool) => cmd_bare_k2 c i1 = R) (fun i1 => [(1, AVal.ptr 0 0 18 0 0), (2, AVal.ptr 1 0 18 0 0), (3, AVal.ptr 2 0 18 0 0), (8, I c.kind), (66, Bo i1)]) (fun i1 => [(0, AObj.row 151 18 [[I c.kind, I c.job, Sg c.name, Sg c.user, Sg c.account, I c.shape.kind, altL c.shape.alts, I c.shape.min, I c.shape.max, I c.shape.wall, I c.prio, Bo c.hasPrio, I c.time, Bo c.hasTime, depL c.after, I c.node, I c.nodes, I c.from_]]), (0, AObj.row 151 18 [[I 0, I 0, Sg ⟨#[]⟩, Sg ⟨#[]⟩, Sg ⟨#[]⟩, I 0, AVal.lit (.slice none 0 0), I 0, I 0, I 0, I 0, Bo false, I 0, Bo false, AVal.lit (.slice none 0 0), I 0, I 0, I 0]]), (0, AObj.row 151 18 [[I c.kind, I 0, Sg ⟨#[]⟩, Sg ⟨#[]⟩, Sg ⟨#[]⟩, I 0, AVal.lit (.slice none 0 0), I 0, I 0, I 0, I 0, Bo false, I 0, Bo false, AVal.lit (.slice none 0 0), I 0, I 0, I 0]])]) ?_ ?_
      ·clear hR; rintro i1 hR; (try dsimp only at hR); refine ai (fun h9 => ?_) (fun h10 => ?_)
       ·obtain rfl := foll hR (ct h9 rfl); exact ret_seen (Cmd.low _ _) (Seen.agg (e1 (e1 (e1 (e1 (e1 (e1 (ev (seen_nil) (e1 (e1 (e1 (e1 (e1 (e1 (e1 (ev (seen_nil) (e1 (e1 (e1 .nil)))))))))))))))))))
       ·refine ai (fun h11 => ?_) (fun h12 => ?_)
        ·refine dchk (by kernel_rfl) ?_; (repeat ((first | refine ai rfl ?_ | refine ai (fun _ => rfl) ?_))); obtain rfl := foll hR (cf h10 (ct h11 rfl)); exact ret_seen (Cmd.low _ _) (Seen.agg (e1 (e1 (e1 (e1 (e1 (e1 (ev (seen_nil) (e1 (e1 (e1 (e1 (e1 (e1 (e1 (ev (seen_nil) (e1 (e1 (e1 .nil)))))))))))))))))))
        ·obtain rfl := foll hR (cf h10 (cf h12 rfl)); exact ret_seen (Cmd.low _ _) (Seen.agg (e1 (e1 (e1 (e1 (e1 (e1 (ev (seen_nil) (e1 (e1 (e1 (e1 (e1 (e1 (e1 (ev (seen_nil) (e1 (e1 (e1 .nil)))))))))))))))))))
      ·refine ai (fun h13 => ?_) (fun h14 => ?_)
       ·exact join_here1 (c.kind == 7) (wk [0, 1, 2] (tO rfl (ts Cmd.lo) (tO rfl (ts (l1 (l1 (l1 (l1 (l1 (l1 (l1 (l1 (l1 (l1 (l1 (l1 (l1 (l1 (l1 (l1 (l1 (l1 LowL.nil))))))))))))))))))) (tO rfl (ts (l1 (l1 (l1 (l1 (l1 (l1 (l1 (l1 (l1 (l1 (l1 (l1 (l1 (l1 (l1 (l1 (l1 (l1 LowL.nil))))))))))))))))))) .nil))) (sv (turn_ptr 0 rfl rfl) (sv (turn_ptr 1 rfl rfl) (sv (turn_ptr 2 rfl rfl) (s1 (s1 .nil)))))) (foll hR (cf h4 (cf h6 (cf h8 (ct h13 rfl)))))
       ·refine ai (fun h15 => ?_) (fun h16 => ?_)
        ·exact join_here1 (c.kind == 8) (wk [0, 1, 2] (tO rfl (ts Cmd.lo) (tO rfl (ts (l1 (l1 (l1 (l1 (l1 (l1 (l1 (l1 (l1 (l1 (l1 (l1 (l1 (l1 (l1 (l1 (l1 (l1 LowL.nil))))))))))))))))))) (tO rfl (ts (l1 (l1 (l1 (l1 (l1 (l1 (l1 (l1 (l1 (l1 (l1 (l1 (l1 (l1 (l1 (l1 (l1 (l1 LowL.nil))))))))))))))))))) .nil))) (sv (turn_ptr 0 rfl rfl) (sv (turn_ptr 1 rfl rfl) (sv (turn_ptr 2 rfl rfl) (s1 (s1 .nil)))))) (foll hR (cf h4 (cf h6 (cf h8 (cf h14 (ct h15 rfl))))))
        ·exact join_here1 (c.kind == 9) (wk [0, 1, 2] (tO rfl (ts Cmd.lo) (tO rfl (ts (l1 (l1 (l1 (l1 (l1 (l1 (l1 (l1 (l1 (l1 (l1 (l1 (l1 (l1 (l1 (l1 (l1 (l1 LowL.nil))))))))))))))))))) (tO rfl (ts (l1 (l1 (l1 (l1 (l1 (l1 (l1 (l1 (l1 (l1 (l1 (l1 (l1 (l1 (l1 (l1 (l1 (l1 LowL.nil))))))))))))))))))) .nil))) (sv (turn_ptr 0 rfl rfl) (sv (turn_ptr 1 rfl rfl) (sv (turn_ptr 2 rfl rfl) (s1 (s1 .nil)))))) (foll hR (cf h4 (cf h6 (cf h8 (cf h14 (cf h16 rfl))))))
  ·refine ai (fun h17 => ?_) (fun h18 => ?_)
   ·exact join_here1 (c.kind == 2) (wk [0, 1, 2] (tO rfl (ts Cmd.lo) (tO rfl (ts (l1 (l1 (l1 (l1 (l1 (l1 (l1 (l1 (l1 (l1 (l1 (l1 (l1 (l1 (l1 (l1 (l1 (l1 LowL.nil))))))))))))))))))) (tO rfl (ts (l1 (l1 (l1 (l1 (l1 (l1 (l1 (l1 (l1 (l1 (l1 (l1 (l1 (l1 (l1 (l1 (l1 (l1 LowL.nil))))))))))))))))))) .nil))) (sv (turn_ptr 0 rfl rfl) (sv (turn_ptr 1 rfl rfl) (sv (turn_ptr 2 rfl rfl) (s1 (s1 .nil)))))) (foll hR (cf h2 (ct h17 rfl)))
   ·refine ai (fun h19 => ?_) (fun h20 => ?_)
    ·exact join_here1 (c.kind == 3) (wk [0, 1, 2] (tO rfl (ts Cmd.lo) (tO rfl (ts (l1 (l1 (l1 (l1 (l1 (l1 (l1 (l1 (l1 (l1 (l1 (l1 (l1 (l1 (l1 (l1 (l1 (l1 LowL.nil))))))))))))))))))) (tO rfl (ts (l1 (l1 (l1 (l1 (l1 (l1 (l1 (l1 (l1 (l1 (l1 (l1 (l1 (l1 (l1 (l1 (l1 (l1 LowL.nil))))))))))))))))))) .nil))) (sv (turn_ptr 0 rfl rfl) (sv (turn_ptr 1 rfl rfl) (sv (turn_ptr 2 rfl rfl) (s1 (s1 .nil)))))) (foll hR (cf h2 (cf h18 (ct h19 rfl))))
    ·refine ai (fun h21 => ?_) (fun h22 => ?_)
     ·exact join_here1 (c.kind == 4) (wk [0, 1, 2] (tO rfl (ts Cmd.lo) (tO rfl (ts (l1 (l1 (l1 (l1 (l1 (l1 (l1 (l1 (l1 (l1 (l1 (l1 (l1 (l1 (l1 (l1 (l1 (l1 LowL.nil))))))))))))))))))) (tO rfl (ts (l1 (l1 (l1 (l1 (l1 (l1 (l1 (l1 (l1 (l1 (l1 (l1 (l1 (l1 (l1 (l1 (l1 (l1 LowL.nil))))))))))))))))))) .nil))) (sv (turn_ptr 0 rfl rfl) (sv (turn_ptr 1 rfl rfl) (sv (turn_ptr 2 rfl rfl) (s1 (s1 .nil)))))) (foll hR (cf h2 (cf h18 (cf h20 (ct h21 rfl)))))
     ·refine ai (fun h23 => ?_) (fun h24 => ?_)
      ·exact join_here1 (c.kind == 11) (wk [0, 1, 2] (tO rfl (ts Cmd.lo) (tO rfl (ts (l1 (l1 (l1 (l1 (l1 (l1 (l1 (l1 (l1 (l1 (l1 (l1 (l1 (l1 (l1 (l1 (l1 (l1 LowL.nil))))))))))))))))))) (tO rfl (ts (l1 (l1 (l1 (l1 (l1 (l1 (l1 (l1 (l1 (l1 (l1 (l1 (l1 (l1 (l1 (l1 (l1 (l1 LowL.nil))))))))))))))))))) .nil))) (sv (turn_ptr 0 rfl rfl) (sv (turn_ptr 1 rfl rfl) (sv (turn_ptr 2 rfl rfl) (s1 (s1 .nil)))))) (foll hR (cf h2 (cf h18 (cf h20 (cf h22 (ct h23 rfl))))))
      ·exact join_here1 (c.kind == 12) (wk [0, 1, 2] (tO rfl (ts Cmd.lo) (tO rfl (ts (l1 (l1 (l1 (l1 (l1 (l1 (l1 (l1 (l1 (l1 (l1 (l1 (l1 (l1 (l1 (l1 (l1 (l1 LowL.nil))))))))))))))))))) (tO rfl (ts (l1 (l1 (l1 (l1 (l1 (l1 (l1 (l1 (l1 (l1 (l1 (l1 (l1 (l1 (l1 (l1 (l1 (l1 LowL.nil))))))))))))))))))) .nil))) (sv (turn_ptr 0 rfl rfl) (sv (turn_ptr 1 rfl rfl) (sv (turn_ptr 2 rfl rfl) (s1 (s1 .nil)))))) (foll hR (cf h2 (cf h18 (cf h20 (cf h22 (cf h24 rfl))))))
theorem cmd_bare_k2_sz (c : Cmd) (b : Bool) : (cmd_bare_k2 c b).sz := by
 cases b <;> simp only [cmd_bare_k2, cond_true, cond_false]
 ·cases (c.kind == 10) <;> simp [Cmd.sz, Cmd.szN, Shape.szN, Shape.zero, ByteArray.size]
 ·simp [Cmd.sz, Cmd.szN, Shape.szN, Shape.zero, ByteArray.size]
theorem cmd_bare_k1_sz (c : Cmd) (b : Bool) : (cmd_bare_k1 c b).sz := by
 cases b <;> simp only [cmd_bare_k1, cond_true, cond_false]
 ·cases (c.kind == 5) <;> simp only [cond_true, cond_false]
  ·cases (c.kind == 6) <;> simp only [cond_true, cond_false]
   ·cases (c.kind == 7) <;> simp only [cond_true, cond_false]
    ·cases (c.kind == 8) <;> simp only [cond_true, cond_false] <;> exact cmd_bare_k2_sz _ _
    ·exact cmd_bare_k2_sz _ _
   ·simp [Cmd.sz, Cmd.szN, Shape.szN, Shape.zero, ByteArray.size]
  ·simp [Cmd.sz, Cmd.szN, Shape.szN, Shape.zero, ByteArray.size]
 ·simp [Cmd.sz, Cmd.szN, Shape.szN, Shape.zero, ByteArray.size]
theorem cmd_bare_sz (c : Cmd) (h : c.sz) : (cmd_bare c).sz := by
 unfold cmd_bare
 cases (c.kind == 1) <;> simp only [cond_true, cond_false]
 ·cases (c.kind == 2) <;> simp only [cond_true, cond_false]
  ·cases (c.kind == 3) <;> simp only [cond_true, cond_false]
   ·cases (c.kind == 4) <;> simp only [cond_true, cond_false]
    ·cases (c.kind == 11) <;> simp only [cond_true, cond_false] <;> exact cmd_bare_k1_sz _ _
    ·exact cmd_bare_k1_sz _ _
   ·exact cmd_bare_k1_sz _ _
  ·exact cmd_bare_k1_sz _ _
 ·exact h
def job_view_submission (v : Job) : Cmd := (⟨1, 0, v.name, v.user, v.account, v.shape, v.prio, true, 0, false, v.after, 0, 0, 0⟩ : Cmd)
theorem job_view_submission_c (v : Job) : ∀ objs, AGives Tryz.prog 173 [Job.a v] objs (Cmd.a (job_view_submission v)) := by
 generalize hR : job_view_submission v = R; refine ga (.cons (Job.low _ _) .nil) (Cmd.low _ _) (kp 3 []) Tryz.func173 ?_; obtain rfl := foll hR rfl; exact ret_seen (Cmd.low _ _) sr
theorem slices_Clone_Alt_c (l : List Alt) (hs0 : l.length <= 4294967296) : ∀ objs, AGives Tryz.prog 179 [altL l] objs (altL l) := by
 refine AGives.any' (.cons lw .nil) lw (ACalls.of_cwp (fun _ => true) Tryz.func179 rfl rfl ?_)
 obtain z1 : l.length <= 4294967296 := hs0
 intro b hb
 refine ai (fun h1 => ?_) (fun h2 => ?_)
 ·have hl : l = [] := by
   rcases l with _ | ⟨x, r⟩
   ·rfl
   ·exact absurd ((hb (by simp)).symm.trans h1) (by decide)
  subst hl
  exact ret_leaf (fun r : List Alt => altL r) (leaf := []) rfl lw seen_nil
 ·refine ⟨app_nil 16 rfl apA, ?_⟩
  exact ret_leaf (fun r : List Alt => altL r) (leaf := l) rfl lw (seen_list Alt.zero _ rfl eqA lnA)
theorem slices_Clone_Alt_o (l : List Alt) (hs0 : l.length <= 4294967296) : AMoves Tryz.prog 179 [altL l] [] 0 (AVal.own 0 0 2 0 l.length) [(0, AObj.row 103 2 (l.map Alt.cells))] := by
 refine AMoves.of_cwp (fun _ => true) Tryz.func179 rfl rfl rfl ?_
 obtain z1 : l.length <= 4294967296 := hs0
 intro b hb
 refine ai (fun h1 => ?_) (fun h2 => ?_)
 ·have hl : l = [] := by
   rcases l with _ | ⟨x, r⟩
   ·rfl
   ·exact absurd ((hb (by simp)).symm.trans h1) (by decide)
  subst hl
  refine ret_moves (fun r : List Alt => AVal.own 0 0 2 0 r.length) (fun r : List Alt => [(0, AObj.row 103 2 (r.map Alt.cells))]) (leaf := []) rfl ?_
  exact Told.pad 103 2 (told_turnI [0] rfl (by decide) (tO rfl (tl eqA) .nil) (turn_nilown 0 rfl))
 ·refine ⟨app_nil 16 rfl apA, ?_⟩
  refine ret_moves (fun r : List Alt => AVal.own 0 0 2 0 r.length) (fun r : List Alt => [(0, AObj.row 103 2 (r.map Alt.cells))]) (leaf := l) rfl ?_
  exact told_turnI [0] rfl (by decide) (tO rfl (tl eqA) .nil) (to 0 lnA)
def oc1 (x_ : Int) : Int := (wu64 ((wu64 (BitVec.ofInt 64 (Int.fdiv x_ (2 ^ (min (Int.toNat 1) 64))) &&& BitVec.ofInt 64 6148914691236517205).toNat) + (wu64 (BitVec.ofInt 64 x_ &&& BitVec.ofInt 64 6148914691236517205).toNat)))
def oc2 (x_ : Int) : Int := (wu64 ((wu64 (BitVec.ofInt 64 (Int.fdiv x_ (2 ^ (min (Int.toNat 2) 64))) &&& BitVec.ofInt 64 3689348814741910323).toNat) + (wu64 (BitVec.ofInt 64 x_ &&& BitVec.ofInt 64 3689348814741910323).toNat)))
def oc3 (x_ : Int) : Int := (wu64 (BitVec.ofInt 64 (wu64 ((Int.fdiv x_ (2 ^ (min (Int.toNat 4) 64))) + x_)) &&& BitVec.ofInt 64 1085102592571150095).toNat)
def bits_OnesCount64 (x_ : Int) : Int := (w64 (BitVec.ofInt 64 (w64 (wu64 ((wu64 ((wu64 ((oc3 (oc2 (oc1 x_))) + (Int.fdiv (oc3 (oc2 (oc1 x_))) (2 ^ (min (Int.toNat 8) 64))))) + (Int.fdiv (wu64 ((oc3 (oc2 (oc1 x_))) + (Int.fdiv (oc3 (oc2 (oc1 x_))) (2 ^ (min (Int.toNat 8) 64))))) (2 ^ (min (Int.toNat 16) 64))))) + (Int.fdiv (wu64 ((wu64 ((oc3 (oc2 (oc1 x_))) + (Int.fdiv (oc3 (oc2 (oc1 x_))) (2 ^ (min (Int.toNat 8) 64))))) + (Int.fdiv (wu64 ((oc3 (oc2 (oc1 x_))) + (Int.fdiv (oc3 (oc2 (oc1 x_))) (2 ^ (min (Int.toNat 8) 64))))) (2 ^ (min (Int.toNat 16) 64))))) (2 ^ (min (Int.toNat 32) 64)))))) &&& BitVec.ofInt 64 127).toNat)
theorem bits_OnesCount64_c (x_ : Int) : ∀ objs, AGives Tryz.prog 58 [U x_] objs (I (bits_OnesCount64 x_)) := by
 generalize hR : bits_OnesCount64 x_ = R; refine ga (l1 .nil) lx (kp 3 []) Tryz.func58 ?_; refine ai gkA ?_; refine ai gkA ?_; refine ai gkA ?_; refine ai gkA ?_; refine ai gkA ?_; refine ai gkA ?_; obtain rfl := foll hR rfl; exact ret_seen lx sr
def nodeset_one (n : Int) : Int := (wu64 (1 * 2 ^ (min (Int.toNat (wu64 n)) 64)))
theorem nodeset_one_c (n : Int) : ∀ objs, AGives Tryz.prog 138 [I n] objs (U (nodeset_one n)) := by
 generalize hR : nodeset_one n = R; refine ga (l1 .nil) lx (kp 3 []) Tryz.func138 ?_; refine ai gkA ?_; obtain rfl := foll hR rfl; exact ret_seen lx sr
end Go.Proofs.YtigcpfbpmnppcaaGreatDoor
namespace Go.Proofs.YtigcpfbpmnppcaaGreatDoor
set_option linter.unusedSimpArgs false
set_option linter.unusedVariables false
open Go.Fw
set_option maxRecDepth 20000
set_option maxHeartbeats 4000000
attribute [local irreducible] ACalls AMoves
def job_ended (state : Int) : Bool := ((decide (state >= 3)) && (decide (state <= 7)))
theorem job_ended_c (state : Int) : ∀ objs, AGives Tryz.prog 178 [I state] objs (Bo (job_ended state)) := by
 generalize hR : job_ended state = R; refine ga (l1 .nil) lx (kp 3 []) Tryz.func178 ?_; obtain rfl := foll hR rfl; exact ret_seen lx sr
def state_next (n : Int) (last : Int) : Bool := (((decide (n >= 1)) && (decide (n <= 100000))) && (decide (n > last)))
theorem state_next_c (n : Int) (last : Int) : ∀ objs, AGives Tryz.prog 55 [I n, I last] objs (Bo (state_next n last)) := by
 generalize hR : state_next n last = R; refine ga (l1 (l1 .nil)) lx (kp 5 []) Tryz.func55 ?_; obtain rfl := foll hR rfl; exact ret_seen lx sr
theorem slices_Clone_Dep_c (l : List Dep) (hs0 : l.length <= 4294967296) : ∀ objs, AGives Tryz.prog 180 [depL l] objs (depL l) := by
 refine AGives.any' (.cons lw .nil) lw (ACalls.of_cwp (fun _ => true) Tryz.func180 rfl rfl ?_)
 obtain z36 : l.length <= 4294967296 := hs0
 intro b hb
 refine ai (fun h1 => ?_) (fun h2 => ?_)
 ·have hl : l = [] := by
   rcases l with _ | ⟨x, r⟩
   ·rfl
   ·exact absurd ((hb (by simp)).symm.trans h1) (by decide)
  subst hl
  exact ret_leaf (fun r : List Dep => depL r) (leaf := []) rfl lw seen_nil
 ·refine ⟨app_nil 16 rfl apA, ?_⟩
  exact ret_leaf (fun r : List Dep => depL r) (leaf := l) rfl lw (seen_list Dep.zero _ rfl eqA lnA)
def job_when (ok : Bool) : Int := bif (!ok) then 141 else 0
theorem job_when_c (ok : Bool) : ∀ objs, AGives Tryz.prog 110 [Bo ok] objs (I (job_when ok)) := by
 generalize hR : job_when ok = R; refine ga (l1 .nil) lx (kp 3 [4]) Tryz.func110 ?_; refine ai (fun h1 => ?_) (fun h2 => ?_)
 ·obtain rfl := foll hR (ct h1 rfl); exact ret_seen lx sr
 ·obtain rfl := foll hR (cf h2 rfl); exact ret_seen lx sr
theorem slices_Clone_Usage_o (l : List Usage) (hs0 : l.length <= 4294967296 ∧ (∀ y ∈ l, y.sz)) : AMoves Tryz.prog 77 [usageL l] [] 0 (AVal.own 0 0 4 0 l.length) [(0, AObj.row 67 4 (l.map Usage.cells))] := by
 refine AMoves.of_cwp (fun _ => true) Tryz.func77 rfl rfl rfl ?_
 obtain ⟨z10, z11⟩ : l.length <= 4294967296 ∧ (∀ y ∈ l, y.sz) := hs0
 intro b hb
 refine ai (fun h1 => ?_) (fun h2 => ?_)
 ·have hl : l = [] := by
   rcases l with _ | ⟨x, r⟩
   ·rfl
   ·exact absurd ((hb (by simp)).symm.trans h1) (by decide)
  subst hl
  refine ret_moves (fun r : List Usage => AVal.own 0 0 4 0 r.length) (fun r : List Usage => [(0, AObj.row 67 4 (r.map Usage.cells))]) (leaf := []) rfl ?_
  exact Told.pad 67 4 (told_turnI [0] rfl (by decide) (tO rfl (tl eqA) .nil) (turn_nilown 0 rfl))
 ·refine ⟨app_nil 48 rfl apA, ?_⟩
  refine ret_moves (fun r : List Usage => AVal.own 0 0 4 0 r.length) (fun r : List Usage => [(0, AObj.row 67 4 (r.map Usage.cells))]) (leaf := l) rfl ?_
  exact told_turnI [0] rfl (by decide) (tO rfl (tl eqA) .nil) (to 0 lnA)
def slices_BinarySearchFunc_Usage_g1 (x_ : List Usage) (target : Usage) (cmp : Usage -> Usage -> Int) : Nat -> Int -> Int -> Int × Int
 | 0, _, _ => (0, 0)
 | m + 1, i, j => bif (decide (i < j)) then bif (decide ((cmp (x_.getD (Int.toNat (w64 (Int.fdiv (wu64 (w64 (i + j))) (2 ^ (min (Int.toNat 1) 64))))) Usage.zero) target) < 0)) then slices_BinarySearchFunc_Usage_g1 x_ target cmp m (w64 ((w64 (Int.fdiv (wu64 (w64 (i + j))) (2 ^ (min (Int.toNat 1) 64)))) + 1)) j else slices_BinarySearchFunc_Usage_g1 x_ target cmp m i (w64 (Int.fdiv (wu64 (w64 (i + j))) (2 ^ (min (Int.toNat 1) 64)))) else (i, j)
def slices_BinarySearchFunc_Usage_k1 (x_ : List Usage) (target : Usage) (cmp : Usage -> Usage -> Int) (i : Int) (j : Int) : Int × Bool := (i, ((decide (i < (x_.length : Int))) && ((cmp (x_.getD (Int.toNat i) Usage.zero) target) == 0)))
def slices_BinarySearchFunc_Usage (x_ : List Usage) (target : Usage) (cmp : Usage -> Usage -> Int) : Int × Bool := slices_BinarySearchFunc_Usage_k1 x_ target cmp ((slices_BinarySearchFunc_Usage_g1 x_ target cmp ((Int.toNat ((x_.length : Int) - 0)) + 1) 0 (x_.length : Int)).1) ((slices_BinarySearchFunc_Usage_g1 x_ target cmp ((Int.toNat ((x_.length : Int) - 0)) + 1) 0 (x_.length : Int)).2)
theorem bsu_in (x_ : List Usage) (target : Usage) (cmp : Usage -> Usage -> Int) (hn : x_.length <= 4294967296) : ∀ (m : Nat) (i j : Int), 0 <= i -> i <= j -> j <= (x_.length : Int) -> 0 <= (slices_BinarySearchFunc_Usage_g1 x_ target cmp m i j).1 ∧ (slices_BinarySearchFunc_Usage_g1 x_ target cmp m i j).1 <= (x_.length : Int)
 | 0, _, _, _, _, _ => by simp [slices_BinarySearchFunc_Usage_g1]
 | m + 1, i, j, h0, h1, h2 => by
  rw [slices_BinarySearchFunc_Usage_g1]
  cases hd : decide (i < j) with
  | false => exact ⟨h0, Int.le_trans h1 h2⟩
  | true =>
   have hlt := of_decide_eq_true hd
   rw [half_ok h0 hlt h2 (by omega)]
   simp only [cond_true]
   cases decide (cmp (x_.getD (Int.toNat ((i + j) / 2)) Usage.zero) target < 0) with
   | true =>
    have hw : w64 ((i + j) / 2 + 1) = (i + j) / 2 + 1 := wr (by omega)
    simp only [cond_true]
    rw [hw]
    exact bsu_in x_ target cmp hn m _ _ (by omega) (by omega) h2
   | false => exact bsu_in x_ target cmp hn m _ _ h0 (by omega) (by omega)
theorem bsu_le (l : List Usage) (t : Usage) (cmp : Usage -> Usage -> Int) (hn : l.length <= 4294967296) : 0 <= (slices_BinarySearchFunc_Usage l t cmp).1 ∧ (slices_BinarySearchFunc_Usage l t cmp).1 <= (l.length : Int) :=
 bsu_in l t cmp hn _ _ _ (by omega) (by omega) (by omega)
theorem bsu_lt {l : List Usage} {t : Usage} {cmp : Usage -> Usage -> Int} (h : (!(slices_BinarySearchFunc_Usage l t cmp).2) = false) : (slices_BinarySearchFunc_Usage l t cmp).1 < (l.length : Int) := by
 simp only [slices_BinarySearchFunc_Usage, slices_BinarySearchFunc_Usage_k1, Bool.not_eq_false', Bool.and_eq_true, decide_eq_true_eq] at h
 exact h.1
def ledger_insert_Usage (l : List Usage) (i : Int) (x_ : Usage) : (List Usage) := ((((List.replicate 0 Usage.zero) ++ (List.take (Int.toNat i) l)) ++ ([x_] : List Usage)) ++ (List.drop (Int.toNat i) l))
theorem ledger_insert_len (l : List Usage) (i : Int) (x_ : Usage) (h0 : 0 <= i) (h1 : i <= (l.length : Int)) : (ledger_insert_Usage l i x_).length = l.length + 1 := by
 unfold ledger_insert_Usage
 simp only [List.length_append, List.length_replicate, List.length_take, List.length_drop, List.length_cons, List.length_nil]
 omega
theorem ledger_insert_Usage_o (l : List Usage) (i : Int) (x_ : Usage) (hs0 : l.length <= 4294967296 ∧ (∀ y ∈ l, y.sz)) (hs1 : x_.sz) (hp0 : 0 <= i ∧ i <= (l.length : Int)) : AMoves Tryz.prog 115 [usageL l, I i, Usage.a x_] [] 0 (AVal.own 0 0 4 0 (ledger_insert_Usage l i x_).length) [(0, AObj.row 67 4 ((ledger_insert_Usage l i x_).map Usage.cells))] := by
 generalize hR : ledger_insert_Usage l i x_ = R; refine mo (kp 8 []) Tryz.func115 ?_; have hk0 := hs0; obtain ⟨z1, z2⟩ : l.length <= 4294967296 ∧ (∀ y ∈ l, y.sz) := hs0; have hk1 := hs1; obtain ⟨z3, z4⟩ : x_.user.size <= 4294967296 ∧ x_.account.size <= 4294967296 := hs1; have hw0 : w64 ((l.length : Int) + 1) = (l.length : Int) + 1 := wr (by have := hk0.1; omega); refine And.intro (mk_ok 48 rfl (by refine ⟨?_, ?_, ?_, ?_⟩ <;> exact ckA)) ?_; refine ai gkA ?_; (first | refine ⟨app_ok 48 rfl lnA apA, ?_⟩ | refine ⟨app_nil 48 rfl apA, ?_⟩); refine Or.inl ?_; (first | refine ⟨app_ok 48 rfl lnA apA, ?_⟩ | refine ⟨app_nil 48 rfl apA, ?_⟩); refine ai gkA ?_; (first | refine ⟨app_ok 48 rfl lnA apA, ?_⟩ | refine ⟨app_nil 48 rfl apA, ?_⟩); obtain rfl := foll hR (by unfold ledger_insert_Usage; rfl); exact rq (tt [1] (tO rfl (tl eqA) .nil) (to 0 lnA))
def state_copied_Node (l : List Node) : (List Node) := l
theorem state_copied_Node_o (l : List Node) (hs0 : l.length <= 4294967296) : AMoves Tryz.prog 69 [nodeL l] [] 0 (AVal.own 0 0 7 0 l.length) [(0, AObj.row 57 7 (l.map Node.cells))] := by
 generalize hR : state_copied_Node l = R; refine mo (kp 3 []) Tryz.func69 ?_; have hk0 := hs0; obtain z1 : l.length <= 4294967296 := hs0; (first | refine ⟨app_ok 56 rfl lnA apA, ?_⟩ | refine ⟨app_nil 56 rfl apA, ?_⟩); obtain rfl := foll hR rfl; exact rq (tt [0] (tO rfl (tl eqA) .nil) (to 0 lnA))
def state_copied_Job (l : List Job) : (List Job) := l
theorem state_copied_Job_o (l : List Job) (hs0 : l.length <= 4294967296 ∧ (∀ y ∈ l, y.sz)) : AMoves Tryz.prog 70 [jobL l] [] 0 (AVal.own 0 0 20 0 l.length) [(0, AObj.row 52 20 (l.map Job.cells))] := by
 generalize hR : state_copied_Job l = R; refine mo (kp 3 []) Tryz.func70 ?_; have hk0 := hs0; obtain ⟨z1, z2⟩ : l.length <= 4294967296 ∧ (∀ y ∈ l, y.sz) := hs0; (first | refine ⟨app_ok 216 rfl lnA apA, ?_⟩ | refine ⟨app_nil 216 rfl apA, ?_⟩); obtain rfl := foll hR rfl; exact rq (tt [0] (tO rfl (tl eqA) .nil) (to 0 lnA))
def state_copied_Resize (l : List Resize) : (List Resize) := l
theorem state_copied_Resize_o (l : List Resize) (hs0 : l.length <= 4294967296) : AMoves Tryz.prog 71 [resizeL l] [] 0 (AVal.own 0 0 5 0 l.length) [(0, AObj.row 88 5 (l.map Resize.cells))] := by
 generalize hR : state_copied_Resize l = R; refine mo (kp 3 []) Tryz.func71 ?_; have hk0 := hs0; obtain z1 : l.length <= 4294967296 := hs0; (first | refine ⟨app_ok 40 rfl lnA apA, ?_⟩ | refine ⟨app_nil 40 rfl apA, ?_⟩); obtain rfl := foll hR rfl; exact rq (tt [0] (tO rfl (tl eqA) .nil) (to 0 lnA))
def state_copied_Book (l : List Book) : (List Book) := l
theorem state_copied_Book_o (l : List Book) (hs0 : l.length <= 4294967296) : AMoves Tryz.prog 72 [bookL l] [] 0 (AVal.own 0 0 4 0 l.length) [(0, AObj.row 90 4 (l.map Book.cells))] := by
 generalize hR : state_copied_Book l = R; refine mo (kp 3 []) Tryz.func72 ?_; have hk0 := hs0; obtain z1 : l.length <= 4294967296 := hs0; (first | refine ⟨app_ok 32 rfl lnA apA, ?_⟩ | refine ⟨app_nil 32 rfl apA, ?_⟩); obtain rfl := foll hR rfl; exact rq (tt [0] (tO rfl (tl eqA) .nil) (to 0 lnA))
def state_copied_Usage (l : List Usage) : (List Usage) := l
theorem state_copied_Usage_o (l : List Usage) (hs0 : l.length <= 4294967296 ∧ (∀ y ∈ l, y.sz)) : AMoves Tryz.prog 73 [usageL l] [] 0 (AVal.own 0 0 4 0 l.length) [(0, AObj.row 67 4 (l.map Usage.cells))] := by
 generalize hR : state_copied_Usage l = R; refine mo (kp 3 []) Tryz.func73 ?_; have hk0 := hs0; obtain ⟨z1, z2⟩ : l.length <= 4294967296 ∧ (∀ y ∈ l, y.sz) := hs0; (first | refine ⟨app_ok 48 rfl lnA apA, ?_⟩ | refine ⟨app_nil 48 rfl apA, ?_⟩); obtain rfl := foll hR rfl; exact rq (tt [0] (tO rfl (tl eqA) .nil) (to 0 lnA))
def state_copied_Alt (l : List Alt) : (List Alt) := l
theorem state_copied_Alt_c (l : List Alt) (hs0 : l.length <= 4294967296) : ∀ objs, AGives Tryz.prog 74 [altL l] objs (altL l) := by
 generalize hR : state_copied_Alt l = R; refine ga (.cons lw .nil) lw (kp 3 []) Tryz.func74 ?_; have hk0 := hs0; obtain z1 : l.length <= 4294967296 := hs0; (first | refine ⟨app_ok 16 rfl lnA apA, ?_⟩ | refine ⟨app_nil 16 rfl apA, ?_⟩); obtain rfl := foll hR rfl; exact ret_seen lw (seen_list Alt.zero _ rfl eqA lnA)
def state_copied_Dep (l : List Dep) : (List Dep) := l
theorem state_copied_Dep_c (l : List Dep) (hs0 : l.length <= 4294967296) : ∀ objs, AGives Tryz.prog 75 [depL l] objs (depL l) := by
 generalize hR : state_copied_Dep l = R; refine ga (.cons lw .nil) lw (kp 3 []) Tryz.func75 ?_; have hk0 := hs0; obtain z1 : l.length <= 4294967296 := hs0; (first | refine ⟨app_ok 16 rfl lnA apA, ?_⟩ | refine ⟨app_nil 16 rfl apA, ?_⟩); obtain rfl := foll hR rfl; exact ret_seen lw (seen_list Dep.zero _ rfl eqA lnA)
theorem slices_Clone_Book_o (l : List Book) (hs0 : l.length <= 4294967296) : AMoves Tryz.prog 119 [bookL l] [] 0 (AVal.own 0 0 4 0 l.length) [(0, AObj.row 90 4 (l.map Book.cells))] := by
 refine AMoves.of_cwp (fun _ => true) Tryz.func119 rfl rfl rfl ?_
 obtain z7 : l.length <= 4294967296 := hs0
 intro b hb
 refine ai (fun h1 => ?_) (fun h2 => ?_)
 ·have hl : l = [] := by
   rcases l with _ | ⟨x, r⟩
   ·rfl
   ·exact absurd ((hb (by simp)).symm.trans h1) (by decide)
  subst hl
  refine ret_moves (fun r : List Book => AVal.own 0 0 4 0 r.length) (fun r : List Book => [(0, AObj.row 90 4 (r.map Book.cells))]) (leaf := []) rfl ?_
  exact Told.pad 90 4 (told_turnI [0] rfl (by decide) (tO rfl (tl eqA) .nil) (turn_nilown 0 rfl))
 ·refine ⟨app_nil 32 rfl apA, ?_⟩
  refine ret_moves (fun r : List Book => AVal.own 0 0 4 0 r.length) (fun r : List Book => [(0, AObj.row 90 4 (r.map Book.cells))]) (leaf := l) rfl ?_
  exact told_turnI [0] rfl (by decide) (tO rfl (tl eqA) .nil) (to 0 lnA)
def nag_meant_g1 (is : Node -> Bool) : List Node -> List Int -> Nat -> (List Int)
 | [], out, _ => out
 | x_ :: r, out, i => bif (is x_) then nag_meant_g1 is r (out ++ ([(i : Int)] : List Int)) (i + 1) else nag_meant_g1 is r out (i + 1)
def nag_meant_k1 (out : List Int) : (List Int) := out
def nag_meant (l : List Node) (is : Node -> Bool) : (List Int) := nag_meant_k1 (nag_meant_g1 is l [] 0)
def nag_at_again (now : Int) (x_ : Node) : Bool := ((x_.want != 0) && (decide ((w64 (now - x_.asked)) >= 3)))
theorem nag_at_again_c (now : Int) (x_ : Node) : ∀ objs, AGives Tryz.prog 48 [I now, Node.a x_] objs (Bo (nag_at_again now x_)) := by
 generalize hR : nag_at_again now x_ = R; refine ga (l1 (.cons (Node.low _ _) .nil)) lx (kp 5 []) Tryz.func48 ?_; obtain rfl := foll hR rfl; exact ret_seen lx sr
def law27_one (now : Int) : State := (⟨now, ([(⟨1, 5, 1, false, 0, 0, 0⟩ : Node), (⟨1, 5, 1, false, 1, 4, 4⟩ : Node)] : List Node), ([(⟨5, ⟨#[97]⟩, ⟨#[117]⟩, ⟨#[120]⟩, (⟨1, ([(⟨2, 60⟩ : Alt)] : List Alt), 0, 0, 0⟩ : Shape), 0, [], 2, false, 0, 4, 0, 4, 64, 3, 0⟩ : Job)] : List Job), [], [], ([(⟨⟨#[117]⟩, ⟨#[120]⟩, 0, 0⟩ : Usage)] : List Usage), 6, 1⟩ : State)
theorem law27_one_c (now : Int) : ∀ objs, AGives Tryz.prog 32 [I now] objs (State.a (law27_one now)) := by
 generalize hR : law27_one now = R; refine ga (l1 .nil) (State.low _ _) (kp 6 []) Tryz.func32 ?_; refine Or.inl ?_; refine Or.inl ?_; refine Or.inl ?_; refine Or.inl ?_; obtain rfl := foll hR rfl; exact ret_seen (State.low _ _) (Seen.agg (e1 (ev (seen_as (as_lits (c := Node.cells) (d := Node.zero) ([(⟨1, 5, 1, false, 0, 0, 0⟩ : Node), (⟨1, 5, 1, false, 1, 4, 4⟩ : Node)] : List Node) rfl)) (ev (seen_as (as_deep (c := Job.cells) (d := Job.zero) ([(⟨5, ⟨#[97]⟩, ⟨#[117]⟩, ⟨#[120]⟩, (⟨1, ([(⟨2, 60⟩ : Alt)] : List Alt), 0, 0, 0⟩ : Shape), 0, [], 2, false, 0, 4, 0, 4, 64, 3, 0⟩ : Job)] : List Job) (.cons _ _ _ _ (a1 (a1 (a1 (a1 (a1 (av (as_lits (c := Alt.cells) (d := Alt.zero) ([(⟨2, 60⟩ : Alt)] : List Alt) rfl) (a1 (a1 (a1 (a1 (av (as_nil) (a1 (a1 (a1 (a1 (a1 (a1 (a1 (a1 (a1 .nil)))))))))))))))))))) .nil))) (ev (seen_nil) (ev (seen_nil) (ev (seen_as (as_lits (c := Usage.cells) (d := Usage.zero) ([(⟨⟨#[117]⟩, ⟨#[120]⟩, 0, 0⟩ : Usage)] : List Usage) rfl)) (e1 (e1 .nil)))))))))
theorem law27_one_sz (n : Int) : (law27_one n).sz := by
 refine ⟨by simp [law27_one], by simp [law27_one], fun y hy => ?_, by simp [law27_one], by simp [law27_one], by simp [law27_one], fun y hy => ?_⟩
 ·rcases List.mem_cons.1 hy with rfl | hy
  ·exact ⟨by decide, by decide, by decide, (by decide : (1 : Nat) <= 4294967296), by decide⟩
  ·exact absurd hy List.not_mem_nil
 ·rcases List.mem_cons.1 hy with rfl | hy
  ·exact ⟨by decide, by decide⟩
  ·exact absurd hy List.not_mem_nil
def ref17_ahead (a : Usage) (b : Usage) : Bool := ((Op.bytesLess (ByteArray.toList a.user) (ByteArray.toList b.user)) || ((ByteArray.toList a.user == ByteArray.toList b.user) && (Op.bytesLess (ByteArray.toList a.account) (ByteArray.toList b.account))))
end Go.Proofs.YtigcpfbpmnppcaaGreatDoor
namespace Go.Proofs.YtigcpfbpmnppcaaGreatDoor
set_option linter.unusedSimpArgs false
set_option linter.unusedVariables false
open Go.Fw
set_option maxRecDepth 20000
set_option maxHeartbeats 4000000
attribute [local irreducible] ACalls AMoves
def ref01_held (n : Int) (end_ : Int) : Int := bif (decide (n < 0)) then 0 else bif (decide (n > end_)) then end_ else n
def ref12_Same_g1 (b : List Node) : List Node -> Nat -> Bool
 | [], _ => true
 | x_ :: r, i => bif (!((x_.state == (b.getD i Node.zero).state) && ((x_.job == (b.getD i Node.zero).job) && ((x_.epoch == (b.getD i Node.zero).epoch) && ((x_.drain == (b.getD i Node.zero).drain) && ((x_.want == (b.getD i Node.zero).want) && ((x_.since == (b.getD i Node.zero).since) && (x_.asked == (b.getD i Node.zero).asked)))))))) then false else ref12_Same_g1 b r (i + 1)
def ref12_Same (a : List Node) (b : List Node) : Bool := bif ((a.length : Int) != (b.length : Int)) then false else ref12_Same_g1 b a 0
theorem ref12_Same_c (a : List Node) (b : List Node) (hs0 : a.length <= 4294967296) (hs1 : b.length <= 4294967296) : ∀ objs, AGives Tryz.prog 23 [nodeL a, nodeL b] objs (Bo (ref12_Same a b)) := by
 generalize hR : ref12_Same a b = R; refine ga (.cons lw (.cons lw .nil)) lx (kp 6 [10, 14, 25]) Tryz.func23 ?_; have hk0 := hs0; obtain z7 : a.length <= 4294967296 := hs0; have hk1 := hs1; obtain z8 : b.length <= 4294967296 := hs1; refine ai (fun h1 => ?_) (fun h2 => ?_)
 ·obtain rfl := foll hR (ct h1 rfl); exact ret_seen lx sr
 ·refine loop_start1 (fun (i : Nat) => ref12_Same_g1 b (List.drop i a) i = R ∧ i <= a.length) (fun i => a.length - i) (fun i => [(0, nodeL a), (1, nodeL b), (4, Bo false), (5, I (i : Int))]) (fun i => []) 0 (wk [] .nil (sl lw (sl lw (s1 (s1 .nil))))) ⟨foll hR (cf h2 rfl), by exact omA⟩ ?_; clear hR; rintro i ⟨hR, hj⟩; (try dsimp only at hR hj); refine ai (fun h3 => ?_) (fun h4 => ?_)
  ·have hlt := ltA h3; rw [drop_getD Node.zero hlt] at hR; refine dchk (by kernel_rfl) ?_; refine ai gkA ?_; refine ai gkA ?_; refine ai (fun _ => (by kernel_rfl : eqOK _ _ = true)) ?_; (repeat ((first | refine ai rfl ?_ | refine ai (fun _ => rfl) ?_))); refine ai (fun h5 => ?_) (fun h6 => ?_)
   ·obtain rfl := foll hR (ct h5 rfl); exact ret_seen lx sr
   ·exact loop_next1 (i + 1) (wk [] .nil (sl lw (sl lw (s1 (sv (turn_eq (I_eq (wr omA)) lx) .nil))))) omA ⟨foll hR (cf h6 rfl), by exact omA⟩
  ·rw [drop_none (l := a) (j := i) (geA h4)] at hR; obtain rfl := foll hR rfl; exact ret_seen lx sr
def ref17_Same_g1 (b : List Usage) : List Usage -> Nat -> Bool
 | [], _ => true
 | x_ :: r, i => bif ((((!(ByteArray.toList x_.user == ByteArray.toList (b.getD i Usage.zero).user)) || (!(ByteArray.toList x_.account == ByteArray.toList (b.getD i Usage.zero).account))) || (x_.used != (b.getD i Usage.zero).used)) || (x_.share != (b.getD i Usage.zero).share)) then false else ref17_Same_g1 b r (i + 1)
def law27_has_g1 (user : ByteArray) (account : ByteArray) : List Usage -> Nat -> Bool
 | [], _ => false
 | x_ :: r, i => bif ((ByteArray.toList x_.user == ByteArray.toList user) && (ByteArray.toList x_.account == ByteArray.toList account)) then true else law27_has_g1 user account r (i + 1)
def law27_has (l : List Usage) (user : ByteArray) (account : ByteArray) : Bool := law27_has_g1 user account l 0
theorem law27_has_c (l : List Usage) (user : ByteArray) (account : ByteArray) (hs0 : l.length <= 4294967296 ∧ (∀ y ∈ l, y.sz)) (hs1 : user.size <= 4294967296) (hs2 : account.size <= 4294967296) : ∀ objs, AGives Tryz.prog 25 [usageL l, Sg user, Sg account] objs (Bo (law27_has l user account)) := by
 generalize hR : law27_has l user account = R; refine ga (.cons lw (l1 (l1 .nil))) lx (kp 8 [11, 29]) Tryz.func25 ?_; have hk0 := hs0; obtain ⟨z7, z8⟩ : l.length <= 4294967296 ∧ (∀ y ∈ l, y.sz) := hs0; have hk1 := hs1; obtain z9 : user.size <= 4294967296 := hs1; have hk2 := hs2; obtain z10 : account.size <= 4294967296 := hs2; refine loop_start1 (fun (i : Nat) => law27_has_g1 user account (List.drop i l) i = R ∧ i <= l.length) (fun i => l.length - i) (fun i => [(0, usageL l), (1, Sg user), (2, Sg account), (6, Bo false), (7, I (i : Int))]) (fun i => []) 0 (wk [] .nil (sl lw (s1 (s1 (s1 (s1 .nil)))))) ⟨foll hR rfl, by exact omA⟩ ?_; clear hR; rintro i ⟨hR, hj⟩; (try dsimp only at hR hj); refine ai (fun h1 => ?_) (fun h2 => ?_)
 ·have hlt := ltA h1; rw [drop_getD Usage.zero hlt] at hR; have hxz : (l.getD i Usage.zero).sz := getD_sz (by first | assumption | grind) (Usage.szz _); have hkz := hxz; obtain ⟨z3, z4⟩ : ((l.getD i Usage.zero).user).size <= 4294967296 ∧ ((l.getD i Usage.zero).account).size <= 4294967296 := hxz; refine ai gkA ?_; refine ai gkA ?_; refine ai (fun h5 => ?_) (fun h6 => ?_)
  ·obtain rfl := foll hR (ct h5 rfl); exact ret_seen lx sr
  ·exact loop_next1 (i + 1) (wk [] .nil (sl lw (s1 (s1 (s1 (sv (turn_eq (I_eq (wr omA)) lx) .nil)))))) omA ⟨foll hR (cf h6 rfl), by exact omA⟩
 ·rw [drop_none (l := l) (j := i) (geA h2)] at hR; obtain rfl := foll hR rfl; exact ret_seen lx sr
end Go.Proofs.YtigcpfbpmnppcaaGreatDoor
