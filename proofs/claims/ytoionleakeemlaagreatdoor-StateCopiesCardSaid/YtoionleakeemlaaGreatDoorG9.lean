/-
  Contracts of functions, printed by a program of this repo (wip/dec). No condition beyond those that stand in each.
-/
import Derived.Test.YtoionleakeemlaaGreatDoorG8
import Derived.Test.YtoionleakeemlaaGreatDoorProg
namespace Go.Proofs.YtoionleakeemlaaGreatDoor
set_option linter.unusedSimpArgs false
set_option linter.unusedVariables false
open Go.Fw

set_option maxRecDepth 20000
set_option maxHeartbeats 4000000
attribute [local irreducible] ACalls AMoves


-- F muster/musterlaw12.Few
def law12_Few (l : List Node) : Bool :=
  (decide ((l.length : Int) ≤ 100))

theorem law12_Few_c (l : List Node) : ∀ objs, AGives Tryz.prog 24 [nodeL l] objs (Bo (law12_Few l)) := by
  generalize hR : law12_Few l = R
  refine AGives.any' (.cons lw .nil) lx (ACalls.of_cwp (kp 3 []) Tryz.func24 rfl rfl ?_)
  conv => whnf
  obtain rfl := foll hR rfl
  exact ret_seen lx sr

-- F muster/musterlaw07.Few
def law07_Few (s : Shape) : Bool :=
  (decide ((s.alts.length : Int) ≤ 100))

theorem law07_Few_c (s : Shape) : ∀ objs, AGives Tryz.prog 98 [Shape.a s] objs (Bo (law07_Few s)) := by
  generalize hR : law07_Few s = R
  refine AGives.any' (.cons (Shape.low _ _) .nil) lx (ACalls.of_cwp (kp 3 []) Tryz.func98 rfl rfl ?_)
  conv => whnf
  obtain rfl := foll hR rfl
  exact ret_seen lx sr

-- F muster/musterlaw19.Few
def law19_Few (l : List Book) : Bool :=
  (decide ((l.length : Int) ≤ 100))

theorem law19_Few_c (l : List Book) : ∀ objs, AGives Tryz.prog 26 [bookL l] objs (Bo (law19_Few l)) := by
  generalize hR : law19_Few l = R
  refine AGives.any' (.cons lw .nil) lx (ACalls.of_cwp (kp 3 []) Tryz.func26 rfl rfl ?_)
  conv => whnf
  obtain rfl := foll hR rfl
  exact ret_seen lx sr

-- F muster/musterlaw17.Few
def law17_Few_g1  : List Usage → Nat → Bool
  | [], _ =>
    true
  | x_ :: r, i =>
    bif ((decide ((ByteArray.size x_.user : Int) > 1000)) || (decide ((ByteArray.size x_.account : Int) > 1000))) then
      false
    else
      law17_Few_g1 r (i + 1)

def law17_Few (l : List Usage) : Bool :=
  bif (decide ((l.length : Int) > 300)) then
    false
  else
    law17_Few_g1 l 0

theorem law17_Few_c (l : List Usage) (hs0 : l.length ≤ 9223372036854775807 ∧ (∀ y ∈ l, y.szM)) : ∀ objs, AGives Tryz.prog 27 [usageL l] objs (Bo (law17_Few l)) := by
  generalize hR : law17_Few l = R
  refine AGives.any' (.cons lw .nil) lx (ACalls.of_cwp (kp 4 [6, 10, 28]) Tryz.func27 rfl rfl ?_)
  have hk0 := hs0
  obtain ⟨z9, z10⟩ : l.length ≤ 9223372036854775807 ∧ (∀ y ∈ l, y.szM) := hs0
  conv => whnf
  refine And.intro (fun h1 => ?_) (fun h2 => ?_)
  · conv => whnf
    have qh1 := of_decide_eq_true h1
    obtain rfl := foll hR (ct h1 rfl)
    exact ret_seen lx sr
  · conv => whnf
    have qh2 := of_decide_eq_false h2
    refine loop_start1 (fun (i : Nat) => law17_Few_g1 (List.drop i l) i = R ∧ i ≤ l.length) (fun i => l.length - i) (fun i => [(0, usageL l), (2, Bo false), (3, I (i : Int))]) (fun i => []) 0 (wk [] .nil (sl lw (s1 (s1 .nil)))) ⟨foll hR (cf h2 rfl), by exact omA⟩ ?_
    clear hR
    rintro i ⟨hR, hj⟩
    try dsimp only at hR hj
    conv => whnf
    refine And.intro (fun h3 => ?_) (fun h4 => ?_)
    · have hlt : i < l.length := by have := of_decide_eq_true h3; omega
      rw [drop_getD Usage.zero hlt] at hR
      have hxz : (l.getD i Usage.zero).szM := getD_sz (by first | assumption | grind) (Usage.szz _)
      have hkz := hxz
      obtain ⟨z5, z6⟩ : ((l.getD i Usage.zero).user).size ≤ 9223372036854775807 ∧ ((l.getD i Usage.zero).account).size ≤ 9223372036854775807 := hxz
      conv => whnf
      refine And.intro gkA ?_
      conv => whnf
      refine And.intro gkA ?_
      conv => whnf
      refine And.intro (fun h7 => ?_) (fun h8 => ?_)
      · conv => whnf
        obtain rfl := foll hR (ct h7 rfl)
        exact ret_seen lx sr
      · conv => whnf
        exact loop_next1 (i + 1) (wk [] .nil (sl lw (s1 (sv (turn_eq (I_eq (wr omA)) lx) .nil)))) omA ⟨foll hR (cf h8 rfl), by exact omA⟩
    · rw [drop_none (l := l) (j := i) (by have := of_decide_eq_false h4; omega)] at hR
      conv => whnf
      obtain rfl := foll hR rfl
      exact ret_seen lx sr

-- F muster/fleet.New
def fleet_New (n : Int) : (List Node) × Int :=
  bif ((decide (n < 1)) || (decide (n > 48))) then
    ([], 2)
  else
    ((List.replicate (Int.toNat n) Node.zero), 0)

theorem fleet_New_c (n : Int) : ∀ objs, AGives Tryz.prog 29 [I n] objs (AVal.tup [nodeL ((fleet_New n).1), I ((fleet_New n).2)]) := by
  generalize hR : fleet_New n = R
  refine AGives.any' (l1 .nil) (Low.tup' (.cons lw (l1 .nil))) (ACalls.of_cwp (kp 4 [9]) Tryz.func29 rfl rfl ?_)
  conv => whnf
  refine And.intro (fun h1 => ?_) (fun h2 => ?_)
  · conv => whnf
    obtain rfl := foll hR (ct h1 rfl)
    exact ret_seen (Low.tup' (.cons lw (l1 .nil))) (Seen.tup (ev (seen_nil) (e1 .nil)))
  · conv => whnf
    refine And.intro (mk_ok 56 rfl (by refine ⟨?_, ?_, ?_, ?_⟩ <;> exact ckA)) ?_
    conv => whnf
    obtain rfl := foll hR (cf h2 rfl)
    exact ret_seen (Low.tup' (.cons lw (l1 .nil))) (Seen.tup (ev (seen_list Node.zero _ rfl eqA lnA) (e1 .nil)))

-- F muster/sat.within[int]
def sat_within_int (n : Int) (from_ : Int) (to_ : Int) : Int :=
  bif (decide (n < from_)) then
    from_
  else
    bif (decide (n > to_)) then
      to_
    else
      n

theorem sat_within_int_c (n : Int) (from_ : Int) (to_ : Int) : ∀ objs, AGives Tryz.prog 132 [I n, I from_, I to_] objs (I (sat_within_int n from_ to_)) := by
  generalize hR : sat_within_int n from_ to_ = R
  refine AGives.any' (l1 (l1 (l1 .nil))) lx (ACalls.of_cwp (kp 7 [7, 12]) Tryz.func132 rfl rfl ?_)
  conv => whnf
  refine And.intro (fun h1 => ?_) (fun h2 => ?_)
  · conv => whnf
    have qh1 := of_decide_eq_true h1
    obtain rfl := foll hR (ct h1 rfl)
    exact ret_seen lx sr
  · conv => whnf
    have qh2 := of_decide_eq_false h2
    refine And.intro (fun h3 => ?_) (fun h4 => ?_)
    · conv => whnf
      have qh3 := of_decide_eq_true h3
      obtain rfl := foll hR (cf h2 (ct h3 rfl))
      exact ret_seen lx sr
    · conv => whnf
      have qh4 := of_decide_eq_false h4
      obtain rfl := foll hR (cf h2 (cf h4 rfl))
      exact ret_seen lx sr

-- F muster/job.tick
def job_tick (n : Int) : Bool :=
  ((decide (n ≥ 0)) && (decide (n ≤ 1000000)))

theorem job_tick_c (n : Int) : ∀ objs, AGives Tryz.prog 140 [I n] objs (Bo (job_tick n)) := by
  generalize hR : job_tick n = R
  refine AGives.any' (l1 .nil) lx (ACalls.of_cwp (kp 3 []) Tryz.func140 rfl rfl ?_)
  conv => whnf
  obtain rfl := foll hR rfl
  exact ret_seen lx sr

-- F muster/shape.fine
def shape_fine (a : Alt) : Bool :=
  ((((decide (a.nodes ≥ 1)) && (decide (a.nodes ≤ 48))) && (decide (a.wall ≥ 1))) && (decide (a.wall ≤ 100000)))

theorem shape_fine_c (a : Alt) : ∀ objs, AGives Tryz.prog 123 [Alt.a a] objs (Bo (shape_fine a)) := by
  generalize hR : shape_fine a = R
  refine AGives.any' (.cons (Alt.low _ _) .nil) lx (ACalls.of_cwp (kp 3 []) Tryz.func123 rfl rfl ?_)
  conv => whnf
  obtain rfl := foll hR rfl
  exact ret_seen lx sr

-- F slices.IndexFunc[[]muster/api.Alt,muster/api.Alt]
def slices_IndexFunc_Alt_g1 (f : Alt → Bool) : List Alt → Nat → Int
  | [], _ =>
    (-1)
  | x_ :: r, i =>
    bif (f x_) then
      (i : Int)
    else
      slices_IndexFunc_Alt_g1 f r (i + 1)

def slices_IndexFunc_Alt (s : List Alt) (f : Alt → Bool) : Int :=
  slices_IndexFunc_Alt_g1 f s 0

-- F muster/cmd.within
def cmd_within (n : Int) (from_ : Int) (to_ : Int) : Bool :=
  ((decide (n ≥ from_)) && (decide (n ≤ to_)))

theorem cmd_within_c (n : Int) (from_ : Int) (to_ : Int) : ∀ objs, AGives Tryz.prog 174 [I n, I from_, I to_] objs (Bo (cmd_within n from_ to_)) := by
  generalize hR : cmd_within n from_ to_ = R
  refine AGives.any' (l1 (l1 (l1 .nil))) lx (ACalls.of_cwp (kp 7 []) Tryz.func174 rfl rfl ?_)
  conv => whnf
  obtain rfl := foll hR rfl
  exact ret_seen lx sr

-- F muster/runes.Class
def runes_Class (r_ : Int) : Int :=
  bif ((r_ == 9) || (r_ == 32)) then
    1
  else
    bif (((((decide (r_ < 32)) || ((decide (r_ ≥ 127)) && (decide (r_ ≤ 160)))) || ((decide (r_ ≥ 55296)) && (decide (r_ ≤ 57343)))) || (r_ == 65533)) || (decide (r_ > 1114111))) then
      0
    else
      bif ((decide (r_ ≥ 48)) && (decide (r_ ≤ 57))) then
        3
      else
        bif ((((decide (r_ ≥ 97)) && (decide (r_ ≤ 122))) || ((decide (r_ ≥ 65)) && (decide (r_ ≤ 90)))) || (decide (r_ > 160))) then
          2
        else
          4

theorem runes_Class_c (r_ : Int) : ∀ objs, AGives Tryz.prog 191 [J r_] objs (I (runes_Class r_)) := by
  generalize hR : runes_Class r_ = R
  refine AGives.any' (l1 .nil) lx (ACalls.of_cwp (kp 3 [3, 10, 37, 44]) Tryz.func191 rfl rfl ?_)
  conv => whnf
  refine And.intro (fun h1 => ?_) (fun h2 => ?_)
  · conv => whnf
    obtain rfl := foll hR (ct h1 rfl)
    exact ret_seen lx sr
  · conv => whnf
    refine And.intro (fun h3 => ?_) (fun h4 => ?_)
    · conv => whnf
      obtain rfl := foll hR (cf h2 (ct h3 rfl))
      exact ret_seen lx sr
    · conv => whnf
      refine And.intro (fun h5 => ?_) (fun h6 => ?_)
      · conv => whnf
        obtain rfl := foll hR (cf h2 (cf h4 (ct h5 rfl)))
        exact ret_seen lx sr
      · conv => whnf
        refine And.intro (fun h7 => ?_) (fun h8 => ?_)
        · conv => whnf
          obtain rfl := foll hR (cf h2 (cf h4 (cf h6 (ct h7 rfl))))
          exact ret_seen lx sr
        · conv => whnf
          obtain rfl := foll hR (cf h2 (cf h4 (cf h6 (cf h8 rfl))))
          exact ret_seen lx sr

-- F (*muster/lex.reader).while
def lex_reader_while_g1 (is : Int → Bool) : Nat → LexReader → LexReader
  | 0, _ => LexReader.zero
  | m + 1, c =>
    bif ((decide (c.at_ < (c.line.length : Int))) && (is (c.line.getD (Int.toNat c.at_) 0))) then
      lex_reader_while_g1 is m { c with at_ := (w64 (c.at_ + 1)) }
    else
      c

def lex_reader_while_k1 (r_ : LexReader) (c : LexReader) : ByteArray × LexReader :=
  ((runesBytes (List.drop (Int.toNat r_.at_) (List.take (Int.toNat c.at_) c.line))), c)

def lex_reader_while (r_ : LexReader) (is : Int → Bool) : ByteArray × LexReader :=
  lex_reader_while_k1 r_ (lex_reader_while_g1 is ((Int.toNat ((r_.line.length : Int) - r_.at_)) + 1) r_)

theorem lex_while_line (is : Int → Bool) : ∀ (m : Nat) (c : LexReader), (lex_reader_while_g1 is m c).line.length ≤ c.line.length
  | 0, _ => by simp [lex_reader_while_g1, LexReader.zero]
  | m + 1, c => by
    rw [lex_reader_while_g1]
    cases ((decide (c.at_ < (c.line.length : Int))) && (is (c.line.getD (Int.toNat c.at_) 0))) with
    | true => exact lex_while_line is m { c with at_ := (w64 (c.at_ + 1)) }
    | false => exact Nat.le_refl _

theorem lex_while_sz (r_ : LexReader) (is : Int → Bool) (h : r_.line.length ≤ 400) : (lex_reader_while r_ is).1.size ≤ 4294967296 := by
  have h1 := lex_while_line is ((Int.toNat ((r_.line.length : Int) - r_.at_)) + 1) r_
  unfold lex_reader_while lex_reader_while_k1
  refine Nat.le_trans (runesBytes_size _) ?_
  simp only [List.length_drop, List.length_take]
  omega

-- F muster/runes.Lower
def runes_Lower_g1 (s : ByteArray) : Nat → Nat → List Int → (List Int)
  | 0, _, _ => []
  | m + 1, i, c =>
    bif (decide ((i : Int) < (ByteArray.size s : Int))) then
      bif ((decide ((c.getD i 0) ≥ 65)) && (decide ((c.getD i 0) ≤ 90))) then
        runes_Lower_g1 s m (i + 1) (c.set i (wu8 ((wu8 ((c.getD i 0) + 97)) - 65)))
      else
        runes_Lower_g1 s m (i + 1) c
    else
      c

def runes_Lower_k1 (c : List Int) : ByteArray :=
  (bytesStr c)

def runes_Lower (s : ByteArray) : ByteArray :=
  runes_Lower_k1 (runes_Lower_g1 s ((Int.toNat ((ByteArray.size s : Int) - (0 : Int))) + 1) 0 (bytesOf s))

theorem runes_Lower_c (s : ByteArray) (hs0 : s.size ≤ 4294967296) : ∀ objs, AGives Tryz.prog 221 [Sg s] objs (Sg (runes_Lower s)) := by
  generalize hR : runes_Lower s = R
  refine AGives.any' (l1 .nil) lx (ACalls.of_cwp (kp 6 [8, 9, 10, 11, 20]) Tryz.func221 rfl rfl ?_)
  have hk0 := hs0
  obtain z5 : s.size ≤ 4294967296 := hs0
  conv => whnf
  refine loop_start2 (fun (i : Nat) (c : List Int) => ∃ m, (Int.toNat ((ByteArray.size s : Int) - (i : Int))) < m ∧ runes_Lower_k1 (runes_Lower_g1 s m i c) = R ∧ c.length = ByteArray.size s ∧ (i : Int) ≤ (ByteArray.size s : Int)) (fun i c => (Int.toNat ((ByteArray.size s : Int) - (i : Int)))) (fun i c => [(2, Sg ⟨#[]⟩), (3, AVal.own 0 0 1 0 c.length), (8, AVal.own 0 0 1 0 c.length), (9, I (ByteArray.size s : Int)), (10, I (i : Int))]) (fun i c => [(0, AObj.row 5 1 (c.map (fun q_ => [Y q_])))]) 0 (bytesOf s) (wk [0] (tO rfl (tl eqA) .nil) (s1 (sv (to 0 lnA) (sv (to 0 lnA) (s1 (s1 .nil)))))) ⟨_, Nat.lt_succ_self _, foll hR rfl, by exact exA⟩ ?_
  clear hR
  rintro i c ⟨m, hm, hR, hx⟩
  try dsimp only at hR hm hx
  obtain ⟨m, rfl⟩ : ∃ k, m = k + 1 := ⟨m - 1, by omega⟩
  conv => whnf
  refine And.intro (fun h1 => ?_) (fun h2 => ?_)
  · conv => whnf
    have qh1 := of_decide_eq_true h1
    refine And.intro gkA ?_
    conv => whnf
    refine ⟨_, evalOp_load rfl rfl rfl (elemI_at 0 i (by first | rfl | omega) ckA) rfl, ?_⟩
    conv => whnf
    refine And.intro (fun h3 => ?_) (fun h4 => ?_)
    · conv => whnf
      refine And.intro gkA ?_
      conv => whnf
      refine ⟨_, evalOp_store rfl rfl rfl rfl (elemI_at 0 i (by first | rfl | omega) ckA) rfl rfl (set_map i (wu8 ((wu8 ((c.getD i 0) + 97)) - 65)) (by first | rfl | omega) rfl), ?_⟩
      conv => whnf
      exact loop_next2 (i + 1) (c.set i (wu8 ((wu8 ((c.getD i 0) + 97)) - 65))) (wk [0] (tO rfl (tl eqA) .nil) (s1 (sv (to 0 lnA) (sv (to 0 lnA) (s1 (sv (turn_eq (I_eq (wr omA)) lx) .nil)))))) omA ⟨m, by exact omA, foll hR (congrArg (fun p : (List Int) => runes_Lower_k1 p) (ct h1 (ct h3 rfl))), by exact exA⟩
    · conv => whnf
      exact loop_next2 (i + 1) c (wk [0] (tO rfl (tl eqA) .nil) (s1 (sv (to 0 lnA) (sv (to 0 lnA) (s1 (sv (turn_eq (I_eq (wr omA)) lx) .nil)))))) omA ⟨m, by exact omA, foll hR (congrArg (fun p : (List Int) => runes_Lower_k1 p) (ct h1 (cf h4 rfl))), by exact exA⟩
  · conv => whnf
    have qh2 := of_decide_eq_false h2
    replace hR : runes_Lower_k1 c = R := fo2 (fun p : (List Int) => runes_Lower_k1 p) (c) hR (cf h2 rfl)
    first | refine ⟨c, by exact cvA, ?_⟩ | refine ⟨_, fun _ => ⟨c, by exact cvA, rfl, rfl⟩, ?_⟩ | refine ⟨_, rfl, ⟨c, by exact cvA, Sub.refl _, rfl⟩, ?_⟩
    conv => whnf
    obtain rfl := foll hR rfl
    exact ret_seen lx sr

-- F (*muster/lex.reader).fail
def lex_reader_fail (r_ : LexReader) (at_ : Int) (e_ : Int) : LexReader :=
  bif (r_.error == 0) then
    (⟨r_.line, r_.at_, at_, e_⟩ : LexReader)
  else
    r_

theorem lex_reader_fail_c (r_ : LexReader) (at_ : Int) (e_ : Int) : AMoves Tryz.prog 213 [AVal.ptr 0 0 4 0 0, I at_, I e_] [(0, AObj.row 206 4 [[runes r_.line, I r_.at_, I r_.bad, I r_.error]])] 1 (AVal.tup []) [(0, AObj.row 206 4 [[runes ((lex_reader_fail r_ at_ e_).line), I ((lex_reader_fail r_ at_ e_).at_), I ((lex_reader_fail r_ at_ e_).bad), I ((lex_reader_fail r_ at_ e_).error)]])] := by
  generalize hR : lex_reader_fail r_ at_ e_ = R
  refine AMoves.of_cwp (kp 6 [10]) Tryz.func213 rfl rfl rfl ?_
  conv => whnf
  refine And.intro (fun h1 => ?_) (fun h2 => ?_)
  · conv => whnf
    obtain rfl := foll hR (ct h1 rfl)
    exact rq (tt [0] (tO rfl (ts LexReader.lo) .nil) t1)
  · conv => whnf
    obtain rfl := foll hR (cf h2 rfl)
    exact rq (tt [0] (tO rfl (ts LexReader.lo) .nil) t1)

-- F muster/lex.digits
def lex_digits_g1 (s : ByteArray) : List (Nat × Int) → Bool
  | [] =>
    (!(ByteArray.toList s == ByteArray.toList ⟨#[]⟩))
  | x_ :: r =>
    bif ((decide (x_.2 < 48)) || (decide (x_.2 > 57))) then
      false
    else
      lex_digits_g1 s r 

def lex_digits (s : ByteArray) : Bool :=
  lex_digits_g1 s (runeList s)

theorem lex_digits_c (s : ByteArray) (hs0 : s.size ≤ 4294967296) : ∀ objs, AGives Tryz.prog 223 [Sg s] objs (Bo (lex_digits s)) := by
  generalize hR : lex_digits s = R
  refine AGives.any' (l1 .nil) lx (ACalls.of_cwp (kp 5 [6, 7, 8, 15]) Tryz.func223 rfl rfl ?_)
  have hk0 := hs0
  obtain z5 : s.size ≤ 4294967296 := hs0
  conv => whnf
  refine loop_start1 (fun (pos : Nat) => ∃ m, ByteArray.size s - pos ≤ m ∧ lex_digits_g1 s (strRunes s m pos) = R) (fun pos => ByteArray.size s - pos) (fun pos => [(0, Sg s), (2, Bo false), (6, AVal.ptr 0 0 1 0 0)]) (fun pos => [(0, AObj.other (.strIter s pos))]) 0 (wk [0] (tO rfl (.strIter _ _) .nil) (s1 (s1 (sv (turn_ptr 0 rfl rfl) .nil)))) ⟨ByteArray.size s, by exact omA, foll hR rfl⟩ ?_
  clear hR
  rintro pos ⟨m, hm, hR⟩
  try dsimp only at hR hm
  conv => whnf
  refine And.intro (fun h1 => ?_) (fun h2 => ?_)
  · have hlt := of_decide_eq_true h1
    have hw := decode_pos s pos
    have hwe := decode_end s pos hlt
    obtain ⟨m, rfl⟩ : ∃ k, m = k + 1 := ⟨m - 1, by omega⟩
    rw [strRunes_cons h1] at hR
    conv => whnf
    refine And.intro (fun _ => ?_) (fun h => nomatch h)
    conv => whnf
    refine And.intro (fun h3 => ?_) (fun h4 => ?_)
    · conv => whnf
      obtain rfl := foll hR (ct h3 rfl)
      exact ret_seen lx sr
    · conv => whnf
      exact loop_next1 (pos + (Utf8.decode s pos).2) (wk [0] (tO rfl (.strIter _ _) .nil) (s1 (s1 (sv (turn_ptr 0 rfl rfl) .nil)))) omA ⟨m, by exact omA, foll hR (cf h4 rfl)⟩
  · rw [strRunes_nil h2] at hR
    conv => whnf
    refine And.intro (fun h => nomatch h) (fun _ => ?_)
    conv => whnf
    obtain rfl := foll hR rfl
    exact ret_seen lx sr

theorem lex_digits_g1_ok (s : ByteArray) : ∀ l, lex_digits_g1 s l = true → (!(ByteArray.toList s == ByteArray.toList ⟨#[]⟩)) = true ∧ ∀ x ∈ l, 48 ≤ x.2 ∧ x.2 ≤ 57
  | [], h => ⟨h, fun x hx => nomatch hx⟩
  | x :: r, h => by
    rw [lex_digits_g1] at h
    cases hc : ((decide (x.2 < 48)) || (decide (x.2 > 57))) with
    | true => rw [hc] at h; cases h
    | false =>
      rw [hc] at h
      obtain ⟨a, b⟩ := lex_digits_g1_ok s r h
      refine ⟨a, fun y hy => ?_⟩
      rcases List.mem_cons.1 hy with rfl | hy
      · simp only [Bool.or_eq_false_iff, decide_eq_false_iff_not] at hc
        omega
      · exact b y hy

theorem lex_digits_ok {s : ByteArray} {q : Bool} (h : (((!(lex_digits s)) || (decide ((ByteArray.size s : Int) > 9))) || q) = false) : atoiOK s := by
  simp only [Bool.or_eq_false_iff, Bool.not_eq_false', decide_eq_false_iff_not] at h
  obtain ⟨⟨h1, h2⟩, _⟩ := h
  obtain ⟨a, b⟩ := lex_digits_g1_ok s _ h1
  refine ⟨?_, by omega, fun i hi => digits_bytes s s.size 0 (by omega) b i (by omega) hi⟩
  rcases Nat.eq_zero_or_pos s.size with h0 | h0
  · have e : s = ⟨#[]⟩ := by
      apply ByteArray.ext
      exact Array.eq_empty_of_size_eq_zero h0
    rw [e] at a
    simp at a
  · exact h0

-- F internal/strconv.Atoi
def istrconv_Atoi_g1 (s : ByteArray) : Nat → Int → Nat → Int
  | 0, _, _ => 0
  | m + 1, n, i =>
    bif (decide ((i : Int) < (ByteArray.size s : Int))) then
      istrconv_Atoi_g1 s m (w64 ((w64 (n * 10)) + (w64 (wu8 (((bytesOf s).getD i 0) - 48))))) (i + 1)
    else
      n

def istrconv_Atoi_k1 (n : Int) : Int × Unit :=
  (n, ())

def istrconv_Atoi (s : ByteArray) : Int × Unit :=
  istrconv_Atoi_k1 (istrconv_Atoi_g1 s ((Int.toNat ((ByteArray.size s : Int) - (0 : Int))) + 1) 0 0)

theorem istrconv_Atoi_c (s : ByteArray) (hs0 : s.size ≤ 4294967296) (hp0 : atoiOK s) : ∀ objs, AGives Tryz.prog 239 [Sg s] objs (AVal.tup [I ((istrconv_Atoi s).1), AVal.lit .nilIface]) := by
  generalize hR : istrconv_Atoi s = R
  refine AGives.any' (l1 .nil) (Low.tup' (l1 (l1 .nil))) (ACalls.of_cwp (kp 11 [30, 39, 44, 47, 48, 49, 50, 56, 66]) Tryz.func239 rfl rfl ?_)
  have hk0 := hs0
  obtain z11 : s.size ≤ 4294967296 := hs0
  conv => whnf
  refine And.intro (fun h1 => ?_) (fun h2 => ?_)
  · conv => whnf
    refine And.intro gkA ?_
    conv => whnf
    refine And.intro gkA ?_
    conv => whnf
    refine And.intro (fun h3 => ?_) (fun h4 => ?_)
    · exfalso; exact atoi_sign hp0 h3
    · conv => whnf
      refine loop_start2 (fun (n : Int) (i : Nat) => ∃ m, (Int.toNat ((ByteArray.size s : Int) - (i : Int))) < m ∧ istrconv_Atoi_k1 (istrconv_Atoi_g1 s m n i) = R ∧ (i : Int) ≤ (ByteArray.size s : Int)) (fun n i => (Int.toNat ((ByteArray.size s : Int) - (i : Int)))) (fun n i => [(0, Sg s), (2, I 0), (3, AVal.lit .nilIface), (5, Sg s), (6, I n), (47, AVal.own 0 0 1 0 (ByteArray.size s)), (48, I (ByteArray.size s : Int)), (49, I (i : Int))]) (fun n i => [(0, AObj.row 5 1 ((bytesOf s).map (fun q_ => [Y q_])))]) 0 0 (wk [0] (tO rfl (tl eqA) .nil) (s1 (s1 (s1 (s1 (s1 (sv (to 0 lnA) (s1 (s1 .nil))))))))) ⟨_, Nat.lt_succ_self _, foll hR rfl, by exact exA⟩ ?_
      clear hR
      rintro n i ⟨m, hm, hR, hx⟩
      try dsimp only at hR hm hx
      obtain ⟨m, rfl⟩ : ∃ k, m = k + 1 := ⟨m - 1, by omega⟩
      conv => whnf
      refine And.intro (fun h5 => ?_) (fun h6 => ?_)
      · conv => whnf
        have qh5 := of_decide_eq_true h5
        refine And.intro gkA ?_
        conv => whnf
        refine ⟨_, evalOp_load rfl rfl rfl (elemI_at 0 i (by first | rfl | omega) ckA) rfl, ?_⟩
        conv => whnf
        refine And.intro (fun h7 => ?_) (fun h8 => ?_)
        · exfalso; exact atoi_digit hp0 (by omega) h7
        · conv => whnf
          have qh8 := of_decide_eq_false h8
          exact loop_next2 (w64 ((w64 (n * 10)) + (w64 (wu8 (((bytesOf s).getD i 0) - 48))))) (i + 1) (wk [0] (tO rfl (tl eqA) .nil) (s1 (s1 (s1 (s1 (s1 (sv (to 0 lnA) (s1 (sv (turn_eq (I_eq (wr omA)) lx) .nil))))))))) omA ⟨m, by exact omA, foll hR (congrArg (fun p : Int => istrconv_Atoi_k1 p) (ct h5 rfl)), by exact exA⟩
      · conv => whnf
        have qh6 := of_decide_eq_false h6
        replace hR : istrconv_Atoi_k1 n = R := fo2 (fun p : Int => istrconv_Atoi_k1 p) (n) hR (cf h6 rfl)
        refine And.intro gkA ?_
        conv => whnf
        refine And.intro (fun h9 => ?_) (fun h10 => ?_)
        · exfalso; exact atoi_minus hp0 h9
        · conv => whnf
          obtain rfl := foll hR rfl
          exact ret_seen (Low.tup' (l1 (l1 .nil))) (Seen.tup (e1 (e1 .nil)))
  · exfalso; have ha1 := hp0.1; have ha2 := hp0.2.1; simp at h2; omega

-- F unicode/utf8.appendRuneNonASCII
def utf8_appendRuneNonASCII_k1 (p_ : List Int) (r_ : Int) (i : Bool) : (List Int) :=
  bif i then
    (p_ ++ ([(wu8 (BitVec.ofInt 8 224 ||| BitVec.ofInt 8 (wu8 (Int.fdiv r_ (2 ^ (min (Int.toNat 12) 32))))).toNat), (wu8 (BitVec.ofInt 8 128 ||| BitVec.ofInt 8 (wu8 (BitVec.ofInt 8 (wu8 (Int.fdiv r_ (2 ^ (min (Int.toNat 6) 32)))) &&& BitVec.ofInt 8 63).toNat)).toNat), (wu8 (BitVec.ofInt 8 128 ||| BitVec.ofInt 8 (wu8 (BitVec.ofInt 8 (wu8 r_) &&& BitVec.ofInt 8 63).toNat)).toNat)] : List Int))
  else
    bif ((decide ((wu32 r_) > 65535)) && (decide ((wu32 r_) ≤ 1114111))) then
      (p_ ++ ([(wu8 (BitVec.ofInt 8 240 ||| BitVec.ofInt 8 (wu8 (Int.fdiv r_ (2 ^ (min (Int.toNat 18) 32))))).toNat), (wu8 (BitVec.ofInt 8 128 ||| BitVec.ofInt 8 (wu8 (BitVec.ofInt 8 (wu8 (Int.fdiv r_ (2 ^ (min (Int.toNat 12) 32)))) &&& BitVec.ofInt 8 63).toNat)).toNat), (wu8 (BitVec.ofInt 8 128 ||| BitVec.ofInt 8 (wu8 (BitVec.ofInt 8 (wu8 (Int.fdiv r_ (2 ^ (min (Int.toNat 6) 32)))) &&& BitVec.ofInt 8 63).toNat)).toNat), (wu8 (BitVec.ofInt 8 128 ||| BitVec.ofInt 8 (wu8 (BitVec.ofInt 8 (wu8 r_) &&& BitVec.ofInt 8 63).toNat)).toNat)] : List Int))
    else
      (p_ ++ ([239, 191, 189] : List Int))

def utf8_appendRuneNonASCII (p_ : List Int) (r_ : Int) : (List Int) :=
  bif (decide ((wu32 r_) ≤ 2047)) then
    (p_ ++ ([(wu8 (BitVec.ofInt 8 192 ||| BitVec.ofInt 8 (wu8 (Int.fdiv r_ (2 ^ (min (Int.toNat 6) 32))))).toNat), (wu8 (BitVec.ofInt 8 128 ||| BitVec.ofInt 8 (wu8 (BitVec.ofInt 8 (wu8 r_) &&& BitVec.ofInt 8 63).toNat)).toNat)] : List Int))
  else
    bif (decide ((wu32 r_) < 55296)) then
      utf8_appendRuneNonASCII_k1 p_ r_ (decide ((wu32 r_) < 55296))
    else
      utf8_appendRuneNonASCII_k1 p_ r_ ((decide (57343 < (wu32 r_))) && (decide ((wu32 r_) ≤ 65535)))

theorem utf8_appendRuneNonASCII_o (p_ : List Int) (r_ : Int) (hs0 : p_.length ≤ 4294967296) : AMoves Tryz.prog 238 [AVal.own 0 0 1 0 p_.length, J r_] [(0, AObj.row 5 1 (p_.map (fun q_ => [Y q_])))] 0 (AVal.own 0 0 1 0 (utf8_appendRuneNonASCII p_ r_).length) [(0, AObj.row 5 1 ((utf8_appendRuneNonASCII p_ r_).map (fun q_ => [Y q_])))] := by
  generalize hR : utf8_appendRuneNonASCII p_ r_ = R
  refine AMoves.of_cwp (kj [1000007] 6 [11, 25, 50]) Tryz.func238 rfl rfl rfl ?_
  have hk0 := hs0
  obtain z9 : p_.length ≤ 4294967296 := hs0
  conv => whnf
  refine And.intro (fun h1 => ?_) (fun h2 => ?_)
  · conv => whnf
    have qh1 := of_decide_eq_true h1
    refine And.intro gkA ?_
    conv => whnf
    refine Or.inl ?_
    conv => whnf
    first | refine ⟨app_ok 1 rfl lnA (by first | (simp; omega) | grind), ?_⟩ | refine ⟨app_nil 1 rfl (by first | (simp; omega) | grind), ?_⟩
    conv => whnf
    obtain rfl := foll hR (ct h1 rfl)
    exact rq (tt [0] (tO rfl (tl eqA) .nil) (to 0 lnA))
  · conv => whnf
    have qh2 := of_decide_eq_false h2
    refine join_start1 (fun (i : Bool) => utf8_appendRuneNonASCII_k1 p_ r_ i = R) (fun i => [(0, AVal.own 0 0 1 0 p_.length), (1, J r_), (4, AVal.lit (.slice none 0 0)), (5, V (wu32 r_)), (25, Bo i)]) (fun i => [(0, AObj.row 5 1 (p_.map (fun q_ => [Y q_])))]) ?_ ?_
    · clear hR
      rintro i hR
      try dsimp only at hR
      conv => whnf
      refine And.intro (fun h3 => ?_) (fun h4 => ?_)
      · conv => whnf
        refine And.intro gkA ?_
        conv => whnf
        refine And.intro gkA ?_
        conv => whnf
        refine Or.inl ?_
        conv => whnf
        first | refine ⟨app_ok 1 rfl lnA (by first | (simp; omega) | grind), ?_⟩ | refine ⟨app_nil 1 rfl (by first | (simp; omega) | grind), ?_⟩
        conv => whnf
        obtain rfl := foll hR (ct h3 rfl)
        exact rq (tt [0] (tO rfl (tl eqA) .nil) (to 0 lnA))
      · conv => whnf
        refine And.intro (fun h5 => ?_) (fun h6 => ?_)
        · conv => whnf
          refine And.intro gkA ?_
          conv => whnf
          refine And.intro gkA ?_
          conv => whnf
          refine And.intro gkA ?_
          conv => whnf
          refine Or.inl ?_
          conv => whnf
          first | refine ⟨app_ok 1 rfl lnA (by first | (simp; omega) | grind), ?_⟩ | refine ⟨app_nil 1 rfl (by first | (simp; omega) | grind), ?_⟩
          conv => whnf
          obtain rfl := foll hR (cf h4 (ct h5 rfl))
          exact rq (tt [0] (tO rfl (tl eqA) .nil) (to 0 lnA))
        · conv => whnf
          refine Or.inl ?_
          conv => whnf
          first | refine ⟨app_ok 1 rfl lnA (by first | (simp; omega) | grind), ?_⟩ | refine ⟨app_nil 1 rfl (by first | (simp; omega) | grind), ?_⟩
          conv => whnf
          obtain rfl := foll hR (cf h4 (cf h6 rfl))
          exact rq (tt [0] (tO rfl (tl eqA) .nil) (to 0 lnA))
    · conv => whnf
      refine And.intro (fun h7 => ?_) (fun h8 => ?_)
      · conv => whnf
        have qh7 := of_decide_eq_true h7
        exact join_here1 (decide ((wu32 r_) < 55296)) (wk [0] (tO rfl (tl eqA) .nil) (sv (to 0 lnA) (s1 (s1 (s1 (s1 .nil)))))) (foll hR (cf h2 (ct h7 rfl)))
      · conv => whnf
        have qh8 := of_decide_eq_false h8
        exact join_here1 ((decide (57343 < (wu32 r_))) && (decide ((wu32 r_) ≤ 65535))) (wk [0] (tO rfl (tl eqA) .nil) (sv (to 0 lnA) (s1 (s1 (s1 (s1 .nil)))))) (foll hR (cf h2 (cf h8 rfl)))

-- F strings.IndexByte

-- F slices.IndexFunc[[]muster/api.Dep,muster/api.Dep]
def slices_IndexFunc_Dep_g1 (f : Dep → Bool) : List Dep → Nat → Int
  | [], _ =>
    (-1)
  | x_ :: r, i =>
    bif (f x_) then
      (i : Int)
    else
      slices_IndexFunc_Dep_g1 f r (i + 1)

def slices_IndexFunc_Dep (s : List Dep) (f : Dep → Bool) : Int :=
  slices_IndexFunc_Dep_g1 f s 0

-- F slices.Equal[[]muster/api.Alt,muster/api.Alt]
def slices_Equal_Alt_g1 (s2 : List Alt) : List Alt → Nat → Bool
  | [], _ =>
    true
  | x_ :: r, i =>
    bif (!((x_.nodes == (s2.getD i Alt.zero).nodes) && (x_.wall == (s2.getD i Alt.zero).wall))) then
      false
    else
      slices_Equal_Alt_g1 s2 r (i + 1)

def slices_Equal_Alt (s1_ : List Alt) (s2 : List Alt) : Bool :=
  bif ((s1_.length : Int) != (s2.length : Int)) then
    false
  else
    slices_Equal_Alt_g1 s2 s1_ 0

theorem slices_Equal_Alt_c (s1_ : List Alt) (s2 : List Alt) (hs0 : s1_.length ≤ 4294967296) (hs1 : s2.length ≤ 4294967296) : ∀ objs, AGives Tryz.prog 148 [altL s1_, altL s2] objs (Bo (slices_Equal_Alt s1_ s2)) := by
  generalize hR : slices_Equal_Alt s1_ s2 = R
  refine AGives.any' (.cons lw (.cons lw .nil)) lx (ACalls.of_cwp (kp 6 [10, 12, 13, 14, 24]) Tryz.func148 rfl rfl ?_)
  have hk0 := hs0
  obtain z7 : s1_.length ≤ 4294967296 := hs0
  have hk1 := hs1
  obtain z8 : s2.length ≤ 4294967296 := hs1
  conv => whnf
  refine And.intro (fun h1 => ?_) (fun h2 => ?_)
  · conv => whnf
    obtain rfl := foll hR (ct h1 rfl)
    exact ret_seen lx sr
  · conv => whnf
    refine loop_start1 (fun (i : Nat) => slices_Equal_Alt_g1 s2 (List.drop i s1_) i = R ∧ i ≤ s1_.length) (fun i => s1_.length - i) (fun i => [(0, altL s1_), (1, altL s2), (4, Bo false), (12, I (s1_.length : Int)), (13, I (i : Int))]) (fun i => []) 0 (wk [] .nil (sl lw (sl lw (s1 (s1 (s1 .nil)))))) ⟨foll hR (cf h2 rfl), by exact omA⟩ ?_
    clear hR
    rintro i ⟨hR, hj⟩
    try dsimp only at hR hj
    conv => whnf
    refine And.intro (fun h3 => ?_) (fun h4 => ?_)
    · have hlt : i < s1_.length := by have := of_decide_eq_true h3; omega
      rw [drop_getD Alt.zero hlt] at hR
      conv => whnf
      refine dchk (by kernel_rfl) ?_
      conv => whnf
      refine And.intro gkA ?_
      conv => whnf
      refine And.intro gkA ?_
      conv => whnf
      refine And.intro (fun _ => (by kernel_rfl : eqOK _ _ = true)) ?_
      conv => whnf
      repeat ((first | refine And.intro rfl ?_ | refine And.intro (fun _ => rfl) ?_); conv => whnf)
      refine And.intro (fun h5 => ?_) (fun h6 => ?_)
      · conv => whnf
        obtain rfl := foll hR (ct h5 rfl)
        exact ret_seen lx sr
      · conv => whnf
        exact loop_next1 (i + 1) (wk [] .nil (sl lw (sl lw (s1 (s1 (sv (turn_eq (I_eq (wr omA)) lx) .nil)))))) omA ⟨foll hR (cf h6 rfl), by exact omA⟩
    · rw [drop_none (l := s1_) (j := i) (by have := of_decide_eq_false h4; omega)] at hR
      conv => whnf
      obtain rfl := foll hR rfl
      exact ret_seen lx sr

-- F slices.Equal[[]muster/api.Dep,muster/api.Dep]
def slices_Equal_Dep_g1 (s2 : List Dep) : List Dep → Nat → Bool
  | [], _ =>
    true
  | x_ :: r, i =>
    bif (!((x_.how == (s2.getD i Dep.zero).how) && (x_.job == (s2.getD i Dep.zero).job))) then
      false
    else
      slices_Equal_Dep_g1 s2 r (i + 1)

def slices_Equal_Dep (s1_ : List Dep) (s2 : List Dep) : Bool :=
  bif ((s1_.length : Int) != (s2.length : Int)) then
    false
  else
    slices_Equal_Dep_g1 s2 s1_ 0

theorem slices_Equal_Dep_c (s1_ : List Dep) (s2 : List Dep) (hs0 : s1_.length ≤ 4294967296) (hs1 : s2.length ≤ 4294967296) : ∀ objs, AGives Tryz.prog 122 [depL s1_, depL s2] objs (Bo (slices_Equal_Dep s1_ s2)) := by
  generalize hR : slices_Equal_Dep s1_ s2 = R
  refine AGives.any' (.cons lw (.cons lw .nil)) lx (ACalls.of_cwp (kp 6 [10, 12, 13, 14, 24]) Tryz.func122 rfl rfl ?_)
  have hk0 := hs0
  obtain z7 : s1_.length ≤ 4294967296 := hs0
  have hk1 := hs1
  obtain z8 : s2.length ≤ 4294967296 := hs1
  conv => whnf
  refine And.intro (fun h1 => ?_) (fun h2 => ?_)
  · conv => whnf
    obtain rfl := foll hR (ct h1 rfl)
    exact ret_seen lx sr
  · conv => whnf
    refine loop_start1 (fun (i : Nat) => slices_Equal_Dep_g1 s2 (List.drop i s1_) i = R ∧ i ≤ s1_.length) (fun i => s1_.length - i) (fun i => [(0, depL s1_), (1, depL s2), (4, Bo false), (12, I (s1_.length : Int)), (13, I (i : Int))]) (fun i => []) 0 (wk [] .nil (sl lw (sl lw (s1 (s1 (s1 .nil)))))) ⟨foll hR (cf h2 rfl), by exact omA⟩ ?_
    clear hR
    rintro i ⟨hR, hj⟩
    try dsimp only at hR hj
    conv => whnf
    refine And.intro (fun h3 => ?_) (fun h4 => ?_)
    · have hlt : i < s1_.length := by have := of_decide_eq_true h3; omega
      rw [drop_getD Dep.zero hlt] at hR
      conv => whnf
      refine dchk (by kernel_rfl) ?_
      conv => whnf
      refine And.intro gkA ?_
      conv => whnf
      refine And.intro gkA ?_
      conv => whnf
      refine And.intro (fun _ => (by kernel_rfl : eqOK _ _ = true)) ?_
      conv => whnf
      repeat ((first | refine And.intro rfl ?_ | refine And.intro (fun _ => rfl) ?_); conv => whnf)
      refine And.intro (fun h5 => ?_) (fun h6 => ?_)
      · conv => whnf
        obtain rfl := foll hR (ct h5 rfl)
        exact ret_seen lx sr
      · conv => whnf
        exact loop_next1 (i + 1) (wk [] .nil (sl lw (sl lw (s1 (s1 (sv (turn_eq (I_eq (wr omA)) lx) .nil)))))) omA ⟨foll hR (cf h6 rfl), by exact omA⟩
    · rw [drop_none (l := s1_) (j := i) (by have := of_decide_eq_false h4; omega)] at hR
      conv => whnf
      obtain rfl := foll hR rfl
      exact ret_seen lx sr

-- F muster/cmd.bare
def cmd_bare_k2 (c : Cmd) (i1 : Bool) : Cmd :=
  bif i1 then
    (⟨c.kind, 0, ⟨#[]⟩, ⟨#[]⟩, ⟨#[]⟩, Shape.zero, 0, false, 0, false, [], c.node, 0, 0⟩ : Cmd)
  else
    bif (c.kind == 10) then
      (⟨c.kind, 0, ⟨#[]⟩, ⟨#[]⟩, ⟨#[]⟩, Shape.zero, 0, false, c.time, c.hasTime, [], 0, c.nodes, c.from_⟩ : Cmd)
    else
      (⟨c.kind, 0, ⟨#[]⟩, ⟨#[]⟩, ⟨#[]⟩, Shape.zero, 0, false, 0, false, [], 0, 0, 0⟩ : Cmd)

def cmd_bare_k1 (c : Cmd) (i : Bool) : Cmd :=
  bif i then
    (⟨c.kind, c.job, ⟨#[]⟩, ⟨#[]⟩, ⟨#[]⟩, Shape.zero, 0, false, 0, false, [], 0, 0, 0⟩ : Cmd)
  else
    bif (c.kind == 5) then
      (⟨c.kind, c.job, ⟨#[]⟩, ⟨#[]⟩, ⟨#[]⟩, Shape.zero, c.prio, c.hasPrio, c.time, c.hasTime, [], 0, 0, 0⟩ : Cmd)
    else
      bif (c.kind == 6) then
        (⟨c.kind, c.job, ⟨#[]⟩, ⟨#[]⟩, ⟨#[]⟩, Shape.zero, 0, false, 0, false, [], 0, c.nodes, 0⟩ : Cmd)
      else
        bif (c.kind == 7) then
          cmd_bare_k2 c (c.kind == 7)
        else
          bif (c.kind == 8) then
            cmd_bare_k2 c (c.kind == 8)
          else
            cmd_bare_k2 c (c.kind == 9)

def cmd_bare (c : Cmd) : Cmd :=
  bif (c.kind == 1) then
    { c with job := 0, time := 0, hasTime := false, node := 0, nodes := 0, from_ := 0 }
  else
    bif (c.kind == 2) then
      cmd_bare_k1 c (c.kind == 2)
    else
      bif (c.kind == 3) then
        cmd_bare_k1 c (c.kind == 3)
      else
        bif (c.kind == 4) then
          cmd_bare_k1 c (c.kind == 4)
        else
          bif (c.kind == 11) then
            cmd_bare_k1 c (c.kind == 11)
          else
            cmd_bare_k1 c (c.kind == 12)

theorem cmd_bare_c (c : Cmd) (hs0 : c.sz) : ∀ objs, AGives Tryz.prog 159 [Cmd.a c] objs (Cmd.a (cmd_bare c)) := by
  generalize hR : cmd_bare c = R
  refine AGives.any' (.cons (Cmd.low _ _) .nil) (Cmd.low _ _) (ACalls.of_cwp (kj [1000011, 1000019] 4 [8, 9, 32, 41, 58, 66, 73]) Tryz.func159 rfl rfl ?_)
  have hk0 := hs0
  obtain ⟨z25, z26, z27, z28, z29⟩ : c.name.size ≤ 4294967296 ∧ c.user.size ≤ 4294967296 ∧ c.account.size ≤ 4294967296 ∧ (c.shape.alts.length ≤ 4294967296) ∧ c.after.length ≤ 4294967296 := hs0
  conv => whnf
  refine And.intro (fun h1 => ?_) (fun h2 => ?_)
  · conv => whnf
    refine dchk (by kernel_rfl) ?_
    conv => whnf
    repeat ((first | refine And.intro rfl ?_ | refine And.intro (fun _ => rfl) ?_); conv => whnf)
    try (refine dchk (by kernel_rfl) ?_; conv => whnf)
    repeat ((first | refine And.intro rfl ?_ | refine And.intro (fun _ => rfl) ?_); conv => whnf)
    obtain rfl := foll hR (ct h1 rfl)
    exact ret_seen (Cmd.low _ _) sr
  · conv => whnf
    refine join_start1 (fun (i : Bool) => cmd_bare_k1 c i = R) (fun i => [(1, AVal.ptr 0 0 18 0 0), (2, AVal.ptr 1 0 18 0 0), (3, AVal.ptr 2 0 18 0 0), (8, I c.kind), (32, Bo i)]) (fun i => [(0, AObj.row 162 18 [[I c.kind, I c.job, Sg c.name, Sg c.user, Sg c.account, I c.shape.kind, altL c.shape.alts, I c.shape.min, I c.shape.max, I c.shape.wall, I c.prio, Bo c.hasPrio, I c.time, Bo c.hasTime, depL c.after, I c.node, I c.nodes, I c.from_]]), (0, AObj.row 162 18 [[I 0, I 0, Sg ⟨#[]⟩, Sg ⟨#[]⟩, Sg ⟨#[]⟩, I 0, AVal.lit (.slice none 0 0), I 0, I 0, I 0, I 0, Bo false, I 0, Bo false, AVal.lit (.slice none 0 0), I 0, I 0, I 0]]), (0, AObj.row 162 18 [[I c.kind, I 0, Sg ⟨#[]⟩, Sg ⟨#[]⟩, Sg ⟨#[]⟩, I 0, AVal.lit (.slice none 0 0), I 0, I 0, I 0, I 0, Bo false, I 0, Bo false, AVal.lit (.slice none 0 0), I 0, I 0, I 0]])]) ?_ ?_
    · clear hR
      rintro i hR
      try dsimp only at hR
      conv => whnf
      refine And.intro (fun h3 => ?_) (fun h4 => ?_)
      · conv => whnf
        obtain rfl := foll hR (ct h3 rfl)
        exact ret_seen (Cmd.low _ _) (Seen.agg (e1 (e1 (e1 (e1 (e1 (e1 (ev (seen_nil) (e1 (e1 (e1 (e1 (e1 (e1 (e1 (ev (seen_nil) (e1 (e1 (e1 .nil)))))))))))))))))))
      · conv => whnf
        refine And.intro (fun h5 => ?_) (fun h6 => ?_)
        · conv => whnf
          refine dchk (by kernel_rfl) ?_
          conv => whnf
          repeat ((first | refine And.intro rfl ?_ | refine And.intro (fun _ => rfl) ?_); conv => whnf)
          obtain rfl := foll hR (cf h4 (ct h5 rfl))
          exact ret_seen (Cmd.low _ _) (Seen.agg (e1 (e1 (e1 (e1 (e1 (e1 (ev (seen_nil) (e1 (e1 (e1 (e1 (e1 (e1 (e1 (ev (seen_nil) (e1 (e1 (e1 .nil)))))))))))))))))))
        · conv => whnf
          refine And.intro (fun h7 => ?_) (fun h8 => ?_)
          · conv => whnf
            refine dchk (by kernel_rfl) ?_
            conv => whnf
            repeat ((first | refine And.intro rfl ?_ | refine And.intro (fun _ => rfl) ?_); conv => whnf)
            obtain rfl := foll hR (cf h4 (cf h6 (ct h7 rfl)))
            exact ret_seen (Cmd.low _ _) (Seen.agg (e1 (e1 (e1 (e1 (e1 (e1 (ev (seen_nil) (e1 (e1 (e1 (e1 (e1 (e1 (e1 (ev (seen_nil) (e1 (e1 (e1 .nil)))))))))))))))))))
          · conv => whnf
            refine join_start1 (fun (i1 : Bool) => cmd_bare_k2 c i1 = R) (fun i1 => [(1, AVal.ptr 0 0 18 0 0), (2, AVal.ptr 1 0 18 0 0), (3, AVal.ptr 2 0 18 0 0), (8, I c.kind), (66, Bo i1)]) (fun i1 => [(0, AObj.row 162 18 [[I c.kind, I c.job, Sg c.name, Sg c.user, Sg c.account, I c.shape.kind, altL c.shape.alts, I c.shape.min, I c.shape.max, I c.shape.wall, I c.prio, Bo c.hasPrio, I c.time, Bo c.hasTime, depL c.after, I c.node, I c.nodes, I c.from_]]), (0, AObj.row 162 18 [[I 0, I 0, Sg ⟨#[]⟩, Sg ⟨#[]⟩, Sg ⟨#[]⟩, I 0, AVal.lit (.slice none 0 0), I 0, I 0, I 0, I 0, Bo false, I 0, Bo false, AVal.lit (.slice none 0 0), I 0, I 0, I 0]]), (0, AObj.row 162 18 [[I c.kind, I 0, Sg ⟨#[]⟩, Sg ⟨#[]⟩, Sg ⟨#[]⟩, I 0, AVal.lit (.slice none 0 0), I 0, I 0, I 0, I 0, Bo false, I 0, Bo false, AVal.lit (.slice none 0 0), I 0, I 0, I 0]])]) ?_ ?_
            · clear hR
              rintro i1 hR
              try dsimp only at hR
              conv => whnf
              refine And.intro (fun h9 => ?_) (fun h10 => ?_)
              · conv => whnf
                obtain rfl := foll hR (ct h9 rfl)
                exact ret_seen (Cmd.low _ _) (Seen.agg (e1 (e1 (e1 (e1 (e1 (e1 (ev (seen_nil) (e1 (e1 (e1 (e1 (e1 (e1 (e1 (ev (seen_nil) (e1 (e1 (e1 .nil)))))))))))))))))))
              · conv => whnf
                refine And.intro (fun h11 => ?_) (fun h12 => ?_)
                · conv => whnf
                  refine dchk (by kernel_rfl) ?_
                  conv => whnf
                  repeat ((first | refine And.intro rfl ?_ | refine And.intro (fun _ => rfl) ?_); conv => whnf)
                  obtain rfl := foll hR (cf h10 (ct h11 rfl))
                  exact ret_seen (Cmd.low _ _) (Seen.agg (e1 (e1 (e1 (e1 (e1 (e1 (ev (seen_nil) (e1 (e1 (e1 (e1 (e1 (e1 (e1 (ev (seen_nil) (e1 (e1 (e1 .nil)))))))))))))))))))
                · conv => whnf
                  obtain rfl := foll hR (cf h10 (cf h12 rfl))
                  exact ret_seen (Cmd.low _ _) (Seen.agg (e1 (e1 (e1 (e1 (e1 (e1 (ev (seen_nil) (e1 (e1 (e1 (e1 (e1 (e1 (e1 (ev (seen_nil) (e1 (e1 (e1 .nil)))))))))))))))))))
            · conv => whnf
              refine And.intro (fun h13 => ?_) (fun h14 => ?_)
              · conv => whnf
                exact join_here1 (c.kind == 7) (wk [0, 1, 2] (tO rfl (ts Cmd.lo) (tO rfl (ts (l1 (l1 (l1 (l1 (l1 (l1 (l1 (l1 (l1 (l1 (l1 (l1 (l1 (l1 (l1 (l1 (l1 (l1 LowL.nil))))))))))))))))))) (tO rfl (ts (l1 (l1 (l1 (l1 (l1 (l1 (l1 (l1 (l1 (l1 (l1 (l1 (l1 (l1 (l1 (l1 (l1 (l1 LowL.nil))))))))))))))))))) .nil))) (sv (turn_ptr 0 rfl rfl) (sv (turn_ptr 1 rfl rfl) (sv (turn_ptr 2 rfl rfl) (s1 (s1 .nil)))))) (foll hR (cf h4 (cf h6 (cf h8 (ct h13 rfl)))))
              · conv => whnf
                refine And.intro (fun h15 => ?_) (fun h16 => ?_)
                · conv => whnf
                  exact join_here1 (c.kind == 8) (wk [0, 1, 2] (tO rfl (ts Cmd.lo) (tO rfl (ts (l1 (l1 (l1 (l1 (l1 (l1 (l1 (l1 (l1 (l1 (l1 (l1 (l1 (l1 (l1 (l1 (l1 (l1 LowL.nil))))))))))))))))))) (tO rfl (ts (l1 (l1 (l1 (l1 (l1 (l1 (l1 (l1 (l1 (l1 (l1 (l1 (l1 (l1 (l1 (l1 (l1 (l1 LowL.nil))))))))))))))))))) .nil))) (sv (turn_ptr 0 rfl rfl) (sv (turn_ptr 1 rfl rfl) (sv (turn_ptr 2 rfl rfl) (s1 (s1 .nil)))))) (foll hR (cf h4 (cf h6 (cf h8 (cf h14 (ct h15 rfl))))))
                · conv => whnf
                  exact join_here1 (c.kind == 9) (wk [0, 1, 2] (tO rfl (ts Cmd.lo) (tO rfl (ts (l1 (l1 (l1 (l1 (l1 (l1 (l1 (l1 (l1 (l1 (l1 (l1 (l1 (l1 (l1 (l1 (l1 (l1 LowL.nil))))))))))))))))))) (tO rfl (ts (l1 (l1 (l1 (l1 (l1 (l1 (l1 (l1 (l1 (l1 (l1 (l1 (l1 (l1 (l1 (l1 (l1 (l1 LowL.nil))))))))))))))))))) .nil))) (sv (turn_ptr 0 rfl rfl) (sv (turn_ptr 1 rfl rfl) (sv (turn_ptr 2 rfl rfl) (s1 (s1 .nil)))))) (foll hR (cf h4 (cf h6 (cf h8 (cf h14 (cf h16 rfl))))))
    · conv => whnf
      refine And.intro (fun h17 => ?_) (fun h18 => ?_)
      · conv => whnf
        exact join_here1 (c.kind == 2) (wk [0, 1, 2] (tO rfl (ts Cmd.lo) (tO rfl (ts (l1 (l1 (l1 (l1 (l1 (l1 (l1 (l1 (l1 (l1 (l1 (l1 (l1 (l1 (l1 (l1 (l1 (l1 LowL.nil))))))))))))))))))) (tO rfl (ts (l1 (l1 (l1 (l1 (l1 (l1 (l1 (l1 (l1 (l1 (l1 (l1 (l1 (l1 (l1 (l1 (l1 (l1 LowL.nil))))))))))))))))))) .nil))) (sv (turn_ptr 0 rfl rfl) (sv (turn_ptr 1 rfl rfl) (sv (turn_ptr 2 rfl rfl) (s1 (s1 .nil)))))) (foll hR (cf h2 (ct h17 rfl)))
      · conv => whnf
        refine And.intro (fun h19 => ?_) (fun h20 => ?_)
        · conv => whnf
          exact join_here1 (c.kind == 3) (wk [0, 1, 2] (tO rfl (ts Cmd.lo) (tO rfl (ts (l1 (l1 (l1 (l1 (l1 (l1 (l1 (l1 (l1 (l1 (l1 (l1 (l1 (l1 (l1 (l1 (l1 (l1 LowL.nil))))))))))))))))))) (tO rfl (ts (l1 (l1 (l1 (l1 (l1 (l1 (l1 (l1 (l1 (l1 (l1 (l1 (l1 (l1 (l1 (l1 (l1 (l1 LowL.nil))))))))))))))))))) .nil))) (sv (turn_ptr 0 rfl rfl) (sv (turn_ptr 1 rfl rfl) (sv (turn_ptr 2 rfl rfl) (s1 (s1 .nil)))))) (foll hR (cf h2 (cf h18 (ct h19 rfl))))
        · conv => whnf
          refine And.intro (fun h21 => ?_) (fun h22 => ?_)
          · conv => whnf
            exact join_here1 (c.kind == 4) (wk [0, 1, 2] (tO rfl (ts Cmd.lo) (tO rfl (ts (l1 (l1 (l1 (l1 (l1 (l1 (l1 (l1 (l1 (l1 (l1 (l1 (l1 (l1 (l1 (l1 (l1 (l1 LowL.nil))))))))))))))))))) (tO rfl (ts (l1 (l1 (l1 (l1 (l1 (l1 (l1 (l1 (l1 (l1 (l1 (l1 (l1 (l1 (l1 (l1 (l1 (l1 LowL.nil))))))))))))))))))) .nil))) (sv (turn_ptr 0 rfl rfl) (sv (turn_ptr 1 rfl rfl) (sv (turn_ptr 2 rfl rfl) (s1 (s1 .nil)))))) (foll hR (cf h2 (cf h18 (cf h20 (ct h21 rfl)))))
          · conv => whnf
            refine And.intro (fun h23 => ?_) (fun h24 => ?_)
            · conv => whnf
              exact join_here1 (c.kind == 11) (wk [0, 1, 2] (tO rfl (ts Cmd.lo) (tO rfl (ts (l1 (l1 (l1 (l1 (l1 (l1 (l1 (l1 (l1 (l1 (l1 (l1 (l1 (l1 (l1 (l1 (l1 (l1 LowL.nil))))))))))))))))))) (tO rfl (ts (l1 (l1 (l1 (l1 (l1 (l1 (l1 (l1 (l1 (l1 (l1 (l1 (l1 (l1 (l1 (l1 (l1 (l1 LowL.nil))))))))))))))))))) .nil))) (sv (turn_ptr 0 rfl rfl) (sv (turn_ptr 1 rfl rfl) (sv (turn_ptr 2 rfl rfl) (s1 (s1 .nil)))))) (foll hR (cf h2 (cf h18 (cf h20 (cf h22 (ct h23 rfl))))))
            · conv => whnf
              exact join_here1 (c.kind == 12) (wk [0, 1, 2] (tO rfl (ts Cmd.lo) (tO rfl (ts (l1 (l1 (l1 (l1 (l1 (l1 (l1 (l1 (l1 (l1 (l1 (l1 (l1 (l1 (l1 (l1 (l1 (l1 LowL.nil))))))))))))))))))) (tO rfl (ts (l1 (l1 (l1 (l1 (l1 (l1 (l1 (l1 (l1 (l1 (l1 (l1 (l1 (l1 (l1 (l1 (l1 (l1 LowL.nil))))))))))))))))))) .nil))) (sv (turn_ptr 0 rfl rfl) (sv (turn_ptr 1 rfl rfl) (sv (turn_ptr 2 rfl rfl) (s1 (s1 .nil)))))) (foll hR (cf h2 (cf h18 (cf h20 (cf h22 (cf h24 rfl))))))

theorem cmd_bare_k2_sz (c : Cmd) (b : Bool) : (cmd_bare_k2 c b).sz := by
  cases b <;> simp only [cmd_bare_k2, cond_true, cond_false]
  · cases (c.kind == 10) <;> simp [Cmd.sz, Cmd.szN, Shape.szN, Shape.zero, ByteArray.size]
  · simp [Cmd.sz, Cmd.szN, Shape.szN, Shape.zero, ByteArray.size]

theorem cmd_bare_k1_sz (c : Cmd) (b : Bool) : (cmd_bare_k1 c b).sz := by
  cases b <;> simp only [cmd_bare_k1, cond_true, cond_false]
  · cases (c.kind == 5) <;> simp only [cond_true, cond_false]
    · cases (c.kind == 6) <;> simp only [cond_true, cond_false]
      · cases (c.kind == 7) <;> simp only [cond_true, cond_false]
        · cases (c.kind == 8) <;> simp only [cond_true, cond_false] <;> exact cmd_bare_k2_sz _ _
        · exact cmd_bare_k2_sz _ _
      · simp [Cmd.sz, Cmd.szN, Shape.szN, Shape.zero, ByteArray.size]
    · simp [Cmd.sz, Cmd.szN, Shape.szN, Shape.zero, ByteArray.size]
  · simp [Cmd.sz, Cmd.szN, Shape.szN, Shape.zero, ByteArray.size]

theorem cmd_bare_sz (c : Cmd) (h : c.sz) : (cmd_bare c).sz := by
  unfold cmd_bare
  cases (c.kind == 1) <;> simp only [cond_true, cond_false]
  · cases (c.kind == 2) <;> simp only [cond_true, cond_false]
    · cases (c.kind == 3) <;> simp only [cond_true, cond_false]
      · cases (c.kind == 4) <;> simp only [cond_true, cond_false]
        · cases (c.kind == 11) <;> simp only [cond_true, cond_false] <;> exact cmd_bare_k1_sz _ _
        · exact cmd_bare_k1_sz _ _
      · exact cmd_bare_k1_sz _ _
    · exact cmd_bare_k1_sz _ _
  · exact h

-- F (muster/job.view).submission
def job_view_submission (v : Job) : Cmd :=
  (⟨1, 0, v.name, v.user, v.account, v.shape, v.prio, true, 0, false, v.after, 0, 0, 0⟩ : Cmd)

theorem job_view_submission_c (v : Job) : ∀ objs, AGives Tryz.prog 142 [Job.a v] objs (Cmd.a (job_view_submission v)) := by
  generalize hR : job_view_submission v = R
  refine AGives.any' (.cons (Job.low _ _) .nil) (Cmd.low _ _) (ACalls.of_cwp (kp 3 []) Tryz.func142 rfl rfl ?_)
  conv => whnf
  obtain rfl := foll hR rfl
  exact ret_seen (Cmd.low _ _) sr

-- F slices.Clone[[]muster/api.Alt,muster/api.Alt]
theorem slices_Clone_Alt_c (l : List Alt) (hs0 : l.length ≤ 4294967296) : ∀ objs, AGives Tryz.prog 94 [altL l] objs (altL l) := by
  refine AGives.any' (.cons lw .nil) lw (ACalls.of_cwp (fun _ => true) Tryz.func94 rfl rfl ?_)
  obtain z1 : l.length ≤ 4294967296 := hs0
  conv => whnf
  intro b hb
  conv => whnf
  refine And.intro (fun h1 => ?_) (fun h2 => ?_)
  · conv => whnf
    have hl : l = [] := by
      rcases l with _ | ⟨x, r⟩
      · rfl
      · exact absurd ((hb (by simp)).symm.trans h1) (by decide)
    subst hl
    exact ret_leaf (fun r : List Alt => altL r) (leaf := []) rfl lw seen_nil
  · conv => whnf
    refine ⟨app_nil 16 rfl (by first | (simp; omega) | grind), ?_⟩
    conv => whnf
    exact ret_leaf (fun r : List Alt => altL r) (leaf := l) rfl lw (seen_list Alt.zero _ rfl eqA lnA)

theorem slices_Clone_Alt_o (l : List Alt) (hs0 : l.length ≤ 4294967296) : AMoves Tryz.prog 94 [altL l] [] 0 (AVal.own 0 0 2 0 l.length) [(0, AObj.row 56 2 (l.map Alt.cells))] := by
  refine AMoves.of_cwp (fun _ => true) Tryz.func94 rfl rfl rfl ?_
  obtain z1 : l.length ≤ 4294967296 := hs0
  conv => whnf
  intro b hb
  conv => whnf
  refine And.intro (fun h1 => ?_) (fun h2 => ?_)
  · conv => whnf
    have hl : l = [] := by
      rcases l with _ | ⟨x, r⟩
      · rfl
      · exact absurd ((hb (by simp)).symm.trans h1) (by decide)
    subst hl
    refine ret_moves (fun r : List Alt => AVal.own 0 0 2 0 r.length) (fun r : List Alt => [(0, AObj.row 56 2 (r.map Alt.cells))]) (leaf := []) rfl ?_
    exact Told.pad 56 2 (told_turnI [0] rfl (by decide) (tO rfl (tl eqA) .nil) (turn_nilown 0 rfl))
  · conv => whnf
    refine ⟨app_nil 16 rfl (by first | (simp; omega) | grind), ?_⟩
    conv => whnf
    refine ret_moves (fun r : List Alt => AVal.own 0 0 2 0 r.length) (fun r : List Alt => [(0, AObj.row 56 2 (r.map Alt.cells))]) (leaf := l) rfl ?_
    exact told_turnI [0] rfl (by decide) (tO rfl (tl eqA) .nil) (to 0 lnA)


-- F math/bits.OnesCount64
def bits_OnesCount64 (x_ : Int) : Int :=
  (w64 (BitVec.ofInt 64 (w64 (wu64 ((wu64 ((wu64 ((wu64 (BitVec.ofInt 64 (wu64 ((Int.fdiv (wu64 ((wu64 (BitVec.ofInt 64 (Int.fdiv (wu64 ((wu64 (BitVec.ofInt 64 (Int.fdiv x_ (2 ^ (min (Int.toNat 1) 64))) &&& BitVec.ofInt 64 6148914691236517205).toNat) + (wu64 (BitVec.ofInt 64 x_ &&& BitVec.ofInt 64 6148914691236517205).toNat))) (2 ^ (min (Int.toNat 2) 64))) &&& BitVec.ofInt 64 3689348814741910323).toNat) + (wu64 (BitVec.ofInt 64 (wu64 ((wu64 (BitVec.ofInt 64 (Int.fdiv x_ (2 ^ (min (Int.toNat 1) 64))) &&& BitVec.ofInt 64 6148914691236517205).toNat) + (wu64 (BitVec.ofInt 64 x_ &&& BitVec.ofInt 64 6148914691236517205).toNat))) &&& BitVec.ofInt 64 3689348814741910323).toNat))) (2 ^ (min (Int.toNat 4) 64))) + (wu64 ((wu64 (BitVec.ofInt 64 (Int.fdiv (wu64 ((wu64 (BitVec.ofInt 64 (Int.fdiv x_ (2 ^ (min (Int.toNat 1) 64))) &&& BitVec.ofInt 64 6148914691236517205).toNat) + (wu64 (BitVec.ofInt 64 x_ &&& BitVec.ofInt 64 6148914691236517205).toNat))) (2 ^ (min (Int.toNat 2) 64))) &&& BitVec.ofInt 64 3689348814741910323).toNat) + (wu64 (BitVec.ofInt 64 (wu64 ((wu64 (BitVec.ofInt 64 (Int.fdiv x_ (2 ^ (min (Int.toNat 1) 64))) &&& BitVec.ofInt 64 6148914691236517205).toNat) + (wu64 (BitVec.ofInt 64 x_ &&& BitVec.ofInt 64 6148914691236517205).toNat))) &&& BitVec.ofInt 64 3689348814741910323).toNat))))) &&& BitVec.ofInt 64 1085102592571150095).toNat) + (Int.fdiv (wu64 (BitVec.ofInt 64 (wu64 ((Int.fdiv (wu64 ((wu64 (BitVec.ofInt 64 (Int.fdiv (wu64 ((wu64 (BitVec.ofInt 64 (Int.fdiv x_ (2 ^ (min (Int.toNat 1) 64))) &&& BitVec.ofInt 64 6148914691236517205).toNat) + (wu64 (BitVec.ofInt 64 x_ &&& BitVec.ofInt 64 6148914691236517205).toNat))) (2 ^ (min (Int.toNat 2) 64))) &&& BitVec.ofInt 64 3689348814741910323).toNat) + (wu64 (BitVec.ofInt 64 (wu64 ((wu64 (BitVec.ofInt 64 (Int.fdiv x_ (2 ^ (min (Int.toNat 1) 64))) &&& BitVec.ofInt 64 6148914691236517205).toNat) + (wu64 (BitVec.ofInt 64 x_ &&& BitVec.ofInt 64 6148914691236517205).toNat))) &&& BitVec.ofInt 64 3689348814741910323).toNat))) (2 ^ (min (Int.toNat 4) 64))) + (wu64 ((wu64 (BitVec.ofInt 64 (Int.fdiv (wu64 ((wu64 (BitVec.ofInt 64 (Int.fdiv x_ (2 ^ (min (Int.toNat 1) 64))) &&& BitVec.ofInt 64 6148914691236517205).toNat) + (wu64 (BitVec.ofInt 64 x_ &&& BitVec.ofInt 64 6148914691236517205).toNat))) (2 ^ (min (Int.toNat 2) 64))) &&& BitVec.ofInt 64 3689348814741910323).toNat) + (wu64 (BitVec.ofInt 64 (wu64 ((wu64 (BitVec.ofInt 64 (Int.fdiv x_ (2 ^ (min (Int.toNat 1) 64))) &&& BitVec.ofInt 64 6148914691236517205).toNat) + (wu64 (BitVec.ofInt 64 x_ &&& BitVec.ofInt 64 6148914691236517205).toNat))) &&& BitVec.ofInt 64 3689348814741910323).toNat))))) &&& BitVec.ofInt 64 1085102592571150095).toNat) (2 ^ (min (Int.toNat 8) 64))))) + (Int.fdiv (wu64 ((wu64 (BitVec.ofInt 64 (wu64 ((Int.fdiv (wu64 ((wu64 (BitVec.ofInt 64 (Int.fdiv (wu64 ((wu64 (BitVec.ofInt 64 (Int.fdiv x_ (2 ^ (min (Int.toNat 1) 64))) &&& BitVec.ofInt 64 6148914691236517205).toNat) + (wu64 (BitVec.ofInt 64 x_ &&& BitVec.ofInt 64 6148914691236517205).toNat))) (2 ^ (min (Int.toNat 2) 64))) &&& BitVec.ofInt 64 3689348814741910323).toNat) + (wu64 (BitVec.ofInt 64 (wu64 ((wu64 (BitVec.ofInt 64 (Int.fdiv x_ (2 ^ (min (Int.toNat 1) 64))) &&& BitVec.ofInt 64 6148914691236517205).toNat) + (wu64 (BitVec.ofInt 64 x_ &&& BitVec.ofInt 64 6148914691236517205).toNat))) &&& BitVec.ofInt 64 3689348814741910323).toNat))) (2 ^ (min (Int.toNat 4) 64))) + (wu64 ((wu64 (BitVec.ofInt 64 (Int.fdiv (wu64 ((wu64 (BitVec.ofInt 64 (Int.fdiv x_ (2 ^ (min (Int.toNat 1) 64))) &&& BitVec.ofInt 64 6148914691236517205).toNat) + (wu64 (BitVec.ofInt 64 x_ &&& BitVec.ofInt 64 6148914691236517205).toNat))) (2 ^ (min (Int.toNat 2) 64))) &&& BitVec.ofInt 64 3689348814741910323).toNat) + (wu64 (BitVec.ofInt 64 (wu64 ((wu64 (BitVec.ofInt 64 (Int.fdiv x_ (2 ^ (min (Int.toNat 1) 64))) &&& BitVec.ofInt 64 6148914691236517205).toNat) + (wu64 (BitVec.ofInt 64 x_ &&& BitVec.ofInt 64 6148914691236517205).toNat))) &&& BitVec.ofInt 64 3689348814741910323).toNat))))) &&& BitVec.ofInt 64 1085102592571150095).toNat) + (Int.fdiv (wu64 (BitVec.ofInt 64 (wu64 ((Int.fdiv (wu64 ((wu64 (BitVec.ofInt 64 (Int.fdiv (wu64 ((wu64 (BitVec.ofInt 64 (Int.fdiv x_ (2 ^ (min (Int.toNat 1) 64))) &&& BitVec.ofInt 64 6148914691236517205).toNat) + (wu64 (BitVec.ofInt 64 x_ &&& BitVec.ofInt 64 6148914691236517205).toNat))) (2 ^ (min (Int.toNat 2) 64))) &&& BitVec.ofInt 64 3689348814741910323).toNat) + (wu64 (BitVec.ofInt 64 (wu64 ((wu64 (BitVec.ofInt 64 (Int.fdiv x_ (2 ^ (min (Int.toNat 1) 64))) &&& BitVec.ofInt 64 6148914691236517205).toNat) + (wu64 (BitVec.ofInt 64 x_ &&& BitVec.ofInt 64 6148914691236517205).toNat))) &&& BitVec.ofInt 64 3689348814741910323).toNat))) (2 ^ (min (Int.toNat 4) 64))) + (wu64 ((wu64 (BitVec.ofInt 64 (Int.fdiv (wu64 ((wu64 (BitVec.ofInt 64 (Int.fdiv x_ (2 ^ (min (Int.toNat 1) 64))) &&& BitVec.ofInt 64 6148914691236517205).toNat) + (wu64 (BitVec.ofInt 64 x_ &&& BitVec.ofInt 64 6148914691236517205).toNat))) (2 ^ (min (Int.toNat 2) 64))) &&& BitVec.ofInt 64 3689348814741910323).toNat) + (wu64 (BitVec.ofInt 64 (wu64 ((wu64 (BitVec.ofInt 64 (Int.fdiv x_ (2 ^ (min (Int.toNat 1) 64))) &&& BitVec.ofInt 64 6148914691236517205).toNat) + (wu64 (BitVec.ofInt 64 x_ &&& BitVec.ofInt 64 6148914691236517205).toNat))) &&& BitVec.ofInt 64 3689348814741910323).toNat))))) &&& BitVec.ofInt 64 1085102592571150095).toNat) (2 ^ (min (Int.toNat 8) 64))))) (2 ^ (min (Int.toNat 16) 64))))) + (Int.fdiv (wu64 ((wu64 ((wu64 (BitVec.ofInt 64 (wu64 ((Int.fdiv (wu64 ((wu64 (BitVec.ofInt 64 (Int.fdiv (wu64 ((wu64 (BitVec.ofInt 64 (Int.fdiv x_ (2 ^ (min (Int.toNat 1) 64))) &&& BitVec.ofInt 64 6148914691236517205).toNat) + (wu64 (BitVec.ofInt 64 x_ &&& BitVec.ofInt 64 6148914691236517205).toNat))) (2 ^ (min (Int.toNat 2) 64))) &&& BitVec.ofInt 64 3689348814741910323).toNat) + (wu64 (BitVec.ofInt 64 (wu64 ((wu64 (BitVec.ofInt 64 (Int.fdiv x_ (2 ^ (min (Int.toNat 1) 64))) &&& BitVec.ofInt 64 6148914691236517205).toNat) + (wu64 (BitVec.ofInt 64 x_ &&& BitVec.ofInt 64 6148914691236517205).toNat))) &&& BitVec.ofInt 64 3689348814741910323).toNat))) (2 ^ (min (Int.toNat 4) 64))) + (wu64 ((wu64 (BitVec.ofInt 64 (Int.fdiv (wu64 ((wu64 (BitVec.ofInt 64 (Int.fdiv x_ (2 ^ (min (Int.toNat 1) 64))) &&& BitVec.ofInt 64 6148914691236517205).toNat) + (wu64 (BitVec.ofInt 64 x_ &&& BitVec.ofInt 64 6148914691236517205).toNat))) (2 ^ (min (Int.toNat 2) 64))) &&& BitVec.ofInt 64 3689348814741910323).toNat) + (wu64 (BitVec.ofInt 64 (wu64 ((wu64 (BitVec.ofInt 64 (Int.fdiv x_ (2 ^ (min (Int.toNat 1) 64))) &&& BitVec.ofInt 64 6148914691236517205).toNat) + (wu64 (BitVec.ofInt 64 x_ &&& BitVec.ofInt 64 6148914691236517205).toNat))) &&& BitVec.ofInt 64 3689348814741910323).toNat))))) &&& BitVec.ofInt 64 1085102592571150095).toNat) + (Int.fdiv (wu64 (BitVec.ofInt 64 (wu64 ((Int.fdiv (wu64 ((wu64 (BitVec.ofInt 64 (Int.fdiv (wu64 ((wu64 (BitVec.ofInt 64 (Int.fdiv x_ (2 ^ (min (Int.toNat 1) 64))) &&& BitVec.ofInt 64 6148914691236517205).toNat) + (wu64 (BitVec.ofInt 64 x_ &&& BitVec.ofInt 64 6148914691236517205).toNat))) (2 ^ (min (Int.toNat 2) 64))) &&& BitVec.ofInt 64 3689348814741910323).toNat) + (wu64 (BitVec.ofInt 64 (wu64 ((wu64 (BitVec.ofInt 64 (Int.fdiv x_ (2 ^ (min (Int.toNat 1) 64))) &&& BitVec.ofInt 64 6148914691236517205).toNat) + (wu64 (BitVec.ofInt 64 x_ &&& BitVec.ofInt 64 6148914691236517205).toNat))) &&& BitVec.ofInt 64 3689348814741910323).toNat))) (2 ^ (min (Int.toNat 4) 64))) + (wu64 ((wu64 (BitVec.ofInt 64 (Int.fdiv (wu64 ((wu64 (BitVec.ofInt 64 (Int.fdiv x_ (2 ^ (min (Int.toNat 1) 64))) &&& BitVec.ofInt 64 6148914691236517205).toNat) + (wu64 (BitVec.ofInt 64 x_ &&& BitVec.ofInt 64 6148914691236517205).toNat))) (2 ^ (min (Int.toNat 2) 64))) &&& BitVec.ofInt 64 3689348814741910323).toNat) + (wu64 (BitVec.ofInt 64 (wu64 ((wu64 (BitVec.ofInt 64 (Int.fdiv x_ (2 ^ (min (Int.toNat 1) 64))) &&& BitVec.ofInt 64 6148914691236517205).toNat) + (wu64 (BitVec.ofInt 64 x_ &&& BitVec.ofInt 64 6148914691236517205).toNat))) &&& BitVec.ofInt 64 3689348814741910323).toNat))))) &&& BitVec.ofInt 64 1085102592571150095).toNat) (2 ^ (min (Int.toNat 8) 64))))) + (Int.fdiv (wu64 ((wu64 (BitVec.ofInt 64 (wu64 ((Int.fdiv (wu64 ((wu64 (BitVec.ofInt 64 (Int.fdiv (wu64 ((wu64 (BitVec.ofInt 64 (Int.fdiv x_ (2 ^ (min (Int.toNat 1) 64))) &&& BitVec.ofInt 64 6148914691236517205).toNat) + (wu64 (BitVec.ofInt 64 x_ &&& BitVec.ofInt 64 6148914691236517205).toNat))) (2 ^ (min (Int.toNat 2) 64))) &&& BitVec.ofInt 64 3689348814741910323).toNat) + (wu64 (BitVec.ofInt 64 (wu64 ((wu64 (BitVec.ofInt 64 (Int.fdiv x_ (2 ^ (min (Int.toNat 1) 64))) &&& BitVec.ofInt 64 6148914691236517205).toNat) + (wu64 (BitVec.ofInt 64 x_ &&& BitVec.ofInt 64 6148914691236517205).toNat))) &&& BitVec.ofInt 64 3689348814741910323).toNat))) (2 ^ (min (Int.toNat 4) 64))) + (wu64 ((wu64 (BitVec.ofInt 64 (Int.fdiv (wu64 ((wu64 (BitVec.ofInt 64 (Int.fdiv x_ (2 ^ (min (Int.toNat 1) 64))) &&& BitVec.ofInt 64 6148914691236517205).toNat) + (wu64 (BitVec.ofInt 64 x_ &&& BitVec.ofInt 64 6148914691236517205).toNat))) (2 ^ (min (Int.toNat 2) 64))) &&& BitVec.ofInt 64 3689348814741910323).toNat) + (wu64 (BitVec.ofInt 64 (wu64 ((wu64 (BitVec.ofInt 64 (Int.fdiv x_ (2 ^ (min (Int.toNat 1) 64))) &&& BitVec.ofInt 64 6148914691236517205).toNat) + (wu64 (BitVec.ofInt 64 x_ &&& BitVec.ofInt 64 6148914691236517205).toNat))) &&& BitVec.ofInt 64 3689348814741910323).toNat))))) &&& BitVec.ofInt 64 1085102592571150095).toNat) + (Int.fdiv (wu64 (BitVec.ofInt 64 (wu64 ((Int.fdiv (wu64 ((wu64 (BitVec.ofInt 64 (Int.fdiv (wu64 ((wu64 (BitVec.ofInt 64 (Int.fdiv x_ (2 ^ (min (Int.toNat 1) 64))) &&& BitVec.ofInt 64 6148914691236517205).toNat) + (wu64 (BitVec.ofInt 64 x_ &&& BitVec.ofInt 64 6148914691236517205).toNat))) (2 ^ (min (Int.toNat 2) 64))) &&& BitVec.ofInt 64 3689348814741910323).toNat) + (wu64 (BitVec.ofInt 64 (wu64 ((wu64 (BitVec.ofInt 64 (Int.fdiv x_ (2 ^ (min (Int.toNat 1) 64))) &&& BitVec.ofInt 64 6148914691236517205).toNat) + (wu64 (BitVec.ofInt 64 x_ &&& BitVec.ofInt 64 6148914691236517205).toNat))) &&& BitVec.ofInt 64 3689348814741910323).toNat))) (2 ^ (min (Int.toNat 4) 64))) + (wu64 ((wu64 (BitVec.ofInt 64 (Int.fdiv (wu64 ((wu64 (BitVec.ofInt 64 (Int.fdiv x_ (2 ^ (min (Int.toNat 1) 64))) &&& BitVec.ofInt 64 6148914691236517205).toNat) + (wu64 (BitVec.ofInt 64 x_ &&& BitVec.ofInt 64 6148914691236517205).toNat))) (2 ^ (min (Int.toNat 2) 64))) &&& BitVec.ofInt 64 3689348814741910323).toNat) + (wu64 (BitVec.ofInt 64 (wu64 ((wu64 (BitVec.ofInt 64 (Int.fdiv x_ (2 ^ (min (Int.toNat 1) 64))) &&& BitVec.ofInt 64 6148914691236517205).toNat) + (wu64 (BitVec.ofInt 64 x_ &&& BitVec.ofInt 64 6148914691236517205).toNat))) &&& BitVec.ofInt 64 3689348814741910323).toNat))))) &&& BitVec.ofInt 64 1085102592571150095).toNat) (2 ^ (min (Int.toNat 8) 64))))) (2 ^ (min (Int.toNat 16) 64))))) (2 ^ (min (Int.toNat 32) 64)))))) &&& BitVec.ofInt 64 127).toNat)

theorem bits_OnesCount64_c (x_ : Int) : ∀ objs, AGives Tryz.prog 66 [U x_] objs (I (bits_OnesCount64 x_)) := by
  generalize hR : bits_OnesCount64 x_ = R
  refine AGives.any' (l1 .nil) lx (ACalls.of_cwp (kp 3 []) Tryz.func66 rfl rfl ?_)
  conv => whnf
  refine And.intro gkA ?_
  conv => whnf
  refine And.intro gkA ?_
  conv => whnf
  refine And.intro gkA ?_
  conv => whnf
  refine And.intro gkA ?_
  conv => whnf
  refine And.intro gkA ?_
  conv => whnf
  refine And.intro gkA ?_
  conv => whnf
  obtain rfl := foll hR rfl
  exact ret_seen lx sr

-- F muster/nodeset.one
def nodeset_one (n : Int) : Int :=
  (wu64 (1 * 2 ^ (min (Int.toNat (wu64 n)) 64)))

theorem nodeset_one_c (n : Int) : ∀ objs, AGives Tryz.prog 64 [I n] objs (U (nodeset_one n)) := by
  generalize hR : nodeset_one n = R
  refine AGives.any' (l1 .nil) lx (ACalls.of_cwp (kp 3 []) Tryz.func64 rfl rfl ?_)
  conv => whnf
  refine And.intro gkA ?_
  conv => whnf
  obtain rfl := foll hR rfl
  exact ret_seen lx sr

-- F muster/job.ended
def job_ended (state : Int) : Bool :=
  ((decide (state ≥ 3)) && (decide (state ≤ 7)))

theorem job_ended_c (state : Int) : ∀ objs, AGives Tryz.prog 147 [I state] objs (Bo (job_ended state)) := by
  generalize hR : job_ended state = R
  refine AGives.any' (l1 .nil) lx (ACalls.of_cwp (kp 3 []) Tryz.func147 rfl rfl ?_)
  conv => whnf
  obtain rfl := foll hR rfl
  exact ret_seen lx sr

-- F slices.IndexFunc[[]muster/api.Node,muster/api.Node]
def slices_IndexFunc_Node_g1 (f : Node → Bool) : List Node → Nat → Int
  | [], _ =>
    (-1)
  | x_ :: r, i =>
    bif (f x_) then
      (i : Int)
    else
      slices_IndexFunc_Node_g1 f r (i + 1)

def slices_IndexFunc_Node (s : List Node) (f : Node → Bool) : Int :=
  slices_IndexFunc_Node_g1 f s 0

-- F muster/fleet.tick
def fleet_tick (n : Int) : Bool :=
  ((decide (n ≥ 0)) && (decide (n ≤ 1000000)))

theorem fleet_tick_c (n : Int) : ∀ objs, AGives Tryz.prog 152 [I n] objs (Bo (fleet_tick n)) := by
  generalize hR : fleet_tick n = R
  refine AGives.any' (l1 .nil) lx (ACalls.of_cwp (kp 3 []) Tryz.func152 rfl rfl ?_)
  conv => whnf
  obtain rfl := foll hR rfl
  exact ret_seen lx sr

-- F slices.Index[[]int,int]
def slices_Index_int_g1 (v : Int) : List Int → Nat → Int
  | [], _ =>
    (-1)
  | x_ :: r, i =>
    bif (v == x_) then
      (i : Int)
    else
      slices_Index_int_g1 v r (i + 1)

def slices_Index_int (s : List Int) (v : Int) : Int :=
  slices_Index_int_g1 v s 0

theorem slices_Index_int_c (s : List Int) (v : Int) (hs0 : s.length ≤ 4294967296) : ∀ objs, AGives Tryz.prog 163 [ints s, I v] objs (I (slices_Index_int s v)) := by
  generalize hR : slices_Index_int s v = R
  refine AGives.any' (.cons lw (l1 .nil)) lx (ACalls.of_cwp (kp 6 [7, 8, 9, 16]) Tryz.func163 rfl rfl ?_)
  have hk0 := hs0
  obtain z5 : s.length ≤ 4294967296 := hs0
  conv => whnf
  refine loop_start1 (fun (i : Nat) => slices_Index_int_g1 v (List.drop i s) i = R ∧ i ≤ s.length) (fun i => s.length - i) (fun i => [(0, ints s), (1, I v), (4, I 0), (7, I (s.length : Int)), (8, I (i : Int))]) (fun i => []) 0 (wk [] .nil (sl lw (s1 (s1 (s1 (s1 .nil)))))) ⟨foll hR rfl, by exact omA⟩ ?_
  clear hR
  rintro i ⟨hR, hj⟩
  try dsimp only at hR hj
  conv => whnf
  refine And.intro (fun h1 => ?_) (fun h2 => ?_)
  · have hlt : i < s.length := by have := of_decide_eq_true h1; omega
    rw [drop_getD 0 hlt] at hR
    conv => whnf
    refine And.intro gkA ?_
    conv => whnf
    refine And.intro (fun h3 => ?_) (fun h4 => ?_)
    · conv => whnf
      obtain rfl := foll hR (ct h3 rfl)
      exact ret_seen lx sr
    · conv => whnf
      exact loop_next1 (i + 1) (wk [] .nil (sl lw (s1 (s1 (s1 (sv (turn_eq (I_eq (wr omA)) lx) .nil)))))) omA ⟨foll hR (cf h4 rfl), by exact omA⟩
  · rw [drop_none (l := s) (j := i) (by have := of_decide_eq_false h2; omega)] at hR
    conv => whnf
    obtain rfl := foll hR rfl
    exact ret_seen lx sr

-- F muster/book.fine
def book_fine (b : Book) : Bool :=
  (((((((decide (b.id ≥ 1)) && (decide (b.id ≤ 99999))) && (decide (b.from_ ≥ 0))) && (decide (b.to > b.from_))) && (decide (b.to ≤ 1000000))) && (decide (b.nodes ≥ 1))) && (decide (b.nodes ≤ 48)))

theorem book_fine_c (b : Book) : ∀ objs, AGives Tryz.prog 131 [Book.a b] objs (Bo (book_fine b)) := by
  generalize hR : book_fine b = R
  refine AGives.any' (.cons (Book.low _ _) .nil) lx (ACalls.of_cwp (kp 3 []) Tryz.func131 rfl rfl ?_)
  conv => whnf
  obtain rfl := foll hR rfl
  exact ret_seen lx sr

-- F muster/ledger.name
def ledger_name (s : ByteArray) : Bool :=
  ((decide ((ByteArray.size s : Int) ≥ 1)) && (decide ((ByteArray.size s : Int) ≤ 64)))

theorem ledger_name_c (s : ByteArray) : ∀ objs, AGives Tryz.prog 100 [Sg s] objs (Bo (ledger_name s)) := by
  generalize hR : ledger_name s = R
  refine AGives.any' (l1 .nil) lx (ACalls.of_cwp (kp 3 []) Tryz.func100 rfl rfl ?_)
  conv => whnf
  obtain rfl := foll hR rfl
  exact ret_seen lx sr

-- F cmp.Or[int]
def cmp_Or_int_g1  : List Int → Nat → Int
  | [], _ =>
    0
  | x_ :: r, i =>
    bif (x_ != 0) then
      x_
    else
      cmp_Or_int_g1 r (i + 1)

def cmp_Or_int (vals : List Int) : Int :=
  cmp_Or_int_g1 vals 0

theorem cmp_Or_int_c (vals : List Int) (hs0 : vals.length ≤ 4294967296) : ∀ objs, AGives Tryz.prog 133 [ints vals] objs (I (cmp_Or_int vals)) := by
  generalize hR : cmp_Or_int vals = R
  refine AGives.any' (.cons lw .nil) lx (ACalls.of_cwp (kp 6 [6, 7, 8, 9, 14]) Tryz.func133 rfl rfl ?_)
  have hk0 := hs0
  obtain z5 : vals.length ≤ 4294967296 := hs0
  conv => whnf
  refine loop_start1 (fun (i : Nat) => cmp_Or_int_g1 (List.drop i vals) i = R ∧ i ≤ vals.length) (fun i => vals.length - i) (fun i => [(2, I 0), (3, I 0), (6, ints vals), (7, I (vals.length : Int)), (8, I (i : Int))]) (fun i => []) 0 (wk [] .nil (s1 (s1 (sl lw (s1 (s1 .nil)))))) ⟨foll hR rfl, by exact omA⟩ ?_
  clear hR
  rintro i ⟨hR, hj⟩
  try dsimp only at hR hj
  conv => whnf
  refine And.intro (fun h1 => ?_) (fun h2 => ?_)
  · have hlt : i < vals.length := by have := of_decide_eq_true h1; omega
    rw [drop_getD 0 hlt] at hR
    conv => whnf
    refine And.intro gkA ?_
    conv => whnf
    refine And.intro (fun h3 => ?_) (fun h4 => ?_)
    · conv => whnf
      obtain rfl := foll hR (ct h3 rfl)
      exact ret_seen lx sr
    · conv => whnf
      exact loop_next1 (i + 1) (wk [] .nil (s1 (s1 (sl lw (s1 (sv (turn_eq (I_eq (wr omA)) lx) .nil)))))) omA ⟨foll hR (cf h4 rfl), by exact omA⟩
  · rw [drop_none (l := vals) (j := i) (by have := of_decide_eq_false h2; omega)] at hR
    conv => whnf
    obtain rfl := foll hR rfl
    exact ret_seen lx sr

-- F cmp.isNaN[string]
def cmp_isNaN_string (x_ : ByteArray) : Bool :=
  (!(ByteArray.toList x_ == ByteArray.toList x_))

theorem cmp_isNaN_string_c (x_ : ByteArray) : ∀ objs, AGives Tryz.prog 154 [Sg x_] objs (Bo (cmp_isNaN_string x_)) := by
  generalize hR : cmp_isNaN_string x_ = R
  refine AGives.any' (l1 .nil) lx (ACalls.of_cwp (kp 3 []) Tryz.func154 rfl rfl ?_)
  conv => whnf
  obtain rfl := foll hR rfl
  exact ret_seen lx sr

-- F muster/state.next
def state_next (n : Int) (last : Int) : Bool :=
  (((decide (n ≥ 1)) && (decide (n ≤ 100000))) && (decide (n > last)))

theorem state_next_c (n : Int) (last : Int) : ∀ objs, AGives Tryz.prog 37 [I n, I last] objs (Bo (state_next n last)) := by
  generalize hR : state_next n last = R
  refine AGives.any' (l1 (l1 .nil)) lx (ACalls.of_cwp (kp 5 []) Tryz.func37 rfl rfl ?_)
  conv => whnf
  obtain rfl := foll hR rfl
  exact ret_seen lx sr

-- F slices.IndexFunc[[]muster/api.Resize,muster/api.Resize]
def slices_IndexFunc_Resize_g1 (f : Resize → Bool) : List Resize → Nat → Int
  | [], _ =>
    (-1)
  | x_ :: r, i =>
    bif (f x_) then
      (i : Int)
    else
      slices_IndexFunc_Resize_g1 f r (i + 1)

def slices_IndexFunc_Resize (s : List Resize) (f : Resize → Bool) : Int :=
  slices_IndexFunc_Resize_g1 f s 0

-- F muster/table.known
def table_known (id_ : Int) : Bool :=
  ((decide (id_ ≥ 1)) && (decide (id_ ≤ 99999)))

theorem table_known_c (id_ : Int) : ∀ objs, AGives Tryz.prog 84 [I id_] objs (Bo (table_known id_)) := by
  generalize hR : table_known id_ = R
  refine AGives.any' (l1 .nil) lx (ACalls.of_cwp (kp 3 []) Tryz.func84 rfl rfl ?_)
  conv => whnf
  obtain rfl := foll hR rfl
  exact ret_seen lx sr

-- F slices.BinarySearchFunc[[]muster/api.Job,muster/api.Job,int]
def slices_BinarySearchFunc_int_g1 (x_ : List Job) (target : Int) (cmp : Job → Int → Int) : Nat → Int → Int → Int × Int
  | 0, _, _ => (0, 0)
  | m + 1, i, j =>
    bif (decide (i < j)) then
      bif (decide ((cmp (x_.getD (Int.toNat (w64 (Int.fdiv (wu64 (w64 (i + j))) (2 ^ (min (Int.toNat 1) 64))))) Job.zero) target) < 0)) then
        slices_BinarySearchFunc_int_g1 x_ target cmp m (w64 ((w64 (Int.fdiv (wu64 (w64 (i + j))) (2 ^ (min (Int.toNat 1) 64)))) + 1)) j
      else
        slices_BinarySearchFunc_int_g1 x_ target cmp m i (w64 (Int.fdiv (wu64 (w64 (i + j))) (2 ^ (min (Int.toNat 1) 64))))
    else
      (i, j)

def slices_BinarySearchFunc_int_k1 (x_ : List Job) (target : Int) (cmp : Job → Int → Int) (i : Int) (j : Int) : Int × Bool :=
  (i, ((decide (i < (x_.length : Int))) && ((cmp (x_.getD (Int.toNat i) Job.zero) target) == 0)))

def slices_BinarySearchFunc_int (x_ : List Job) (target : Int) (cmp : Job → Int → Int) : Int × Bool :=
  slices_BinarySearchFunc_int_k1 x_ target cmp ((slices_BinarySearchFunc_int_g1 x_ target cmp ((Int.toNat ((x_.length : Int) - 0)) + 1) 0 (x_.length : Int)).1) ((slices_BinarySearchFunc_int_g1 x_ target cmp ((Int.toNat ((x_.length : Int) - 0)) + 1) 0 (x_.length : Int)).2)

-- F muster/table.copied[muster/api.Job]
def table_copied_Job (l : List Job) : (List Job) :=
  l

theorem table_copied_Job_c (l : List Job) (hs0 : l.length ≤ 4294967296 ∧ (∀ y ∈ l, y.sz)) : ∀ objs, AGives Tryz.prog 118 [jobL l] objs (jobL l) := by
  generalize hR : table_copied_Job l = R
  refine AGives.any' (.cons lw .nil) lw (ACalls.of_cwp (kp 3 []) Tryz.func118 rfl rfl ?_)
  have hk0 := hs0
  obtain ⟨z1, z2⟩ : l.length ≤ 4294967296 ∧ (∀ y ∈ l, y.sz) := hs0
  conv => whnf
  refine And.intro gkA ?_
  conv => whnf
  first | refine ⟨app_ok 216 rfl lnA (by first | (simp; omega) | grind), ?_⟩ | refine ⟨app_nil 216 rfl (by first | (simp; omega) | grind), ?_⟩
  conv => whnf
  obtain rfl := foll hR rfl
  exact ret_seen lw (seen_list Job.zero _ rfl eqA lnA)

theorem table_copied_Job_o (l : List Job) (hs0 : l.length ≤ 4294967296 ∧ (∀ y ∈ l, y.sz)) : AMoves Tryz.prog 118 [jobL l] [] 0 (AVal.own 0 0 20 0 l.length) [(0, AObj.row 54 20 (l.map Job.cells))] := by
  generalize hR : table_copied_Job l = R
  refine AMoves.of_cwp (kp 3 []) Tryz.func118 rfl rfl rfl ?_
  have hk0 := hs0
  obtain ⟨z1, z2⟩ : l.length ≤ 4294967296 ∧ (∀ y ∈ l, y.sz) := hs0
  conv => whnf
  refine And.intro gkA ?_
  conv => whnf
  first | refine ⟨app_ok 216 rfl lnA (by first | (simp; omega) | grind), ?_⟩ | refine ⟨app_nil 216 rfl (by first | (simp; omega) | grind), ?_⟩
  conv => whnf
  obtain rfl := foll hR rfl
  exact rq (tt [0] (tO rfl (tl eqA) .nil) (to 0 lnA))

-- F muster/table.copied[muster/api.Alt]
def table_copied_Alt (l : List Alt) : (List Alt) :=
  l

theorem table_copied_Alt_c (l : List Alt) (hs0 : l.length ≤ 4294967296) : ∀ objs, AGives Tryz.prog 119 [altL l] objs (altL l) := by
  generalize hR : table_copied_Alt l = R
  refine AGives.any' (.cons lw .nil) lw (ACalls.of_cwp (kp 3 []) Tryz.func119 rfl rfl ?_)
  have hk0 := hs0
  obtain z1 : l.length ≤ 4294967296 := hs0
  conv => whnf
  refine And.intro gkA ?_
  conv => whnf
  first | refine ⟨app_ok 16 rfl lnA (by first | (simp; omega) | grind), ?_⟩ | refine ⟨app_nil 16 rfl (by first | (simp; omega) | grind), ?_⟩
  conv => whnf
  obtain rfl := foll hR rfl
  exact ret_seen lw (seen_list Alt.zero _ rfl eqA lnA)

-- F muster/table.copied[muster/api.Dep]
def table_copied_Dep (l : List Dep) : (List Dep) :=
  l

theorem table_copied_Dep_c (l : List Dep) (hs0 : l.length ≤ 4294967296) : ∀ objs, AGives Tryz.prog 120 [depL l] objs (depL l) := by
  generalize hR : table_copied_Dep l = R
  refine AGives.any' (.cons lw .nil) lw (ACalls.of_cwp (kp 3 []) Tryz.func120 rfl rfl ?_)
  have hk0 := hs0
  obtain z1 : l.length ≤ 4294967296 := hs0
  conv => whnf
  refine And.intro gkA ?_
  conv => whnf
  first | refine ⟨app_ok 16 rfl lnA (by first | (simp; omega) | grind), ?_⟩ | refine ⟨app_nil 16 rfl (by first | (simp; omega) | grind), ?_⟩
  conv => whnf
  obtain rfl := foll hR rfl
  exact ret_seen lw (seen_list Dep.zero _ rfl eqA lnA)

-- F slices.Equal[[]muster/api.Resize,muster/api.Resize]
def slices_Equal_Resize_g1 (s2 : List Resize) : List Resize → Nat → Bool
  | [], _ =>
    true
  | x_ :: r, i =>
    bif (!((x_.job == (s2.getD i Resize.zero).job) && ((x_.grow == (s2.getD i Resize.zero).grow) && ((x_.nodes == (s2.getD i Resize.zero).nodes) && ((x_.said == (s2.getD i Resize.zero).said) && (x_.since == (s2.getD i Resize.zero).since)))))) then
      false
    else
      slices_Equal_Resize_g1 s2 r (i + 1)

def slices_Equal_Resize (s1_ : List Resize) (s2 : List Resize) : Bool :=
  bif ((s1_.length : Int) != (s2.length : Int)) then
    false
  else
    slices_Equal_Resize_g1 s2 s1_ 0

theorem slices_Equal_Resize_c (s1_ : List Resize) (s2 : List Resize) (hs0 : s1_.length ≤ 4294967296) (hs1 : s2.length ≤ 4294967296) : ∀ objs, AGives Tryz.prog 52 [resizeL s1_, resizeL s2] objs (Bo (slices_Equal_Resize s1_ s2)) := by
  generalize hR : slices_Equal_Resize s1_ s2 = R
  refine AGives.any' (.cons lw (.cons lw .nil)) lx (ACalls.of_cwp (kp 6 [10, 12, 13, 14, 24]) Tryz.func52 rfl rfl ?_)
  have hk0 := hs0
  obtain z7 : s1_.length ≤ 4294967296 := hs0
  have hk1 := hs1
  obtain z8 : s2.length ≤ 4294967296 := hs1
  conv => whnf
  refine And.intro (fun h1 => ?_) (fun h2 => ?_)
  · conv => whnf
    obtain rfl := foll hR (ct h1 rfl)
    exact ret_seen lx sr
  · conv => whnf
    refine loop_start1 (fun (i : Nat) => slices_Equal_Resize_g1 s2 (List.drop i s1_) i = R ∧ i ≤ s1_.length) (fun i => s1_.length - i) (fun i => [(0, resizeL s1_), (1, resizeL s2), (4, Bo false), (12, I (s1_.length : Int)), (13, I (i : Int))]) (fun i => []) 0 (wk [] .nil (sl lw (sl lw (s1 (s1 (s1 .nil)))))) ⟨foll hR (cf h2 rfl), by exact omA⟩ ?_
    clear hR
    rintro i ⟨hR, hj⟩
    try dsimp only at hR hj
    conv => whnf
    refine And.intro (fun h3 => ?_) (fun h4 => ?_)
    · have hlt : i < s1_.length := by have := of_decide_eq_true h3; omega
      rw [drop_getD Resize.zero hlt] at hR
      conv => whnf
      refine dchk (by kernel_rfl) ?_
      conv => whnf
      refine And.intro gkA ?_
      conv => whnf
      refine And.intro gkA ?_
      conv => whnf
      refine And.intro (fun _ => (by kernel_rfl : eqOK _ _ = true)) ?_
      conv => whnf
      repeat ((first | refine And.intro rfl ?_ | refine And.intro (fun _ => rfl) ?_); conv => whnf)
      refine And.intro (fun h5 => ?_) (fun h6 => ?_)
      · conv => whnf
        obtain rfl := foll hR (ct h5 rfl)
        exact ret_seen lx sr
      · conv => whnf
        exact loop_next1 (i + 1) (wk [] .nil (sl lw (sl lw (s1 (s1 (sv (turn_eq (I_eq (wr omA)) lx) .nil)))))) omA ⟨foll hR (cf h6 rfl), by exact omA⟩
    · rw [drop_none (l := s1_) (j := i) (by have := of_decide_eq_false h4; omega)] at hR
      conv => whnf
      obtain rfl := foll hR rfl
      exact ret_seen lx sr

-- F slices.Equal[[]muster/api.Node,muster/api.Node]
def slices_Equal_Node_g1 (s2 : List Node) : List Node → Nat → Bool
  | [], _ =>
    true
  | x_ :: r, i =>
    bif (!((x_.state == (s2.getD i Node.zero).state) && ((x_.job == (s2.getD i Node.zero).job) && ((x_.epoch == (s2.getD i Node.zero).epoch) && ((x_.drain == (s2.getD i Node.zero).drain) && ((x_.want == (s2.getD i Node.zero).want) && ((x_.since == (s2.getD i Node.zero).since) && (x_.asked == (s2.getD i Node.zero).asked)))))))) then
      false
    else
      slices_Equal_Node_g1 s2 r (i + 1)

def slices_Equal_Node (s1_ : List Node) (s2 : List Node) : Bool :=
  bif ((s1_.length : Int) != (s2.length : Int)) then
    false
  else
    slices_Equal_Node_g1 s2 s1_ 0

theorem slices_Equal_Node_c (s1_ : List Node) (s2 : List Node) (hs0 : s1_.length ≤ 4294967296) (hs1 : s2.length ≤ 4294967296) : ∀ objs, AGives Tryz.prog 88 [nodeL s1_, nodeL s2] objs (Bo (slices_Equal_Node s1_ s2)) := by
  generalize hR : slices_Equal_Node s1_ s2 = R
  refine AGives.any' (.cons lw (.cons lw .nil)) lx (ACalls.of_cwp (kp 6 [10, 12, 13, 14, 24]) Tryz.func88 rfl rfl ?_)
  have hk0 := hs0
  obtain z7 : s1_.length ≤ 4294967296 := hs0
  have hk1 := hs1
  obtain z8 : s2.length ≤ 4294967296 := hs1
  conv => whnf
  refine And.intro (fun h1 => ?_) (fun h2 => ?_)
  · conv => whnf
    obtain rfl := foll hR (ct h1 rfl)
    exact ret_seen lx sr
  · conv => whnf
    refine loop_start1 (fun (i : Nat) => slices_Equal_Node_g1 s2 (List.drop i s1_) i = R ∧ i ≤ s1_.length) (fun i => s1_.length - i) (fun i => [(0, nodeL s1_), (1, nodeL s2), (4, Bo false), (12, I (s1_.length : Int)), (13, I (i : Int))]) (fun i => []) 0 (wk [] .nil (sl lw (sl lw (s1 (s1 (s1 .nil)))))) ⟨foll hR (cf h2 rfl), by exact omA⟩ ?_
    clear hR
    rintro i ⟨hR, hj⟩
    try dsimp only at hR hj
    conv => whnf
    refine And.intro (fun h3 => ?_) (fun h4 => ?_)
    · have hlt : i < s1_.length := by have := of_decide_eq_true h3; omega
      rw [drop_getD Node.zero hlt] at hR
      conv => whnf
      refine dchk (by kernel_rfl) ?_
      conv => whnf
      refine And.intro gkA ?_
      conv => whnf
      refine And.intro gkA ?_
      conv => whnf
      refine And.intro (fun _ => (by kernel_rfl : eqOK _ _ = true)) ?_
      conv => whnf
      repeat ((first | refine And.intro rfl ?_ | refine And.intro (fun _ => rfl) ?_); conv => whnf)
      refine And.intro (fun h5 => ?_) (fun h6 => ?_)
      · conv => whnf
        obtain rfl := foll hR (ct h5 rfl)
        exact ret_seen lx sr
      · conv => whnf
        exact loop_next1 (i + 1) (wk [] .nil (sl lw (sl lw (s1 (s1 (sv (turn_eq (I_eq (wr omA)) lx) .nil)))))) omA ⟨foll hR (cf h6 rfl), by exact omA⟩
    · rw [drop_none (l := s1_) (j := i) (by have := of_decide_eq_false h4; omega)] at hR
      conv => whnf
      obtain rfl := foll hR rfl
      exact ret_seen lx sr

-- F slices.EqualFunc[[]muster/api.Job,[]muster/api.Job,muster/api.Job,muster/api.Job]
def slices_EqualFunc_Job_g1 (s2 : List Job) (eq : Job → Job → Bool) : List Job → Nat → Bool
  | [], _ =>
    true
  | x_ :: r, i =>
    bif (!(eq x_ (s2.getD i Job.zero))) then
      false
    else
      slices_EqualFunc_Job_g1 s2 eq r (i + 1)

def slices_EqualFunc_Job (s1_ : List Job) (s2 : List Job) (eq : Job → Job → Bool) : Bool :=
  bif ((s1_.length : Int) != (s2.length : Int)) then
    false
  else
    slices_EqualFunc_Job_g1 s2 eq s1_ 0

-- F slices.Equal[[]muster/api.Book,muster/api.Book]
def slices_Equal_Book_g1 (s2 : List Book) : List Book → Nat → Bool
  | [], _ =>
    true
  | x_ :: r, i =>
    bif (!((x_.id == (s2.getD i Book.zero).id) && ((x_.from_ == (s2.getD i Book.zero).from_) && ((x_.to == (s2.getD i Book.zero).to) && (x_.nodes == (s2.getD i Book.zero).nodes))))) then
      false
    else
      slices_Equal_Book_g1 s2 r (i + 1)

def slices_Equal_Book (s1_ : List Book) (s2 : List Book) : Bool :=
  bif ((s1_.length : Int) != (s2.length : Int)) then
    false
  else
    slices_Equal_Book_g1 s2 s1_ 0

theorem slices_Equal_Book_c (s1_ : List Book) (s2 : List Book) (hs0 : s1_.length ≤ 4294967296) (hs1 : s2.length ≤ 4294967296) : ∀ objs, AGives Tryz.prog 91 [bookL s1_, bookL s2] objs (Bo (slices_Equal_Book s1_ s2)) := by
  generalize hR : slices_Equal_Book s1_ s2 = R
  refine AGives.any' (.cons lw (.cons lw .nil)) lx (ACalls.of_cwp (kp 6 [10, 12, 13, 14, 24]) Tryz.func91 rfl rfl ?_)
  have hk0 := hs0
  obtain z7 : s1_.length ≤ 4294967296 := hs0
  have hk1 := hs1
  obtain z8 : s2.length ≤ 4294967296 := hs1
  conv => whnf
  refine And.intro (fun h1 => ?_) (fun h2 => ?_)
  · conv => whnf
    obtain rfl := foll hR (ct h1 rfl)
    exact ret_seen lx sr
  · conv => whnf
    refine loop_start1 (fun (i : Nat) => slices_Equal_Book_g1 s2 (List.drop i s1_) i = R ∧ i ≤ s1_.length) (fun i => s1_.length - i) (fun i => [(0, bookL s1_), (1, bookL s2), (4, Bo false), (12, I (s1_.length : Int)), (13, I (i : Int))]) (fun i => []) 0 (wk [] .nil (sl lw (sl lw (s1 (s1 (s1 .nil)))))) ⟨foll hR (cf h2 rfl), by exact omA⟩ ?_
    clear hR
    rintro i ⟨hR, hj⟩
    try dsimp only at hR hj
    conv => whnf
    refine And.intro (fun h3 => ?_) (fun h4 => ?_)
    · have hlt : i < s1_.length := by have := of_decide_eq_true h3; omega
      rw [drop_getD Book.zero hlt] at hR
      conv => whnf
      refine dchk (by kernel_rfl) ?_
      conv => whnf
      refine And.intro gkA ?_
      conv => whnf
      refine And.intro gkA ?_
      conv => whnf
      refine And.intro (fun _ => (by kernel_rfl : eqOK _ _ = true)) ?_
      conv => whnf
      repeat ((first | refine And.intro rfl ?_ | refine And.intro (fun _ => rfl) ?_); conv => whnf)
      refine And.intro (fun h5 => ?_) (fun h6 => ?_)
      · conv => whnf
        obtain rfl := foll hR (ct h5 rfl)
        exact ret_seen lx sr
      · conv => whnf
        exact loop_next1 (i + 1) (wk [] .nil (sl lw (sl lw (s1 (s1 (sv (turn_eq (I_eq (wr omA)) lx) .nil)))))) omA ⟨foll hR (cf h6 rfl), by exact omA⟩
    · rw [drop_none (l := s1_) (j := i) (by have := of_decide_eq_false h4; omega)] at hR
      conv => whnf
      obtain rfl := foll hR rfl
      exact ret_seen lx sr

-- F slices.Equal[[]muster/api.Usage,muster/api.Usage]
def slices_Equal_Usage_g1 (s2 : List Usage) : List Usage → Nat → Bool
  | [], _ =>
    true
  | x_ :: r, i =>
    bif (!((x_.user == (s2.getD i Usage.zero).user) && ((x_.account == (s2.getD i Usage.zero).account) && ((x_.used == (s2.getD i Usage.zero).used) && (x_.share == (s2.getD i Usage.zero).share))))) then
      false
    else
      slices_Equal_Usage_g1 s2 r (i + 1)

def slices_Equal_Usage (s1_ : List Usage) (s2 : List Usage) : Bool :=
  bif ((s1_.length : Int) != (s2.length : Int)) then
    false
  else
    slices_Equal_Usage_g1 s2 s1_ 0

theorem slices_Equal_Usage_c (s1_ : List Usage) (s2 : List Usage) (hs0 : s1_.length ≤ 4294967296 ∧ (∀ y ∈ s1_, y.sz)) (hs1 : s2.length ≤ 4294967296 ∧ (∀ y ∈ s2, y.sz)) : ∀ objs, AGives Tryz.prog 92 [usageL s1_, usageL s2] objs (Bo (slices_Equal_Usage s1_ s2)) := by
  generalize hR : slices_Equal_Usage s1_ s2 = R
  refine AGives.any' (.cons lw (.cons lw .nil)) lx (ACalls.of_cwp (kp 6 [10, 12, 13, 14, 24]) Tryz.func92 rfl rfl ?_)
  have hk0 := hs0
  obtain ⟨z9, z10⟩ : s1_.length ≤ 4294967296 ∧ (∀ y ∈ s1_, y.sz) := hs0
  have hk1 := hs1
  obtain ⟨z11, z12⟩ : s2.length ≤ 4294967296 ∧ (∀ y ∈ s2, y.sz) := hs1
  conv => whnf
  refine And.intro (fun h1 => ?_) (fun h2 => ?_)
  · conv => whnf
    obtain rfl := foll hR (ct h1 rfl)
    exact ret_seen lx sr
  · conv => whnf
    refine loop_start1 (fun (i : Nat) => slices_Equal_Usage_g1 s2 (List.drop i s1_) i = R ∧ i ≤ s1_.length) (fun i => s1_.length - i) (fun i => [(0, usageL s1_), (1, usageL s2), (4, Bo false), (12, I (s1_.length : Int)), (13, I (i : Int))]) (fun i => []) 0 (wk [] .nil (sl lw (sl lw (s1 (s1 (s1 .nil)))))) ⟨foll hR (cf h2 rfl), by exact omA⟩ ?_
    clear hR
    rintro i ⟨hR, hj⟩
    try dsimp only at hR hj
    conv => whnf
    refine And.intro (fun h3 => ?_) (fun h4 => ?_)
    · have hlt : i < s1_.length := by have := of_decide_eq_true h3; omega
      rw [drop_getD Usage.zero hlt] at hR
      have hxz : (s1_.getD i Usage.zero).sz := getD_sz (by first | assumption | grind) (Usage.szz _)
      have hkz := hxz
      obtain ⟨z5, z6⟩ : ((s1_.getD i Usage.zero).user).size ≤ 4294967296 ∧ ((s1_.getD i Usage.zero).account).size ≤ 4294967296 := hxz
      conv => whnf
      refine dchk (by kernel_rfl) ?_
      conv => whnf
      refine And.intro gkA ?_
      conv => whnf
      refine And.intro gkA ?_
      conv => whnf
      refine And.intro (fun _ => (by kernel_rfl : eqOK _ _ = true)) ?_
      conv => whnf
      repeat ((first | refine And.intro rfl ?_ | refine And.intro (fun _ => rfl) ?_); conv => whnf)
      refine And.intro (fun h7 => ?_) (fun h8 => ?_)
      · conv => whnf
        obtain rfl := foll hR (ct h7 rfl)
        exact ret_seen lx sr
      · conv => whnf
        exact loop_next1 (i + 1) (wk [] .nil (sl lw (sl lw (s1 (s1 (sv (turn_eq (I_eq (wr omA)) lx) .nil)))))) omA ⟨foll hR (cf h8 rfl), by exact omA⟩
    · rw [drop_none (l := s1_) (j := i) (by have := of_decide_eq_false h4; omega)] at hR
      conv => whnf
      obtain rfl := foll hR rfl
      exact ret_seen lx sr

-- F muster/state.copied[muster/api.Node]
def state_copied_Node (l : List Node) : (List Node) :=
  l

theorem state_copied_Node_c (l : List Node) (hs0 : l.length ≤ 4294967296) : ∀ objs, AGives Tryz.prog 57 [nodeL l] objs (nodeL l) := by
  generalize hR : state_copied_Node l = R
  refine AGives.any' (.cons lw .nil) lw (ACalls.of_cwp (kp 3 []) Tryz.func57 rfl rfl ?_)
  have hk0 := hs0
  obtain z1 : l.length ≤ 4294967296 := hs0
  conv => whnf
  first | refine ⟨app_ok 56 rfl lnA (by first | (simp; omega) | grind), ?_⟩ | refine ⟨app_nil 56 rfl (by first | (simp; omega) | grind), ?_⟩
  conv => whnf
  obtain rfl := foll hR rfl
  exact ret_seen lw (seen_list Node.zero _ rfl eqA lnA)

theorem state_copied_Node_o (l : List Node) (hs0 : l.length ≤ 4294967296) : AMoves Tryz.prog 57 [nodeL l] [] 0 (AVal.own 0 0 7 0 l.length) [(0, AObj.row 48 7 (l.map Node.cells))] := by
  generalize hR : state_copied_Node l = R
  refine AMoves.of_cwp (kp 3 []) Tryz.func57 rfl rfl rfl ?_
  have hk0 := hs0
  obtain z1 : l.length ≤ 4294967296 := hs0
  conv => whnf
  first | refine ⟨app_ok 56 rfl lnA (by first | (simp; omega) | grind), ?_⟩ | refine ⟨app_nil 56 rfl (by first | (simp; omega) | grind), ?_⟩
  conv => whnf
  obtain rfl := foll hR rfl
  exact rq (tt [0] (tO rfl (tl eqA) .nil) (to 0 lnA))

-- F muster/state.copied[muster/api.Job]
def state_copied_Job (l : List Job) : (List Job) :=
  l

theorem state_copied_Job_c (l : List Job) (hs0 : l.length ≤ 4294967296 ∧ (∀ y ∈ l, y.sz)) : ∀ objs, AGives Tryz.prog 58 [jobL l] objs (jobL l) := by
  generalize hR : state_copied_Job l = R
  refine AGives.any' (.cons lw .nil) lw (ACalls.of_cwp (kp 3 []) Tryz.func58 rfl rfl ?_)
  have hk0 := hs0
  obtain ⟨z1, z2⟩ : l.length ≤ 4294967296 ∧ (∀ y ∈ l, y.sz) := hs0
  conv => whnf
  first | refine ⟨app_ok 216 rfl lnA (by first | (simp; omega) | grind), ?_⟩ | refine ⟨app_nil 216 rfl (by first | (simp; omega) | grind), ?_⟩
  conv => whnf
  obtain rfl := foll hR rfl
  exact ret_seen lw (seen_list Job.zero _ rfl eqA lnA)

theorem state_copied_Job_o (l : List Job) (hs0 : l.length ≤ 4294967296 ∧ (∀ y ∈ l, y.sz)) : AMoves Tryz.prog 58 [jobL l] [] 0 (AVal.own 0 0 20 0 l.length) [(0, AObj.row 54 20 (l.map Job.cells))] := by
  generalize hR : state_copied_Job l = R
  refine AMoves.of_cwp (kp 3 []) Tryz.func58 rfl rfl rfl ?_
  have hk0 := hs0
  obtain ⟨z1, z2⟩ : l.length ≤ 4294967296 ∧ (∀ y ∈ l, y.sz) := hs0
  conv => whnf
  first | refine ⟨app_ok 216 rfl lnA (by first | (simp; omega) | grind), ?_⟩ | refine ⟨app_nil 216 rfl (by first | (simp; omega) | grind), ?_⟩
  conv => whnf
  obtain rfl := foll hR rfl
  exact rq (tt [0] (tO rfl (tl eqA) .nil) (to 0 lnA))

-- F muster/state.copied[muster/api.Resize]
def state_copied_Resize (l : List Resize) : (List Resize) :=
  l

theorem state_copied_Resize_c (l : List Resize) (hs0 : l.length ≤ 4294967296) : ∀ objs, AGives Tryz.prog 59 [resizeL l] objs (resizeL l) := by
  generalize hR : state_copied_Resize l = R
  refine AGives.any' (.cons lw .nil) lw (ACalls.of_cwp (kp 3 []) Tryz.func59 rfl rfl ?_)
  have hk0 := hs0
  obtain z1 : l.length ≤ 4294967296 := hs0
  conv => whnf
  first | refine ⟨app_ok 40 rfl lnA (by first | (simp; omega) | grind), ?_⟩ | refine ⟨app_nil 40 rfl (by first | (simp; omega) | grind), ?_⟩
  conv => whnf
  obtain rfl := foll hR rfl
  exact ret_seen lw (seen_list Resize.zero _ rfl eqA lnA)

theorem state_copied_Resize_o (l : List Resize) (hs0 : l.length ≤ 4294967296) : AMoves Tryz.prog 59 [resizeL l] [] 0 (AVal.own 0 0 5 0 l.length) [(0, AObj.row 38 5 (l.map Resize.cells))] := by
  generalize hR : state_copied_Resize l = R
  refine AMoves.of_cwp (kp 3 []) Tryz.func59 rfl rfl rfl ?_
  have hk0 := hs0
  obtain z1 : l.length ≤ 4294967296 := hs0
  conv => whnf
  first | refine ⟨app_ok 40 rfl lnA (by first | (simp; omega) | grind), ?_⟩ | refine ⟨app_nil 40 rfl (by first | (simp; omega) | grind), ?_⟩
  conv => whnf
  obtain rfl := foll hR rfl
  exact rq (tt [0] (tO rfl (tl eqA) .nil) (to 0 lnA))

-- F muster/state.copied[muster/api.Book]
def state_copied_Book (l : List Book) : (List Book) :=
  l

theorem state_copied_Book_c (l : List Book) (hs0 : l.length ≤ 4294967296) : ∀ objs, AGives Tryz.prog 60 [bookL l] objs (bookL l) := by
  generalize hR : state_copied_Book l = R
  refine AGives.any' (.cons lw .nil) lw (ACalls.of_cwp (kp 3 []) Tryz.func60 rfl rfl ?_)
  have hk0 := hs0
  obtain z1 : l.length ≤ 4294967296 := hs0
  conv => whnf
  first | refine ⟨app_ok 32 rfl lnA (by first | (simp; omega) | grind), ?_⟩ | refine ⟨app_nil 32 rfl (by first | (simp; omega) | grind), ?_⟩
  conv => whnf
  obtain rfl := foll hR rfl
  exact ret_seen lw (seen_list Book.zero _ rfl eqA lnA)

theorem state_copied_Book_o (l : List Book) (hs0 : l.length ≤ 4294967296) : AMoves Tryz.prog 60 [bookL l] [] 0 (AVal.own 0 0 4 0 l.length) [(0, AObj.row 60 4 (l.map Book.cells))] := by
  generalize hR : state_copied_Book l = R
  refine AMoves.of_cwp (kp 3 []) Tryz.func60 rfl rfl rfl ?_
  have hk0 := hs0
  obtain z1 : l.length ≤ 4294967296 := hs0
  conv => whnf
  first | refine ⟨app_ok 32 rfl lnA (by first | (simp; omega) | grind), ?_⟩ | refine ⟨app_nil 32 rfl (by first | (simp; omega) | grind), ?_⟩
  conv => whnf
  obtain rfl := foll hR rfl
  exact rq (tt [0] (tO rfl (tl eqA) .nil) (to 0 lnA))

-- F muster/state.copied[muster/api.Usage]
def state_copied_Usage (l : List Usage) : (List Usage) :=
  l

theorem state_copied_Usage_c (l : List Usage) (hs0 : l.length ≤ 4294967296 ∧ (∀ y ∈ l, y.sz)) : ∀ objs, AGives Tryz.prog 61 [usageL l] objs (usageL l) := by
  generalize hR : state_copied_Usage l = R
  refine AGives.any' (.cons lw .nil) lw (ACalls.of_cwp (kp 3 []) Tryz.func61 rfl rfl ?_)
  have hk0 := hs0
  obtain ⟨z1, z2⟩ : l.length ≤ 4294967296 ∧ (∀ y ∈ l, y.sz) := hs0
  conv => whnf
  first | refine ⟨app_ok 48 rfl lnA (by first | (simp; omega) | grind), ?_⟩ | refine ⟨app_nil 48 rfl (by first | (simp; omega) | grind), ?_⟩
  conv => whnf
  obtain rfl := foll hR rfl
  exact ret_seen lw (seen_list Usage.zero _ rfl eqA lnA)

theorem state_copied_Usage_o (l : List Usage) (hs0 : l.length ≤ 4294967296 ∧ (∀ y ∈ l, y.sz)) : AMoves Tryz.prog 61 [usageL l] [] 0 (AVal.own 0 0 4 0 l.length) [(0, AObj.row 62 4 (l.map Usage.cells))] := by
  generalize hR : state_copied_Usage l = R
  refine AMoves.of_cwp (kp 3 []) Tryz.func61 rfl rfl rfl ?_
  have hk0 := hs0
  obtain ⟨z1, z2⟩ : l.length ≤ 4294967296 ∧ (∀ y ∈ l, y.sz) := hs0
  conv => whnf
  first | refine ⟨app_ok 48 rfl lnA (by first | (simp; omega) | grind), ?_⟩ | refine ⟨app_nil 48 rfl (by first | (simp; omega) | grind), ?_⟩
  conv => whnf
  obtain rfl := foll hR rfl
  exact rq (tt [0] (tO rfl (tl eqA) .nil) (to 0 lnA))

-- F muster/state.copied[muster/api.Alt]
def state_copied_Alt (l : List Alt) : (List Alt) :=
  l

theorem state_copied_Alt_c (l : List Alt) (hs0 : l.length ≤ 4294967296) : ∀ objs, AGives Tryz.prog 62 [altL l] objs (altL l) := by
  generalize hR : state_copied_Alt l = R
  refine AGives.any' (.cons lw .nil) lw (ACalls.of_cwp (kp 3 []) Tryz.func62 rfl rfl ?_)
  have hk0 := hs0
  obtain z1 : l.length ≤ 4294967296 := hs0
  conv => whnf
  first | refine ⟨app_ok 16 rfl lnA (by first | (simp; omega) | grind), ?_⟩ | refine ⟨app_nil 16 rfl (by first | (simp; omega) | grind), ?_⟩
  conv => whnf
  obtain rfl := foll hR rfl
  exact ret_seen lw (seen_list Alt.zero _ rfl eqA lnA)

-- F muster/state.copied[muster/api.Dep]
def state_copied_Dep (l : List Dep) : (List Dep) :=
  l

theorem state_copied_Dep_c (l : List Dep) (hs0 : l.length ≤ 4294967296) : ∀ objs, AGives Tryz.prog 63 [depL l] objs (depL l) := by
  generalize hR : state_copied_Dep l = R
  refine AGives.any' (.cons lw .nil) lw (ACalls.of_cwp (kp 3 []) Tryz.func63 rfl rfl ?_)
  have hk0 := hs0
  obtain z1 : l.length ≤ 4294967296 := hs0
  conv => whnf
  first | refine ⟨app_ok 16 rfl lnA (by first | (simp; omega) | grind), ?_⟩ | refine ⟨app_nil 16 rfl (by first | (simp; omega) | grind), ?_⟩
  conv => whnf
  obtain rfl := foll hR rfl
  exact ret_seen lw (seen_list Dep.zero _ rfl eqA lnA)

-- F muster/musterlaw25.grown
def law25_grown  : State :=
  (⟨4, ([(⟨1, 5, 1, false, 0, 0, 0⟩ : Node), (⟨1, 5, 1, false, 0, 0, 0⟩ : Node), (⟨2, 5, 1, false, 2, 0, 0⟩ : Node), Node.zero] : List Node), ([(⟨5, ⟨#[97]⟩, ⟨#[117]⟩, ⟨#[120]⟩, (⟨3, [], 1, 3, 60⟩ : Shape), 0, [], 2, false, 0, 4, 1, 4, 64, 3, 0⟩ : Job)] : List Job), ([(⟨5, true, 4, 0, 0⟩ : Resize)] : List Resize), [], [], 6, 1⟩ : State)

theorem law25_grown_c  : ∀ objs, AGives Tryz.prog 28 [] objs (State.a law25_grown) := by
  generalize hR : law25_grown = R
  refine AGives.any' .nil (State.low _ _) (ACalls.of_cwp (kp 4 []) Tryz.func28 rfl rfl ?_)
  conv => whnf
  refine Or.inr ?_
  conv => whnf
  refine Or.inr ?_
  conv => whnf
  refine Or.inr ?_
  conv => whnf
  obtain rfl := foll hR rfl
  exact ret_seen (State.low _ _) (Seen.agg (e1 (ev (seen_list Node.zero _ rfl eqA lnA) (ev (seen_listAs Job.zero _ rfl (.cons _ _ _ _ (a1 (a1 (a1 (a1 (a1 (av (as_nil) (a1 (a1 (a1 (a1 (av (as_nil) (a1 (a1 (a1 (a1 (a1 (a1 (a1 (a1 (a1 .nil)))))))))))))))))))) .nil) lnA) (ev (seen_list Resize.zero _ rfl eqA lnA) (ev (seen_nil) (ev (seen_nil) (e1 (e1 .nil)))))))))

theorem law25_grown_o  : AMoves Tryz.prog 28 [] [] 0 (AVal.agg [I law25_grown.now, AVal.own 0 0 7 0 law25_grown.nodes.length, AVal.own 1 0 20 0 law25_grown.jobs.length, AVal.own 2 0 5 0 law25_grown.resizes.length, AVal.own 3 0 4 0 law25_grown.books.length, AVal.own 4 0 4 0 law25_grown.ledger.length, I law25_grown.nextJob, I law25_grown.nextBook]) [(0, AObj.row 48 7 (law25_grown.nodes.map Node.cells)), (0, AObj.row 54 20 (law25_grown.jobs.map Job.cells)), (0, AObj.row 38 5 (law25_grown.resizes.map Resize.cells)), (0, AObj.row 60 4 (law25_grown.books.map Book.cells)), (0, AObj.row 62 4 (law25_grown.ledger.map Usage.cells))] := by
  generalize hR : law25_grown = R
  refine AMoves.of_cwp (kp 4 []) Tryz.func28 rfl rfl rfl ?_
  conv => whnf
  refine Or.inr ?_
  conv => whnf
  refine Or.inr ?_
  conv => whnf
  refine Or.inr ?_
  conv => whnf
  obtain rfl := foll hR rfl
  exact rq (Told.pad 60 4 (Told.pad 62 4 (tt [4, 5, 6, 7, 8] (tO rfl (tl eqA) (tO rfl (turn_rowAs (.cons _ _ _ _ (a1 (a1 (a1 (a1 (a1 (av (as_nil) (a1 (a1 (a1 (a1 (av (as_nil) (a1 (a1 (a1 (a1 (a1 (a1 (a1 (a1 (a1 .nil)))))))))))))))))))) .nil) (low_map fun _ => Job.lowc _ _)) (tO rfl (tl eqA) (tO rfl (tl eqA) (tO rfl (tl eqA) .nil))))) (turn_agg (c1 (cv (to 0 lnA) (cv (to 1 lnA) (cv (to 2 lnA) (cv (turn_nilown 3 rfl) (cv (turn_nilown 4 rfl) (c1 (c1 .nil))))))))))))

-- F muster/musterref12.Same
def ref12_Same_g1 (b : List Node) : List Node → Nat → Bool
  | [], _ =>
    true
  | x_ :: r, i =>
    bif (!((x_.state == (b.getD i Node.zero).state) && ((x_.job == (b.getD i Node.zero).job) && ((x_.epoch == (b.getD i Node.zero).epoch) && ((x_.drain == (b.getD i Node.zero).drain) && ((x_.want == (b.getD i Node.zero).want) && ((x_.since == (b.getD i Node.zero).since) && (x_.asked == (b.getD i Node.zero).asked)))))))) then
      false
    else
      ref12_Same_g1 b r (i + 1)

def ref12_Same (a : List Node) (b : List Node) : Bool :=
  bif ((a.length : Int) != (b.length : Int)) then
    false
  else
    ref12_Same_g1 b a 0

theorem ref12_Same_c (a : List Node) (b : List Node) (hs0 : a.length ≤ 4294967296) (hs1 : b.length ≤ 4294967296) : ∀ objs, AGives Tryz.prog 45 [nodeL a, nodeL b] objs (Bo (ref12_Same a b)) := by
  generalize hR : ref12_Same a b = R
  refine AGives.any' (.cons lw (.cons lw .nil)) lx (ACalls.of_cwp (kp 6 [10, 14, 25]) Tryz.func45 rfl rfl ?_)
  have hk0 := hs0
  obtain z7 : a.length ≤ 4294967296 := hs0
  have hk1 := hs1
  obtain z8 : b.length ≤ 4294967296 := hs1
  conv => whnf
  refine And.intro (fun h1 => ?_) (fun h2 => ?_)
  · conv => whnf
    obtain rfl := foll hR (ct h1 rfl)
    exact ret_seen lx sr
  · conv => whnf
    refine loop_start1 (fun (i : Nat) => ref12_Same_g1 b (List.drop i a) i = R ∧ i ≤ a.length) (fun i => a.length - i) (fun i => [(0, nodeL a), (1, nodeL b), (4, Bo false), (5, I (i : Int))]) (fun i => []) 0 (wk [] .nil (sl lw (sl lw (s1 (s1 .nil))))) ⟨foll hR (cf h2 rfl), by exact omA⟩ ?_
    clear hR
    rintro i ⟨hR, hj⟩
    try dsimp only at hR hj
    conv => whnf
    refine And.intro (fun h3 => ?_) (fun h4 => ?_)
    · have hlt : i < a.length := by have := of_decide_eq_true h3; omega
      rw [drop_getD Node.zero hlt] at hR
      conv => whnf
      refine dchk (by kernel_rfl) ?_
      conv => whnf
      refine And.intro gkA ?_
      conv => whnf
      refine And.intro gkA ?_
      conv => whnf
      refine And.intro (fun _ => (by kernel_rfl : eqOK _ _ = true)) ?_
      conv => whnf
      repeat ((first | refine And.intro rfl ?_ | refine And.intro (fun _ => rfl) ?_); conv => whnf)
      refine And.intro (fun h5 => ?_) (fun h6 => ?_)
      · conv => whnf
        obtain rfl := foll hR (ct h5 rfl)
        exact ret_seen lx sr
      · conv => whnf
        exact loop_next1 (i + 1) (wk [] .nil (sl lw (sl lw (s1 (sv (turn_eq (I_eq (wr omA)) lx) .nil))))) omA ⟨foll hR (cf h6 rfl), by exact omA⟩
    · rw [drop_none (l := a) (j := i) (by have := of_decide_eq_false h4; omega)] at hR
      conv => whnf
      obtain rfl := foll hR rfl
      exact ret_seen lx sr

-- F muster/musterref07.SameAlts
def ref07_SameAlts_g1 (b : List Alt) : List Alt → Nat → Bool
  | [], _ =>
    true
  | x_ :: r, i =>
    bif ((x_.nodes != (b.getD i Alt.zero).nodes) || (x_.wall != (b.getD i Alt.zero).wall)) then
      false
    else
      ref07_SameAlts_g1 b r (i + 1)

def ref07_SameAlts (a : List Alt) (b : List Alt) : Bool :=
  bif ((a.length : Int) != (b.length : Int)) then
    false
  else
    ref07_SameAlts_g1 b a 0

theorem ref07_SameAlts_c (a : List Alt) (b : List Alt) (hs0 : a.length ≤ 4294967296) (hs1 : b.length ≤ 4294967296) : ∀ objs, AGives Tryz.prog 138 [altL a, altL b] objs (Bo (ref07_SameAlts a b)) := by
  generalize hR : ref07_SameAlts a b = R
  refine AGives.any' (.cons lw (.cons lw .nil)) lx (ACalls.of_cwp (kp 6 [10, 14, 40]) Tryz.func138 rfl rfl ?_)
  have hk0 := hs0
  obtain z7 : a.length ≤ 4294967296 := hs0
  have hk1 := hs1
  obtain z8 : b.length ≤ 4294967296 := hs1
  conv => whnf
  refine And.intro (fun h1 => ?_) (fun h2 => ?_)
  · conv => whnf
    obtain rfl := foll hR (ct h1 rfl)
    exact ret_seen lx sr
  · conv => whnf
    refine loop_start1 (fun (i : Nat) => ref07_SameAlts_g1 b (List.drop i a) i = R ∧ i ≤ a.length) (fun i => a.length - i) (fun i => [(0, altL a), (1, altL b), (4, Bo false), (5, I (i : Int))]) (fun i => []) 0 (wk [] .nil (sl lw (sl lw (s1 (s1 .nil))))) ⟨foll hR (cf h2 rfl), by exact omA⟩ ?_
    clear hR
    rintro i ⟨hR, hj⟩
    try dsimp only at hR hj
    conv => whnf
    refine And.intro (fun h3 => ?_) (fun h4 => ?_)
    · have hlt : i < a.length := by have := of_decide_eq_true h3; omega
      rw [drop_getD Alt.zero hlt] at hR
      conv => whnf
      refine dchk (by kernel_rfl) ?_
      conv => whnf
      refine And.intro gkA ?_
      conv => whnf
      refine And.intro gkA ?_
      conv => whnf
      refine And.intro gkA ?_
      conv => whnf
      refine And.intro gkA ?_
      conv => whnf
      repeat ((first | refine And.intro rfl ?_ | refine And.intro (fun _ => rfl) ?_); conv => whnf)
      refine And.intro (fun h5 => ?_) (fun h6 => ?_)
      · conv => whnf
        obtain rfl := foll hR (ct h5 rfl)
        exact ret_seen lx sr
      · conv => whnf
        exact loop_next1 (i + 1) (wk [] .nil (sl lw (sl lw (s1 (sv (turn_eq (I_eq (wr omA)) lx) .nil))))) omA ⟨foll hR (cf h6 rfl), by exact omA⟩
    · rw [drop_none (l := a) (j := i) (by have := of_decide_eq_false h4; omega)] at hR
      conv => whnf
      obtain rfl := foll hR rfl
      exact ret_seen lx sr

end Go.Proofs.YtoionleakeemlaaGreatDoor
