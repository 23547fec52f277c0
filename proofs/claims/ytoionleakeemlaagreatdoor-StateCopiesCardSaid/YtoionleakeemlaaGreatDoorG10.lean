/-
  Contracts of functions, printed by a program of this repo (wip/dec). No condition beyond those that stand in each.
-/
import Derived.Test.YtoionleakeemlaaGreatDoorG8
import Derived.Test.YtoionleakeemlaaGreatDoorProg
import Derived.Test.YtoionleakeemlaaGreatDoorG9
namespace Go.Proofs.YtoionleakeemlaaGreatDoor
set_option linter.unusedSimpArgs false
set_option linter.unusedVariables false
open Go.Fw

set_option maxRecDepth 20000
set_option maxHeartbeats 4000000
attribute [local irreducible] ACalls AMoves


-- F muster/musterref25.SameResizes
def ref25_SameResizes_g1 (b : List Resize) : List Resize → Nat → Bool
  | [], _ =>
    true
  | x_ :: r, i =>
    bif (!((x_.job == (b.getD i Resize.zero).job) && ((x_.grow == (b.getD i Resize.zero).grow) && ((x_.nodes == (b.getD i Resize.zero).nodes) && ((x_.said == (b.getD i Resize.zero).said) && (x_.since == (b.getD i Resize.zero).since)))))) then
      false
    else
      ref25_SameResizes_g1 b r (i + 1)

def ref25_SameResizes (a : List Resize) (b : List Resize) : Bool :=
  bif ((a.length : Int) != (b.length : Int)) then
    false
  else
    ref25_SameResizes_g1 b a 0

theorem ref25_SameResizes_c (a : List Resize) (b : List Resize) (hs0 : a.length ≤ 4294967296) (hs1 : b.length ≤ 4294967296) : ∀ objs, AGives Tryz.prog 47 [resizeL a, resizeL b] objs (Bo (ref25_SameResizes a b)) := by
  generalize hR : ref25_SameResizes a b = R
  refine AGives.any' (.cons lw (.cons lw .nil)) lx (ACalls.of_cwp (kp 6 [10, 14, 25]) Tryz.func47 rfl rfl ?_)
  have hk0 := hs0
  obtain z7 : a.length ≤ 4294967296 := hs0
  have hk1 := hs1
  obtain z8 : b.length ≤ 4294967296 := hs1
  conv => whnf
  refine And.intro (fun h1 => ?_) (fun h2 => ?_)
  · conv => whnf
    obtain rfl := foll hR (ct h1 rfl)
    exact ret_seen lx sr
  · conv => whnf
    refine loop_start1 (fun (i : Nat) => ref25_SameResizes_g1 b (List.drop i a) i = R ∧ i ≤ a.length) (fun i => a.length - i) (fun i => [(0, resizeL a), (1, resizeL b), (4, Bo false), (5, I (i : Int))]) (fun i => []) 0 (wk [] .nil (sl lw (sl lw (s1 (s1 .nil))))) ⟨foll hR (cf h2 rfl), by exact omA⟩ ?_
    clear hR
    rintro i ⟨hR, hj⟩
    try dsimp only at hR hj
    conv => whnf
    refine And.intro (fun h3 => ?_) (fun h4 => ?_)
    · have hlt : i < a.length := by have := of_decide_eq_true h3; omega
      rw [drop_getD Resize.zero hlt] at hR
      conv => whnf
      refine dchk (by kernel_rfl) ?_
      conv => whnf
      refine And.intro gkA ?_
      conv => whnf
      refine And.intro gkA ?_
      conv => whnf
      refine And.intro (fun _ => (by kernel_rfl : eqOK _ _ = true)) ?_
      conv => whnf
      repeat ((first | refine And.intro rfl ?_ | refine And.intro (fun _ => rfl) ?_); conv => whnf)
      refine And.intro (fun h5 => ?_) (fun h6 => ?_)
      · conv => whnf
        obtain rfl := foll hR (ct h5 rfl)
        exact ret_seen lx sr
      · conv => whnf
        exact loop_next1 (i + 1) (wk [] .nil (sl lw (sl lw (s1 (sv (turn_eq (I_eq (wr omA)) lx) .nil))))) omA ⟨foll hR (cf h6 rfl), by exact omA⟩
    · rw [drop_none (l := a) (j := i) (by have := of_decide_eq_false h4; omega)] at hR
      conv => whnf
      obtain rfl := foll hR rfl
      exact ret_seen lx sr

-- F muster/musterref19.Same
def ref19_Same_g1 (b : List Book) : List Book → Nat → Bool
  | [], _ =>
    true
  | x_ :: r, i =>
    bif (!((x_.id == (b.getD i Book.zero).id) && ((x_.from_ == (b.getD i Book.zero).from_) && ((x_.to == (b.getD i Book.zero).to) && (x_.nodes == (b.getD i Book.zero).nodes))))) then
      false
    else
      ref19_Same_g1 b r (i + 1)

def ref19_Same (a : List Book) (b : List Book) : Bool :=
  bif ((a.length : Int) != (b.length : Int)) then
    false
  else
    ref19_Same_g1 b a 0

theorem ref19_Same_c (a : List Book) (b : List Book) (hs0 : a.length ≤ 4294967296) (hs1 : b.length ≤ 4294967296) : ∀ objs, AGives Tryz.prog 48 [bookL a, bookL b] objs (Bo (ref19_Same a b)) := by
  generalize hR : ref19_Same a b = R
  refine AGives.any' (.cons lw (.cons lw .nil)) lx (ACalls.of_cwp (kp 6 [10, 14, 25]) Tryz.func48 rfl rfl ?_)
  have hk0 := hs0
  obtain z7 : a.length ≤ 4294967296 := hs0
  have hk1 := hs1
  obtain z8 : b.length ≤ 4294967296 := hs1
  conv => whnf
  refine And.intro (fun h1 => ?_) (fun h2 => ?_)
  · conv => whnf
    obtain rfl := foll hR (ct h1 rfl)
    exact ret_seen lx sr
  · conv => whnf
    refine loop_start1 (fun (i : Nat) => ref19_Same_g1 b (List.drop i a) i = R ∧ i ≤ a.length) (fun i => a.length - i) (fun i => [(0, bookL a), (1, bookL b), (4, Bo false), (5, I (i : Int))]) (fun i => []) 0 (wk [] .nil (sl lw (sl lw (s1 (s1 .nil))))) ⟨foll hR (cf h2 rfl), by exact omA⟩ ?_
    clear hR
    rintro i ⟨hR, hj⟩
    try dsimp only at hR hj
    conv => whnf
    refine And.intro (fun h3 => ?_) (fun h4 => ?_)
    · have hlt : i < a.length := by have := of_decide_eq_true h3; omega
      rw [drop_getD Book.zero hlt] at hR
      conv => whnf
      refine dchk (by kernel_rfl) ?_
      conv => whnf
      refine And.intro gkA ?_
      conv => whnf
      refine And.intro gkA ?_
      conv => whnf
      refine And.intro (fun _ => (by kernel_rfl : eqOK _ _ = true)) ?_
      conv => whnf
      repeat ((first | refine And.intro rfl ?_ | refine And.intro (fun _ => rfl) ?_); conv => whnf)
      refine And.intro (fun h5 => ?_) (fun h6 => ?_)
      · conv => whnf
        obtain rfl := foll hR (ct h5 rfl)
        exact ret_seen lx sr
      · conv => whnf
        exact loop_next1 (i + 1) (wk [] .nil (sl lw (sl lw (s1 (sv (turn_eq (I_eq (wr omA)) lx) .nil))))) omA ⟨foll hR (cf h6 rfl), by exact omA⟩
    · rw [drop_none (l := a) (j := i) (by have := of_decide_eq_false h4; omega)] at hR
      conv => whnf
      obtain rfl := foll hR rfl
      exact ret_seen lx sr

-- F muster/musterref17.Same
def ref17_Same_g1 (b : List Usage) : List Usage → Nat → Bool
  | [], _ =>
    true
  | x_ :: r, i =>
    bif ((((!(ByteArray.toList x_.user == ByteArray.toList (b.getD i Usage.zero).user)) || (!(ByteArray.toList x_.account == ByteArray.toList (b.getD i Usage.zero).account))) || (x_.used != (b.getD i Usage.zero).used)) || (x_.share != (b.getD i Usage.zero).share)) then
      false
    else
      ref17_Same_g1 b r (i + 1)

def ref17_Same (a : List Usage) (b : List Usage) : Bool :=
  bif ((a.length : Int) != (b.length : Int)) then
    false
  else
    ref17_Same_g1 b a 0

theorem ref17_Same_c (a : List Usage) (b : List Usage) (hs0 : a.length ≤ 4294967296 ∧ (∀ y ∈ a, y.sz)) (hs1 : b.length ≤ 4294967296 ∧ (∀ y ∈ b, y.sz)) : ∀ objs, AGives Tryz.prog 49 [usageL a, usageL b] objs (Bo (ref17_Same a b)) := by
  generalize hR : ref17_Same a b = R
  refine AGives.any' (.cons lw (.cons lw .nil)) lx (ACalls.of_cwp (kp 6 [10, 14, 66]) Tryz.func49 rfl rfl ?_)
  have hk0 := hs0
  obtain ⟨z9, z10⟩ : a.length ≤ 4294967296 ∧ (∀ y ∈ a, y.sz) := hs0
  have hk1 := hs1
  obtain ⟨z11, z12⟩ : b.length ≤ 4294967296 ∧ (∀ y ∈ b, y.sz) := hs1
  conv => whnf
  refine And.intro (fun h1 => ?_) (fun h2 => ?_)
  · conv => whnf
    obtain rfl := foll hR (ct h1 rfl)
    exact ret_seen lx sr
  · conv => whnf
    refine loop_start1 (fun (i : Nat) => ref17_Same_g1 b (List.drop i a) i = R ∧ i ≤ a.length) (fun i => a.length - i) (fun i => [(0, usageL a), (1, usageL b), (4, Bo false), (5, I (i : Int))]) (fun i => []) 0 (wk [] .nil (sl lw (sl lw (s1 (s1 .nil))))) ⟨foll hR (cf h2 rfl), by exact omA⟩ ?_
    clear hR
    rintro i ⟨hR, hj⟩
    try dsimp only at hR hj
    conv => whnf
    refine And.intro (fun h3 => ?_) (fun h4 => ?_)
    · have hlt : i < a.length := by have := of_decide_eq_true h3; omega
      rw [drop_getD Usage.zero hlt] at hR
      have hxz : (a.getD i Usage.zero).sz := getD_sz (by first | assumption | grind) (Usage.szz _)
      have hkz := hxz
      obtain ⟨z5, z6⟩ : ((a.getD i Usage.zero).user).size ≤ 4294967296 ∧ ((a.getD i Usage.zero).account).size ≤ 4294967296 := hxz
      conv => whnf
      refine dchk (by kernel_rfl) ?_
      conv => whnf
      refine And.intro gkA ?_
      conv => whnf
      refine And.intro gkA ?_
      conv => whnf
      refine And.intro gkA ?_
      conv => whnf
      refine And.intro gkA ?_
      conv => whnf
      refine And.intro gkA ?_
      conv => whnf
      refine And.intro gkA ?_
      conv => whnf
      refine And.intro gkA ?_
      conv => whnf
      refine And.intro gkA ?_
      conv => whnf
      repeat ((first | refine And.intro rfl ?_ | refine And.intro (fun _ => rfl) ?_); conv => whnf)
      refine And.intro (fun h7 => ?_) (fun h8 => ?_)
      · conv => whnf
        obtain rfl := foll hR (ct h7 rfl)
        exact ret_seen lx sr
      · conv => whnf
        exact loop_next1 (i + 1) (wk [] .nil (sl lw (sl lw (s1 (sv (turn_eq (I_eq (wr omA)) lx) .nil))))) omA ⟨foll hR (cf h8 rfl), by exact omA⟩
    · rw [drop_none (l := a) (j := i) (by have := of_decide_eq_false h4; omega)] at hR
      conv => whnf
      obtain rfl := foll hR rfl
      exact ret_seen lx sr

end Go.Proofs.YtoionleakeemlaaGreatDoor
namespace Go.Proofs.YtoionleakeemlaaGreatDoor
set_option linter.unusedSimpArgs false
set_option linter.unusedVariables false
open Go.Fw

set_option maxRecDepth 20000
set_option maxHeartbeats 4000000
attribute [local irreducible] ACalls AMoves


-- F muster/musterlaw14.Few
def law14_Few (j : Job) : Bool :=
  (((((law07_Few j.shape) && (decide ((j.after.length : Int) ≤ 100))) && (decide ((ByteArray.size j.name : Int) ≤ 1000))) && (decide ((ByteArray.size j.user : Int) ≤ 1000))) && (decide ((ByteArray.size j.account : Int) ≤ 1000)))

theorem law14_Few_c (j : Job) : ∀ objs, AGives Tryz.prog 69 [Job.a j] objs (Bo (law14_Few j)) := by
  generalize hR : law14_Few j = R
  refine AGives.any' (.cons (Job.low _ _) .nil) lx (ACalls.of_cwp (kp 3 []) Tryz.func69 rfl rfl ?_)
  conv => whnf
  refine ACalls.use (law07_Few_c j.shape _) ?_
  conv => whnf
  obtain rfl := foll hR rfl
  exact ret_seen lx sr

-- F muster/state.New
def state_New (n : Int) : State × Int :=
  bif ((fleet_New n).2 != 0) then
    (State.zero, (fleet_New n).2)
  else
    ((⟨0, (fleet_New n).1, [], [], [], [], 1, 1⟩ : State), 0)

theorem state_New_c (n : Int) : ∀ objs, AGives Tryz.prog 9 [I n] objs (AVal.tup [State.a ((state_New n).1), I ((state_New n).2)]) := by
  generalize hR : state_New n = R
  refine AGives.any' (l1 .nil) (Low.tup' (.cons (State.low _ _) (l1 .nil))) (ACalls.of_cwp (kp 6 [12]) Tryz.func9 rfl rfl ?_)
  conv => whnf
  refine ACalls.use (fleet_New_c n _) ?_
  conv => whnf
  refine And.intro (fun h1 => ?_) (fun h2 => ?_)
  · conv => whnf
    obtain rfl := foll hR (ct h1 rfl)
    exact ret_seen (Low.tup' (.cons (State.low _ _) (l1 .nil))) (Seen.tup (ev (Seen.agg (e1 (ev (seen_nil) (ev (seen_nil) (ev (seen_nil) (ev (seen_nil) (ev (seen_nil) (e1 (e1 .nil))))))))) (e1 .nil)))
  · conv => whnf
    obtain rfl := foll hR (cf h2 rfl)
    exact ret_seen (Low.tup' (.cons (State.low _ _) (l1 .nil))) (Seen.tup (ev (Seen.agg (e1 (e1 (ev (seen_nil) (ev (seen_nil) (ev (seen_nil) (ev (seen_nil) (e1 (e1 .nil))))))))) (e1 .nil)))

-- F muster/sat.Usage
def sat_Usage (n : Int) : Int :=
  (sat_within_int n 0 1000000000000)

theorem sat_Usage_c (n : Int) : ∀ objs, AGives Tryz.prog 101 [I n] objs (I (sat_Usage n)) := by
  generalize hR : sat_Usage n = R
  refine AGives.any' (l1 .nil) lx (ACalls.of_cwp (kp 3 []) Tryz.func101 rfl rfl ?_)
  conv => whnf
  refine ACalls.use (sat_within_int_c n 0 1000000000000 _) ?_
  conv => whnf
  obtain rfl := foll hR rfl
  exact ret_seen lx sr

-- F slices.ContainsFunc[[]muster/api.Alt,muster/api.Alt]
def slices_ContainsFunc_Alt (s : List Alt) (f : Alt → Bool) : Bool :=
  (decide ((slices_IndexFunc_Alt s f) ≥ 0))

-- F muster/cmd.length
def cmd_length (n : Int) : Bool :=
  (cmd_within n 1 100000)

theorem cmd_length_c (n : Int) : ∀ objs, AGives Tryz.prog 175 [I n] objs (Bo (cmd_length n)) := by
  generalize hR : cmd_length n = R
  refine AGives.any' (l1 .nil) lx (ACalls.of_cwp (kp 3 []) Tryz.func175 rfl rfl ?_)
  conv => whnf
  refine ACalls.use (cmd_within_c n 1 100000 _) ?_
  conv => whnf
  obtain rfl := foll hR rfl
  exact ret_seen lx sr

-- F muster/runes.Check
def runes_Check_g1  : List (Nat × Int) → Nat → Int × Int
  | [], n =>
    ((n : Int), 0)
  | x_ :: r, n =>
    bif ((runes_Class x_.2) == 0) then
      ((n : Int), 40)
    else
      runes_Check_g1 r (n + 1)

def runes_Check (s : ByteArray) : Int × Int :=
  runes_Check_g1 (runeList s) 0

theorem runes_Check_c (s : ByteArray) (hs0 : s.size ≤ 4294967296) : ∀ objs, AGives Tryz.prog 185 [Sg s] objs (AVal.tup [I ((runes_Check s).1), I ((runes_Check s).2)]) := by
  generalize hR : runes_Check s = R
  refine AGives.any' (l1 .nil) (Low.tup' (l1 (l1 .nil))) (ACalls.of_cwp (kp 7 [8, 9, 10, 14]) Tryz.func185 rfl rfl ?_)
  have hk0 := hs0
  obtain z5 : s.size ≤ 4294967296 := hs0
  conv => whnf
  refine loop_start2 (fun (n : Nat) (pos : Nat) => ∃ m, ByteArray.size s - pos ≤ m ∧ runes_Check_g1 (strRunes s m pos) n = R ∧ n ≤ pos) (fun n pos => ByteArray.size s - pos) (fun n pos => [(2, I 0), (3, I 0), (4, I (n : Int)), (8, AVal.ptr 0 0 1 0 0)]) (fun n pos => [(0, AObj.other (.strIter s pos))]) 0 0 (wk [0] (tO rfl (.strIter _ _) .nil) (s1 (s1 (s1 (sv (turn_ptr 0 rfl rfl) .nil))))) ⟨ByteArray.size s, by exact omA, foll hR rfl, by exact exA⟩ ?_
  clear hR
  rintro n pos ⟨m, hm, hR, hx⟩
  try dsimp only at hR hm hx
  conv => whnf
  refine And.intro (fun h1 => ?_) (fun h2 => ?_)
  · have hlt := of_decide_eq_true h1
    have hw := decode_pos s pos
    have hwe := decode_end s pos hlt
    obtain ⟨m, rfl⟩ : ∃ k, m = k + 1 := ⟨m - 1, by omega⟩
    rw [strRunes_cons h1] at hR
    conv => whnf
    refine And.intro (fun _ => ?_) (fun h => nomatch h)
    conv => whnf
    refine ACalls.use (runes_Class_c ((pos, ((Utf8.decode s pos).1 : Int)).2) _) ?_
    conv => whnf
    refine And.intro (fun h3 => ?_) (fun h4 => ?_)
    · conv => whnf
      obtain rfl := foll hR (ct h3 rfl)
      exact ret_seen (Low.tup' (l1 (l1 .nil))) (Seen.tup (e1 (e1 .nil)))
    · conv => whnf
      exact loop_next2 (n + 1) (pos + (Utf8.decode s pos).2) (wk [0] (tO rfl (.strIter _ _) .nil) (s1 (s1 (sv (turn_eq (I_eq (wr omA)) lx) (sv (turn_ptr 0 rfl rfl) .nil))))) omA ⟨m, by exact omA, foll hR (cf h4 rfl), by exact exA⟩
  · rw [strRunes_nil h2] at hR
    conv => whnf
    refine And.intro (fun h => nomatch h) (fun _ => ?_)
    conv => whnf
    obtain rfl := foll hR rfl
    exact ret_seen (Low.tup' (l1 (l1 .nil))) (Seen.tup (e1 (e1 .nil)))

-- F (*muster/lex.reader).word
def lex_reader_word_g1 (y : Int) : List Int → Nat → Bool
  | [], _ =>
    ((false || (y == 45)) || (y == 95))
  | x_ :: r, i =>
    bif ((runes_Class y) == x_) then
      ((true || (y == 45)) || (y == 95))
    else
      lex_reader_word_g1 y r (i + 1)

def lex_reader_word (r_ : LexReader) : Token × LexReader :=
  ((⟨1, (runes_Lower ((lex_reader_while r_ (fun (y : Int) => lex_reader_word_g1 y ([2, 3] : List Int) 0)).1)), 0, 0⟩ : Token), (lex_reader_while r_ (fun (y : Int) => lex_reader_word_g1 y ([2, 3] : List Int) 0)).2)

theorem lex_reader_word_c (r_ : LexReader) (hs0 : r_.sz) (hp0 : 0 ≤ r_.at_ ∧ r_.at_ ≤ (r_.line.length : Int) ∧ r_.line.length ≤ 400) : AMoves Tryz.prog 209 [AVal.ptr 0 0 4 0 0] [(0, AObj.row 206 4 [[runes r_.line, I r_.at_, I r_.bad, I r_.error]])] 1 (Token.a ((lex_reader_word r_).1)) [(0, AObj.row 206 4 [[runes ((lex_reader_word r_).2.line), I ((lex_reader_word r_).2.at_), I ((lex_reader_word r_).2.bad), I ((lex_reader_word r_).2.error)]])] := by
  generalize hR : lex_reader_word r_ = R
  refine AMoves.of_cwp (kp 5 []) Tryz.func209 rfl rfl rfl ?_
  have hk0 := hs0
  obtain z7 : r_.line.length ≤ 4294967296 := hs0
  conv => whnf
  refine Or.inl ?_
  conv => whnf
  refine ACalls.of_cwp (fun _ => true) Tryz.func198 rfl rfl ?_
  conv => whnf
  refine ⟨_, _, Told.refl, ?_⟩
  conv => whnf
  have cl1 : ∀ (y1 : Int), AMoves Tryz.prog 220 [J y1, AVal.ptr 1 0 1 0 0] [(0, AObj.row 113 1 [[ints ([2, 3] : List Int)]]), (0, AObj.row 207 1 [[AVal.fn (.func 208) [] [AVal.ptr 0 0 1 0 0]]])] 2 (Bo ((fun (y : Int) => lex_reader_word_g1 y ([2, 3] : List Int) 0) y1)) [(0, AObj.row 113 1 [[ints ([2, 3] : List Int)]]), (0, AObj.row 207 1 [[AVal.fn (.func 208) [] [AVal.ptr 0 0 1 0 0]]])] := by
    intro y1
    have hR : (fun (y : Int) => lex_reader_word_g1 y ([2, 3] : List Int) 0) y1 = (fun (y : Int) => lex_reader_word_g1 y ([2, 3] : List Int) 0) y1 := rfl
    refine AMoves.of_cwp (kp 4 []) Tryz.func220 rfl rfl rfl ?_
    conv => whnf
    refine ACalls.of_cwp (fun _ => true) Tryz.func208 rfl rfl ?_
    conv => whnf
    refine loop_start1 (fun (i : Nat) => lex_reader_word_g1 y1 (List.drop i ([2, 3] : List Int)) i = (fun (y : Int) => lex_reader_word_g1 y ([2, 3] : List Int) 0) y1 ∧ i ≤ ([2, 3] : List Int).length) (fun i => ([2, 3] : List Int).length - i) (fun i => [(0, J y1), (3, Bo false), (6, ints ([2, 3] : List Int)), (7, I (([2, 3] : List Int).length : Int)), (8, I (i : Int))]) (fun i => [(0, AObj.row 113 1 [[ints ([2, 3] : List Int)]]), (0, AObj.row 207 1 [[AVal.fn (.func 208) [] [AVal.ptr 0 0 1 0 0]]])]) 0 (wk [0, 1] (tO rfl (ts (lv lw LowL.nil)) (tO rfl (turn_row1 (cv (turn_fn .nil (cv (turn_ptr 0 rfl rfl) .nil)) .nil)) .nil)) (s1 (s1 (sl lw (s1 (s1 .nil)))))) ⟨foll hR rfl, by exact omA⟩ ?_
    clear hR
    rintro i ⟨hR, hj⟩
    try dsimp only at hR hj
    conv => whnf
    refine And.intro (fun h1 => ?_) (fun h2 => ?_)
    · have hlt : i < ([2, 3] : List Int).length := by have := of_decide_eq_true h1; omega
      rw [drop_getD 0 hlt] at hR
      conv => whnf
      refine And.intro gkA ?_
      conv => whnf
      refine ACalls.use (runes_Class_c y1 _) ?_
      conv => whnf
      refine And.intro (fun h3 => ?_) (fun h4 => ?_)
      · conv => whnf
        refine ⟨_, _, Told.refl, ?_⟩
        conv => whnf
        refine ret_moves (fun r : Bool => Bo r) (fun _ => [(0, AObj.row 113 1 [[ints ([2, 3] : List Int)]]), (0, AObj.row 207 1 [[AVal.fn (.func 208) [] [AVal.ptr 0 0 1 0 0]]])]) (leaf := ((true || (y1 == 45)) || (y1 == 95))) (foll hR (ct h3 rfl)) ?_
        exact tt [0, 1] (tO rfl (ts (lv lw LowL.nil)) (tO rfl (turn_row1 (cv (turn_fn .nil (cv (turn_ptr 0 rfl rfl) .nil)) .nil)) .nil)) t1
      · conv => whnf
        exact loop_next1 (i + 1) (wk [0, 1] (tO rfl (ts (lv lw LowL.nil)) (tO rfl (turn_row1 (cv (turn_fn .nil (cv (turn_ptr 0 rfl rfl) .nil)) .nil)) .nil)) (s1 (s1 (sl lw (s1 (sv (turn_eq (I_eq (wr omA)) lx) .nil)))))) omA ⟨foll hR (cf h4 rfl), by exact omA⟩
    · rw [drop_none (l := ([2, 3] : List Int)) (j := i) (by have := of_decide_eq_false h2; omega)] at hR
      conv => whnf
      refine ⟨_, _, Told.refl, ?_⟩
      conv => whnf
      refine ret_moves (fun r : Bool => Bo r) (fun _ => [(0, AObj.row 113 1 [[ints ([2, 3] : List Int)]]), (0, AObj.row 207 1 [[AVal.fn (.func 208) [] [AVal.ptr 0 0 1 0 0]]])]) (leaf := ((false || (y1 == 45)) || (y1 == 95))) (foll hR rfl) ?_
      exact tt [0, 1] (tO rfl (ts (lv lw LowL.nil)) (tO rfl (turn_row1 (cv (turn_fn .nil (cv (turn_ptr 0 rfl rfl) .nil)) .nil)) .nil)) t1
  have hof1 : AMoves Tryz.prog 199 [AVal.ptr 0 0 4 0 0, AVal.fn (.func 220) [] [AVal.ptr 2 0 1 0 0]] [(0, AObj.row 206 4 [[runes r_.line, I r_.at_, I r_.bad, I r_.error]]), (0, AObj.row 113 1 [[ints ([2, 3] : List Int)]]), (0, AObj.row 207 1 [[AVal.fn (.func 208) [] [AVal.ptr 1 0 1 0 0]]])] 3 (Sg ((lex_reader_while r_ (fun (y : Int) => lex_reader_word_g1 y ([2, 3] : List Int) 0)).1)) [(0, AObj.row 206 4 [[runes (((lex_reader_while r_ (fun (y : Int) => lex_reader_word_g1 y ([2, 3] : List Int) 0)).2).line), I (((lex_reader_while r_ (fun (y : Int) => lex_reader_word_g1 y ([2, 3] : List Int) 0)).2).at_), I (((lex_reader_while r_ (fun (y : Int) => lex_reader_word_g1 y ([2, 3] : List Int) 0)).2).bad), I (((lex_reader_while r_ (fun (y : Int) => lex_reader_word_g1 y ([2, 3] : List Int) 0)).2).error)]]), (0, AObj.row 113 1 [[ints ([2, 3] : List Int)]]), (0, AObj.row 207 1 [[AVal.fn (.func 208) [] [AVal.ptr 1 0 1 0 0]]])] := by
    have hR : lex_reader_while r_ (fun (y : Int) => lex_reader_word_g1 y ([2, 3] : List Int) 0) = lex_reader_while r_ (fun (y : Int) => lex_reader_word_g1 y ([2, 3] : List Int) 0) := rfl
    refine AMoves.of_cwp (kp 6 [33]) Tryz.func199 rfl rfl rfl ?_
    conv => whnf
    refine loop_start1 (fun (c : LexReader) => ∃ m, (Int.toNat ((c.line.length : Int) - c.at_)) < m ∧ lex_reader_while_k1 r_ (lex_reader_while_g1 (fun (y : Int) => lex_reader_word_g1 y ([2, 3] : List Int) 0) m c) = lex_reader_while r_ (fun (y : Int) => lex_reader_word_g1 y ([2, 3] : List Int) 0) ∧ 0 ≤ c.at_ ∧ c.at_ ≤ (c.line.length : Int) ∧ c.line.length ≤ 400 ∧ r_.at_ ≤ c.at_ ∧ 0 ≤ r_.at_) (fun c => (Int.toNat ((c.line.length : Int) - c.at_))) (fun c => [(0, AVal.ptr 0 0 4 0 0), (1, AVal.fn (.func 220) [] [AVal.ptr 2 0 1 0 0]), (4, Sg ⟨#[]⟩), (5, I r_.at_)]) (fun c => [(0, AObj.row 206 4 [[runes c.line, I c.at_, I c.bad, I c.error]]), (0, AObj.row 113 1 [[ints ([2, 3] : List Int)]]), (0, AObj.row 207 1 [[AVal.fn (.func 208) [] [AVal.ptr 1 0 1 0 0]]])]) r_ (wk [0, 1, 2] (tO rfl (ts LexReader.lo) (tO rfl (ts (lv lw LowL.nil)) (tO rfl (turn_row1 (cv (turn_fn .nil (cv (turn_ptr 1 rfl rfl) .nil)) .nil)) .nil))) (sv (turn_ptr 0 rfl rfl) (sv (turn_fn .nil (cv (turn_ptr 2 rfl rfl) .nil)) (s1 (s1 .nil))))) ⟨_, Nat.lt_succ_self _, foll hR rfl, by exact exA⟩ ?_
    clear hR
    rintro c ⟨m, hm, hR, hx⟩
    try dsimp only at hR hm hx
    obtain ⟨m, rfl⟩ : ∃ k, m = k + 1 := ⟨m - 1, by omega⟩
    conv => whnf
    refine dchk (by kernel_rfl) ?_
    conv => whnf
    refine And.intro gkA ?_
    conv => whnf
    (first | apply u2 | apply u3 | apply u4 | apply ACalls.use); exact mv [1, 2] (cl1 (c.line.getD (Int.toNat c.at_) 0)) (dO (ds (lv lw LowL.nil)) (dO (dc (dv (dn_fn .nil (dp .nil)) .nil)) .nil)) (d1 (dp .nil)) (rO (re (lv lw LowL.nil)) (rO (rc (rv (ren_fn .nil (.cons _ _ _ _ (rp 1 0 rfl) .nil)) .nil)) .nil)) rx
    conv => whnf
    repeat ((first | refine And.intro rfl ?_ | refine And.intro (fun _ => rfl) ?_); conv => whnf)
    refine And.intro (fun h5 => ?_) (fun h6 => ?_)
    · conv => whnf
      have hq1 := of_decide_eq_true ((Bool.and_eq_true _ _).mp h5).1; have hwr : w64 (c.at_ + 1) = c.at_ + 1 := wr (by omega)
      exact loop_next1 { c with at_ := (w64 (c.at_ + 1)) } (wk [0, 1, 2] (tO rfl (ts LexReader.lo) (tO rfl (ts (lv lw LowL.nil)) (tO rfl (turn_row1 (cv (turn_fn .nil (cv (turn_ptr 1 rfl rfl) .nil)) .nil)) .nil))) (sv (turn_ptr 0 rfl rfl) (sv (turn_fn .nil (cv (turn_ptr 2 rfl rfl) .nil)) (s1 (s1 .nil))))) omA ⟨m, by exact omA, foll hR (congrArg (fun p : LexReader => lex_reader_while_k1 r_ p) (ct h5 rfl)), by exact exA⟩
    · conv => whnf
      replace hR : lex_reader_while_k1 r_ c = lex_reader_while r_ (fun (y : Int) => lex_reader_word_g1 y ([2, 3] : List Int) 0) := fo2 (fun p : LexReader => lex_reader_while_k1 r_ p) (c) hR (cf h6 rfl)
      refine dchk (by kernel_rfl) ?_
      conv => whnf
      refine And.intro gkA ?_
      conv => whnf
      first | refine ⟨(List.drop (Int.toNat r_.at_) (List.take (Int.toNat c.at_) c.line)), by exact cvA, ?_⟩ | refine ⟨_, fun _ => ⟨(List.drop (Int.toNat r_.at_) (List.take (Int.toNat c.at_) c.line)), by exact cvA, rfl, rfl⟩, ?_⟩ | refine ⟨_, rfl, ⟨(List.drop (Int.toNat r_.at_) (List.take (Int.toNat c.at_) c.line)), by exact cvA, Sub.refl _, rfl⟩, ?_⟩
      conv => whnf
      repeat ((first | refine And.intro rfl ?_ | refine And.intro (fun _ => rfl) ?_); conv => whnf)
      refine ret_moves (fun r : ByteArray × LexReader => Sg r.1) (fun r : ByteArray × LexReader => [(0, AObj.row 206 4 [[runes r.2.line, I r.2.at_, I r.2.bad, I r.2.error]]), (0, AObj.row 113 1 [[ints ([2, 3] : List Int)]]), (0, AObj.row 207 1 [[AVal.fn (.func 208) [] [AVal.ptr 1 0 1 0 0]]])]) (leaf := ((runesBytes (List.drop (Int.toNat r_.at_) (List.take (Int.toNat c.at_) c.line))), c)) (foll hR rfl) ?_
      exact tt [0, 1, 2] (tO rfl (ts LexReader.lo) (tO rfl (ts (lv lw LowL.nil)) (tO rfl (turn_row1 (cv (turn_fn .nil (cv (turn_ptr 1 rfl rfl) .nil)) .nil)) .nil))) t1
  refine ACalls.use (mv [0, 2, 3] (hof1) (dO (ds LexReader.lo) (dO (dc (dv (dn_as (as_lits (c := (fun q_ => [I q_])) (d := 0) ([2, 3] : List Int) rfl) lw) .nil)) (dO (dc (dv (dn_fn .nil (dp .nil)) .nil)) .nil))) (dp (dv (dn_fn .nil (dp .nil)) .nil)) (rO (re LexReader.lo) (rO (re (lv lw LowL.nil)) (rO (rc (rv (ren_fn .nil (.cons _ _ _ _ (rp 2 0 rfl) .nil)) .nil)) .nil))) rx) ?_
  conv => whnf
  refine ACalls.use (runes_Lower_c ((lex_reader_while r_ (fun (y : Int) => lex_reader_word_g1 y ([2, 3] : List Int) 0)).1) (by first | (exact lex_while_sz _ _ hp0.2.2) | exact szA) _) ?_
  conv => whnf
  obtain rfl := foll hR rfl
  exact rq (tt [0] (tO rfl (ts LexReader.lo) .nil) (turn_low (Low.agg' (Token.lo))))

-- F strconv.Atoi
def strconv_Atoi (s : ByteArray) : Int × Unit :=
  ((istrconv_Atoi s).1, ())

theorem strconv_Atoi_c (s : ByteArray) (hs0 : s.size ≤ 4294967296) (hp0 : atoiOK s) : ∀ objs, AGives Tryz.prog 231 [Sg s] objs (AVal.tup [I ((strconv_Atoi s).1), AVal.lit .nilIface]) := by
  generalize hR : strconv_Atoi s = R
  refine AGives.any' (l1 .nil) (Low.tup' (l1 (l1 .nil))) (ACalls.of_cwp (kp 6 [12]) Tryz.func231 rfl rfl ?_)
  have hk0 := hs0
  obtain z1 : s.size ≤ 4294967296 := hs0
  conv => whnf
  refine ACalls.use (istrconv_Atoi_c s szA ckA _) ?_
  conv => whnf
  refine And.intro (fun h => nomatch h) (fun _ => ?_)
  conv => whnf
  obtain rfl := foll hR rfl
  exact ret_seen (Low.tup' (l1 (l1 .nil))) (Seen.tup (e1 (e1 .nil)))

-- F (*muster/lex.reader).text$1
def lex_reader_text_c1 (x_ : Int) (held : Bool) : Bool × Bool :=
  bif (((runes_Class x_) == 0) || ((x_ == 34) && (!held))) then
    (false, held)
  else
    (true, ((x_ == 92) && (!held)))

theorem lex_reader_text_c1_c (x_ : Int) (held : Bool) : AMoves Tryz.prog 225 [J x_, AVal.ptr 0 0 1 0 0] [(0, AObj.row 4 1 [[Bo held]])] 1 (Bo ((lex_reader_text_c1 x_ held).1)) [(0, AObj.row 4 1 [[Bo ((lex_reader_text_c1 x_ held).2)]])] := by
  generalize hR : lex_reader_text_c1 x_ held = R
  refine AMoves.of_cwp (kp 4 [14]) Tryz.func225 rfl rfl rfl ?_
  conv => whnf
  refine ACalls.use (runes_Class_c x_ _) ?_
  conv => whnf
  refine And.intro (fun h1 => ?_) (fun h2 => ?_)
  · conv => whnf
    obtain rfl := foll hR (ct h1 rfl)
    exact rq (tt [0] (tO rfl (ts (l1 LowL.nil)) .nil) t1)
  · conv => whnf
    obtain rfl := foll hR (cf h2 rfl)
    exact rq (tt [0] (tO rfl (ts (l1 LowL.nil)) .nil) t1)

-- F unicode/utf8.AppendRune
def utf8_AppendRune (p_ : List Int) (r_ : Int) : (List Int) :=
  bif (decide ((wu32 r_) ≤ 127)) then
    (p_ ++ ([(wu8 r_)] : List Int))
  else
    (utf8_appendRuneNonASCII p_ r_)

theorem utf8_AppendRune_o (p_ : List Int) (r_ : Int) (hs0 : p_.length ≤ 4294967296) : AMoves Tryz.prog 230 [AVal.own 0 0 1 0 p_.length, J r_] [(0, AObj.row 5 1 (p_.map (fun q_ => [Y q_])))] 0 (AVal.own 0 0 1 0 (utf8_AppendRune p_ r_).length) [(0, AObj.row 5 1 ((utf8_AppendRune p_ r_).map (fun q_ => [Y q_])))] := by
  generalize hR : utf8_AppendRune p_ r_ = R
  refine AMoves.of_cwp (kp 5 [7]) Tryz.func230 rfl rfl rfl ?_
  have hk0 := hs0
  obtain z3 : p_.length ≤ 4294967296 := hs0
  conv => whnf
  refine And.intro (fun h1 => ?_) (fun h2 => ?_)
  · conv => whnf
    have qh1 := of_decide_eq_true h1
    refine Or.inl ?_
    conv => whnf
    first | refine ⟨app_ok 1 rfl lnA (by first | (simp; omega) | grind), ?_⟩ | refine ⟨app_nil 1 rfl (by first | (simp; omega) | grind), ?_⟩
    conv => whnf
    obtain rfl := foll hR (ct h1 rfl)
    exact rq (tt [0] (tO rfl (tl eqA) .nil) (to 0 lnA))
  · conv => whnf
    have qh2 := of_decide_eq_false h2
    refine ACalls.use (mv [0] (utf8_appendRuneNonASCII_o p_ r_ szA) (dO (dr eqA) .nil) (dv (dn_ownl rfl lnA) (d1 .nil)) (rO rr .nil) (rw_ 1 0 rfl)) ?_
    conv => whnf
    obtain rfl := foll hR (cf h2 rfl)
    exact rq (tt [1] (tO rfl (tl eqA) .nil) (to 0 lnA))

theorem utf8_AppendRune_all (l : List Int) (r_ : Int) : ∃ k, utf8_AppendRune l r_ = l ++ k ∧ 1 ≤ k.length ∧ k.length ≤ 4 ∧ byteIn k := by
  have h1 : ∀ a : Int, byteIn [wu8 a] := fun a => byteIn_cons (wu8_in a) byteIn_nil
  have h2 : ∀ a b : Int, byteIn [wu8 a, wu8 b] := fun a b => byteIn_cons (wu8_in a) (h1 b)
  have h3 : ∀ a b c : Int, byteIn [wu8 a, wu8 b, wu8 c] := fun a b c => byteIn_cons (wu8_in a) (h2 b c)
  have h4 : ∀ a b c d : Int, byteIn [wu8 a, wu8 b, wu8 c, wu8 d] := fun a b c d => byteIn_cons (wu8_in a) (h3 b c d)
  have hc : byteIn [239, 191, 189] := byteIn_cons (by decide) (byteIn_cons (by decide) (byteIn_cons (by decide) byteIn_nil))
  unfold utf8_AppendRune
  cases (decide ((wu32 r_) ≤ 127)) with
  | true => exact ⟨_, rfl, by simp, by simp, h1 _⟩
  | false =>
    simp only [cond_false]
    unfold utf8_appendRuneNonASCII
    repeat' first
      | exact ⟨_, rfl, by simp, by simp, h2 _ _⟩
      | exact ⟨_, rfl, by simp, by simp, h3 _ _ _⟩
      | exact ⟨_, rfl, by simp, by simp, h4 _ _ _ _⟩
      | exact ⟨_, rfl, by simp, by simp, hc⟩
      | unfold utf8_appendRuneNonASCII_k1
      | (rw [Bool.cond_eq_ite]; split)

theorem utf8_AppendRune_ne (l : List Int) (r_ : Int) : (utf8_AppendRune l r_).length ≠ 0 := by
  obtain ⟨k, e, h, _⟩ := utf8_AppendRune_all l r_
  rw [e, List.length_append]
  omega

theorem utf8_AppendRune_len (l : List Int) (r_ : Int) : (utf8_AppendRune l r_).length ≤ l.length + 4 := by
  obtain ⟨k, e, _, h, _⟩ := utf8_AppendRune_all l r_
  rw [e, List.length_append]
  omega

theorem byteIn_rune (l : List Int) (r_ : Int) (h : byteIn l) : byteIn (utf8_AppendRune l r_) := by
  obtain ⟨k, e, _, _, g⟩ := utf8_AppendRune_all l r_
  rw [e]
  exact byteIn_app h g

-- F slices.ContainsFunc[[]muster/api.Dep,muster/api.Dep]
def slices_ContainsFunc_Dep (s : List Dep) (f : Dep → Bool) : Bool :=
  (decide ((slices_IndexFunc_Dep s f) ≥ 0))

-- F muster/cmd.id
def cmd_id (n : Int) : Bool :=
  (cmd_within n 1 99999)

theorem cmd_id_c (n : Int) : ∀ objs, AGives Tryz.prog 179 [I n] objs (Bo (cmd_id n)) := by
  generalize hR : cmd_id n = R
  refine AGives.any' (l1 .nil) lx (ACalls.of_cwp (kp 3 []) Tryz.func179 rfl rfl ?_)
  conv => whnf
  refine ACalls.use (cmd_within_c n 1 99999 _) ?_
  conv => whnf
  obtain rfl := foll hR rfl
  exact ret_seen lx sr

-- F muster/shape.Same
def shape_Same (a : Shape) (b : Shape) : Bool :=
  (((((a.kind == b.kind) && (a.min == b.min)) && (a.max == b.max)) && (a.wall == b.wall)) && (slices_Equal_Alt a.alts b.alts))

theorem shape_Same_c (a : Shape) (b : Shape) (hs0 : a.sz) (hs1 : b.sz) : ∀ objs, AGives Tryz.prog 121 [Shape.a a, Shape.a b] objs (Bo (shape_Same a b)) := by
  generalize hR : shape_Same a b = R
  refine AGives.any' (.cons (Shape.low _ _) (.cons (Shape.low _ _) .nil)) lx (ACalls.of_cwp (kp 5 []) Tryz.func121 rfl rfl ?_)
  have hk0 := hs0
  obtain z1 : a.alts.length ≤ 4294967296 := hs0
  have hk1 := hs1
  obtain z2 : b.alts.length ≤ 4294967296 := hs1
  conv => whnf
  (first | apply u2 | apply u3 | apply u4 | apply ACalls.use); exact slices_Equal_Alt_c a.alts b.alts szA szA _
  conv => whnf
  obtain rfl := foll hR rfl
  exact ret_seen lx sr

-- F (muster/job.view).over
def job_view_over (v : Job) : Bool :=
  (((((((v.nodes == 0) && (job_tick v.start)) && (job_tick v.limit)) && (decide (v.promise ≥ (-1)))) && (decide (v.promise ≤ 1000000))) && (decide (v.choice ≥ 0))) && (decide (v.choice ≤ 48)))

theorem job_view_over_c (v : Job) : ∀ objs, AGives Tryz.prog 144 [Job.a v] objs (Bo (job_view_over v)) := by
  generalize hR : job_view_over v = R
  refine AGives.any' (.cons (Job.low _ _) .nil) lx (ACalls.of_cwp (kp 3 []) Tryz.func144 rfl rfl ?_)
  conv => whnf
  (first | apply u2 | apply u3 | apply u4 | apply ACalls.use); exact job_tick_c v.start _
  conv => whnf
  (first | apply u2 | apply u3 | apply u4 | apply ACalls.use); exact job_tick_c v.limit _
  conv => whnf
  obtain rfl := foll hR rfl
  exact ret_seen lx sr

-- F muster/nodeset.Count
def nodeset_Count (s : Int) : Int :=
  (bits_OnesCount64 s)

theorem nodeset_Count_c (s : Int) : ∀ objs, AGives Tryz.prog 22 [U s] objs (I (nodeset_Count s)) := by
  generalize hR : nodeset_Count s = R
  refine AGives.any' (l1 .nil) lx (ACalls.of_cwp (kp 3 []) Tryz.func22 rfl rfl ?_)
  conv => whnf
  refine ACalls.use (bits_OnesCount64_c s _) ?_
  conv => whnf
  obtain rfl := foll hR rfl
  exact ret_seen lx sr

-- F muster/nodeset.All
def nodeset_All (n : Int) : Int :=
  bif (decide (n ≤ 0)) then
    0
  else
    bif (decide (n ≥ 64)) then
      18446744073709551615
    else
      (wu64 ((nodeset_one n) - 1))

theorem nodeset_All_c (n : Int) : ∀ objs, AGives Tryz.prog 20 [I n] objs (U (nodeset_All n)) := by
  generalize hR : nodeset_All n = R
  refine AGives.any' (l1 .nil) lx (ACalls.of_cwp (kp 3 [3, 6]) Tryz.func20 rfl rfl ?_)
  conv => whnf
  refine And.intro (fun h1 => ?_) (fun h2 => ?_)
  · conv => whnf
    have qh1 := of_decide_eq_true h1
    obtain rfl := foll hR (ct h1 rfl)
    exact ret_seen lx sr
  · conv => whnf
    have qh2 := of_decide_eq_false h2
    refine And.intro (fun h3 => ?_) (fun h4 => ?_)
    · conv => whnf
      have qh3 := of_decide_eq_true h3
      obtain rfl := foll hR (cf h2 (ct h3 rfl))
      exact ret_seen lx sr
    · conv => whnf
      have qh4 := of_decide_eq_false h4
      refine ACalls.use (nodeset_one_c n _) ?_
      conv => whnf
      obtain rfl := foll hR (cf h2 (cf h4 rfl))
      exact ret_seen lx sr

-- F slices.ContainsFunc[[]muster/api.Node,muster/api.Node]
def slices_ContainsFunc_Node (s : List Node) (f : Node → Bool) : Bool :=
  (decide ((slices_IndexFunc_Node s f) ≥ 0))

-- F slices.Contains[[]int,int]
def slices_Contains_int (s : List Int) (v : Int) : Bool :=
  (decide ((slices_Index_int s v) ≥ 0))

theorem slices_Contains_int_c (s : List Int) (v : Int) (hs0 : s.length ≤ 4294967296) : ∀ objs, AGives Tryz.prog 153 [ints s, I v] objs (Bo (slices_Contains_int s v)) := by
  generalize hR : slices_Contains_int s v = R
  refine AGives.any' (.cons lw (l1 .nil)) lx (ACalls.of_cwp (kp 5 []) Tryz.func153 rfl rfl ?_)
  have hk0 := hs0
  obtain z1 : s.length ≤ 4294967296 := hs0
  conv => whnf
  refine ACalls.use (slices_Index_int_c s v szA _) ?_
  conv => whnf
  obtain rfl := foll hR rfl
  exact ret_seen lx sr

-- F muster/book.Check
def book_Check_g1 (l : List Book) : List Book → Nat → Int
  | [], _ =>
    0
  | x_ :: r, i =>
    bif ((!(book_fine x_)) || ((decide ((i : Int) > 0)) && (decide ((l.getD (Int.toNat (w64 ((i : Int) - 1))) Book.zero).id ≥ x_.id)))) then
      190
    else
      book_Check_g1 l r (i + 1)

def book_Check (l : List Book) : Int :=
  bif (decide ((l.length : Int) > 8)) then
    190
  else
    book_Check_g1 l l 0

theorem book_Check_c (l : List Book) (hs0 : l.length ≤ 4294967296) : ∀ objs, AGives Tryz.prog 99 [bookL l] objs (I (book_Check l)) := by
  generalize hR : book_Check l = R
  refine AGives.any' (.cons lw .nil) lx (ACalls.of_cwp (kp 5 [7, 8, 9, 10, 11, 32]) Tryz.func99 rfl rfl ?_)
  have hk0 := hs0
  obtain z7 : l.length ≤ 4294967296 := hs0
  conv => whnf
  refine And.intro (fun h1 => ?_) (fun h2 => ?_)
  · conv => whnf
    have qh1 := of_decide_eq_true h1
    obtain rfl := foll hR (ct h1 rfl)
    exact ret_seen lx sr
  · conv => whnf
    have qh2 := of_decide_eq_false h2
    refine loop_start1 (fun (i : Nat) => book_Check_g1 l (List.drop i l) i = R ∧ i ≤ l.length) (fun i => l.length - i) (fun i => [(0, bookL l), (2, I 0), (8, bookL l), (9, I (l.length : Int)), (10, I (i : Int))]) (fun i => []) 0 (wk [] .nil (sl lw (s1 (sl lw (s1 (s1 .nil)))))) ⟨foll hR (cf h2 rfl), by exact omA⟩ ?_
    clear hR
    rintro i ⟨hR, hj⟩
    try dsimp only at hR hj
    conv => whnf
    refine And.intro (fun h3 => ?_) (fun h4 => ?_)
    · have hlt : i < l.length := by have := of_decide_eq_true h3; omega
      rw [drop_getD Book.zero hlt] at hR
      conv => whnf
      refine And.intro gkA ?_
      conv => whnf
      refine dchk (by kernel_rfl) ?_
      conv => whnf
      (first | apply u2 | apply u3 | apply u4 | apply ACalls.use); exact book_fine_c (l.getD i Book.zero) _
      conv => whnf
      refine And.intro gkA ?_
      conv => whnf
      repeat ((first | refine And.intro rfl ?_ | refine And.intro (fun _ => rfl) ?_ | refine And.intro (fun _ => book_fine_c (l.getD i Book.zero) _) ?_); conv => whnf)
      refine And.intro (fun h5 => ?_) (fun h6 => ?_)
      · conv => whnf
        obtain rfl := foll hR (ct h5 rfl)
        exact ret_seen lx sr
      · conv => whnf
        exact loop_next1 (i + 1) (wk [] .nil (sl lw (s1 (sl lw (s1 (sv (turn_eq (I_eq (wr omA)) lx) .nil)))))) omA ⟨foll hR (cf h6 rfl), by exact omA⟩
    · rw [drop_none (l := l) (j := i) (by have := of_decide_eq_false h4; omega)] at hR
      conv => whnf
      obtain rfl := foll hR rfl
      exact ret_seen lx sr

-- F cmp.Compare[string]
def cmp_Compare_string (x_ : ByteArray) (y : ByteArray) : Int :=
  bif (cmp_isNaN_string x_) then
    bif (cmp_isNaN_string y) then
      0
    else
      (-1)
  else
    bif (cmp_isNaN_string y) then
      1
    else
      bif (Op.bytesLess (ByteArray.toList x_) (ByteArray.toList y)) then
        (-1)
      else
        bif (!((Op.bytesLess (ByteArray.toList x_) (ByteArray.toList y)) || (ByteArray.toList x_ == ByteArray.toList y))) then
          1
        else
          0

theorem cmp_Compare_string_c (x_ : ByteArray) (y : ByteArray) : ∀ objs, AGives Tryz.prog 134 [Sg x_, Sg y] objs (I (cmp_Compare_string x_ y)) := by
  generalize hR : cmp_Compare_string x_ y = R
  refine AGives.any' (l1 (l1 .nil)) lx (ACalls.of_cwp (kp 7 [11, 12, 13, 16, 19]) Tryz.func134 rfl rfl ?_)
  conv => whnf
  refine ACalls.use (cmp_isNaN_string_c x_ _) ?_
  conv => whnf
  refine ACalls.use (cmp_isNaN_string_c y _) ?_
  conv => whnf
  refine And.intro (fun h1 => ?_) (fun h2 => ?_)
  · conv => whnf
    refine And.intro (fun h3 => ?_) (fun h4 => ?_)
    · conv => whnf
      obtain rfl := foll hR (ct h1 (ct h3 rfl))
      exact ret_seen lx sr
    · conv => whnf
      obtain rfl := foll hR (ct h1 (cf h4 rfl))
      exact ret_seen lx sr
  · conv => whnf
    refine And.intro (fun h5 => ?_) (fun h6 => ?_)
    · conv => whnf
      obtain rfl := foll hR (cf h2 (ct h5 rfl))
      exact ret_seen lx sr
    · conv => whnf
      refine And.intro (fun h7 => ?_) (fun h8 => ?_)
      · conv => whnf
        obtain rfl := foll hR (cf h2 (cf h6 (ct h7 rfl)))
        exact ret_seen lx sr
      · conv => whnf
        refine And.intro (fun h9 => ?_) (fun h10 => ?_)
        · conv => whnf
          obtain rfl := foll hR (cf h2 (cf h6 (cf h8 (ct h9 rfl))))
          exact ret_seen lx sr
        · conv => whnf
          obtain rfl := foll hR (cf h2 (cf h6 (cf h8 (cf h10 rfl))))
          exact ret_seen lx sr

-- F muster/nodeset.Of
def nodeset_Of_g1  : List Int → Int → Nat → Int × Int
  | [], s, _ =>
    (s, 0)
  | x_ :: r, s, i =>
    bif (((decide (x_ < 0)) || (decide (x_ ≥ 64))) || ((wu64 (BitVec.ofInt 64 s &&& BitVec.ofInt 64 (nodeset_one x_)).toNat) != 0)) then
      (0, 90)
    else
      nodeset_Of_g1 r (wu64 (BitVec.ofInt 64 s ||| BitVec.ofInt 64 (nodeset_one x_)).toNat) (i + 1)

def nodeset_Of (l : List Int) : Int × Int :=
  nodeset_Of_g1 l 0 0

theorem nodeset_Of_c (l : List Int) (hs0 : l.length ≤ 4294967296) : ∀ objs, AGives Tryz.prog 97 [ints l] objs (AVal.tup [U ((nodeset_Of l).1), I ((nodeset_Of l).2)]) := by
  generalize hR : nodeset_Of l = R
  refine AGives.any' (.cons lw .nil) (Low.tup' (l1 (l1 .nil))) (ACalls.of_cwp (kp 7 [7, 8, 9, 10, 25]) Tryz.func97 rfl rfl ?_)
  have hk0 := hs0
  obtain z5 : l.length ≤ 4294967296 := hs0
  conv => whnf
  refine loop_start2 (fun (s : Int) (i : Nat) => nodeset_Of_g1 (List.drop i l) s i = R ∧ i ≤ l.length) (fun s i => l.length - i) (fun s i => [(2, U 0), (3, I 0), (4, U s), (7, ints l), (8, I (l.length : Int)), (9, I (i : Int))]) (fun s i => []) 0 0 (wk [] .nil (s1 (s1 (s1 (sl lw (s1 (s1 .nil))))))) ⟨foll hR rfl, by exact omA⟩ ?_
  clear hR
  rintro s i ⟨hR, hj⟩
  try dsimp only at hR hj
  conv => whnf
  refine And.intro (fun h1 => ?_) (fun h2 => ?_)
  · have hlt : i < l.length := by have := of_decide_eq_true h1; omega
    rw [drop_getD 0 hlt] at hR
    conv => whnf
    refine And.intro gkA ?_
    conv => whnf
    (first | apply u2 | apply u3 | apply u4 | apply ACalls.use); exact nodeset_one_c (l.getD i 0) _
    conv => whnf
    refine And.intro (fun h3 => ?_) (fun h4 => ?_)
    · conv => whnf
      obtain rfl := foll hR (ct h3 rfl)
      exact ret_seen (Low.tup' (l1 (l1 .nil))) (Seen.tup (e1 (e1 .nil)))
    · conv => whnf
      refine ACalls.use (nodeset_one_c (l.getD i 0) _) ?_
      conv => whnf
      exact loop_next2 (wu64 (BitVec.ofInt 64 s ||| BitVec.ofInt 64 (nodeset_one (l.getD i 0))).toNat) (i + 1) (wk [] .nil (s1 (s1 (s1 (sl lw (s1 (sv (turn_eq (I_eq (wr omA)) lx) .nil))))))) omA ⟨foll hR (cf h4 rfl), by exact omA⟩
  · rw [drop_none (l := l) (j := i) (by have := of_decide_eq_false h2; omega)] at hR
    conv => whnf
    obtain rfl := foll hR rfl
    exact ret_seen (Low.tup' (l1 (l1 .nil))) (Seen.tup (e1 (e1 .nil)))

-- F muster/nodeset.List
def nodeset_List_g1 (s : Int) : Nat → List Int → Nat → (List Int)
  | 0, _, _ => []
  | m + 1, out, i =>
    bif (decide ((i : Int) < 64)) then
      bif ((wu64 (BitVec.ofInt 64 s &&& BitVec.ofInt 64 (nodeset_one (i : Int))).toNat) != 0) then
        nodeset_List_g1 s m (out ++ ([(i : Int)] : List Int)) (i + 1)
      else
        nodeset_List_g1 s m out (i + 1)
    else
      out

def nodeset_List_k1 (out : List Int) : (List Int) :=
  out

def nodeset_List (s : Int) : (List Int) :=
  nodeset_List_k1 (nodeset_List_g1 s ((Int.toNat (64 - (0 : Int))) + 1) [] 0)

theorem nodeset_List_c (s : Int) : ∀ objs, AGives Tryz.prog 135 [U s] objs (ints (nodeset_List s)) := by
  generalize hR : nodeset_List s = R
  refine AGives.any' (l1 .nil) lw (ACalls.of_cwp (kp 5 [5, 6, 12]) Tryz.func135 rfl rfl ?_)
  conv => whnf
  refine loop_start2 (fun (out : List Int) (i : Nat) => ∃ m, (Int.toNat (64 - (i : Int))) < m ∧ nodeset_List_k1 (nodeset_List_g1 s m out i) = R ∧ out.length ≤ i) (fun out i => (Int.toNat (64 - (i : Int)))) (fun out i => [(0, U s), (2, AVal.lit (.slice none 0 0)), (3, AVal.own 0 0 1 0 out.length), (5, I (i : Int))]) (fun out i => [(0, AObj.row 3 1 (out.map (fun q_ => [I q_])))]) [] 0 ((weaker_none 3 1).trans (wk [0] (tO rfl (tl eqA) .nil) (s1 (s1 (sv (turn_nilown 0 rfl) (s1 .nil)))))) ⟨_, Nat.lt_succ_self _, foll hR rfl, by exact exA⟩ ?_
  clear hR
  rintro out i ⟨m, hm, hR, hx⟩
  try dsimp only at hR hm hx
  obtain ⟨m, rfl⟩ : ∃ k, m = k + 1 := ⟨m - 1, by omega⟩
  conv => whnf
  refine And.intro (fun h1 => ?_) (fun h2 => ?_)
  · conv => whnf
    have qh1 := of_decide_eq_true h1
    refine ACalls.use (nodeset_one_c (i : Int) _) ?_
    conv => whnf
    refine And.intro (fun h3 => ?_) (fun h4 => ?_)
    · conv => whnf
      refine Or.inl ?_
      conv => whnf
      first | refine ⟨app_ok 8 rfl lnA (by first | (simp; omega) | grind), ?_⟩ | refine ⟨app_nil 8 rfl (by first | (simp; omega) | grind), ?_⟩
      conv => whnf
      exact loop_next2 (out ++ ([(i : Int)] : List Int)) (i + 1) (wk [0] (tO rfl (tl eqA) .nil) (s1 (s1 (sv (to 0 lnA) (sv (turn_eq (I_eq (wr omA)) lx) .nil))))) omA ⟨m, by exact omA, foll hR (congrArg (fun p : (List Int) => nodeset_List_k1 p) (ct h1 (ct h3 rfl))), by exact exA⟩
    · conv => whnf
      exact loop_next2 out (i + 1) (wk [0] (tO rfl (tl eqA) .nil) (s1 (s1 (sv (to 0 lnA) (sv (turn_eq (I_eq (wr omA)) lx) .nil))))) omA ⟨m, by exact omA, foll hR (congrArg (fun p : (List Int) => nodeset_List_k1 p) (ct h1 (cf h4 rfl))), by exact exA⟩
  · conv => whnf
    have qh2 := of_decide_eq_false h2
    replace hR : nodeset_List_k1 out = R := fo2 (fun p : (List Int) => nodeset_List_k1 p) (out) hR (cf h2 rfl)
    obtain rfl := foll hR rfl
    exact ret_seen lw (seen_list 0 _ rfl eqA lnA)

theorem nodeset_List_mem1 (s : Int) : ∀ (m : Nat) (out : List Int) (i : Nat), (∀ x ∈ out, 0 ≤ x ∧ x < 64) → ∀ x ∈ nodeset_List_g1 s m out i, 0 ≤ x ∧ x < 64
  | 0, _, _, _, x, hx => by simp [nodeset_List_g1] at hx
  | m + 1, out, i, h, x, hx => by
    rw [nodeset_List_g1] at hx
    cases hd : decide ((i : Int) < 64) with
    | false => rw [hd] at hx; exact h x hx
    | true =>
      rw [hd] at hx
      have hi := of_decide_eq_true hd
      simp only [cond_true] at hx
      cases hb : ((wu64 (BitVec.ofInt 64 s &&& BitVec.ofInt 64 (nodeset_one (i : Int))).toNat) != 0) with
      | false => rw [hb] at hx; exact nodeset_List_mem1 s m out (i + 1) h x hx
      | true =>
        rw [hb] at hx
        refine nodeset_List_mem1 s m _ (i + 1) (fun y hy => ?_) x hx
        rcases List.mem_append.1 hy with hy | hy
        · exact h y hy
        · rw [List.mem_singleton.1 hy]; omega

theorem nodeset_List_mem (s : Int) : ∀ x ∈ nodeset_List s, 0 ≤ x ∧ x < 64 := nodeset_List_mem1 s _ _ _ (fun x hx => nomatch hx)

theorem nodeset_List_get (s : Int) {i : Nat} (h : i < (nodeset_List s).length) : 0 ≤ (nodeset_List s).getD i 0 ∧ (nodeset_List s).getD i 0 < 64 := by
  have e : (nodeset_List s).getD i 0 = (nodeset_List s)[i] := by simp [List.getD, List.getElem?_eq_getElem h]
  rw [e]
  exact nodeset_List_mem s _ (List.getElem_mem h)

theorem nodeset_List_len1 (s : Int) : ∀ (m : Nat) (out : List Int) (i : Nat), out.length ≤ i → i ≤ 64 → (nodeset_List_g1 s m out i).length ≤ 64
  | 0, _, _, _, _ => by simp [nodeset_List_g1]
  | m + 1, out, i, h, h64 => by
    rw [nodeset_List_g1]
    cases hd : decide ((i : Int) < 64) with
    | false => simp only [cond_false]; omega
    | true =>
      have hi := of_decide_eq_true hd
      simp only [cond_true]
      cases ((wu64 (BitVec.ofInt 64 s &&& BitVec.ofInt 64 (nodeset_one (i : Int))).toNat) != 0) with
      | false => exact nodeset_List_len1 s m out (i + 1) (by omega) (by omega)
      | true => exact nodeset_List_len1 s m _ (i + 1) (by simp; omega) (by omega)

theorem nodeset_List_len (s : Int) : (nodeset_List s).length ≤ 64 := nodeset_List_len1 s _ _ _ (by simp) (by omega)

-- F muster/nodeset.Has
def nodeset_Has (s : Int) (n : Int) : Bool :=
  (((decide (n ≥ 0)) && (decide (n < 64))) && ((wu64 (BitVec.ofInt 64 s &&& BitVec.ofInt 64 (nodeset_one n)).toNat) != 0))

theorem nodeset_Has_c (s : Int) (n : Int) : ∀ objs, AGives Tryz.prog 73 [U s, I n] objs (Bo (nodeset_Has s n)) := by
  generalize hR : nodeset_Has s n = R
  refine AGives.any' (l1 (l1 .nil)) lx (ACalls.of_cwp (kp 5 []) Tryz.func73 rfl rfl ?_)
  conv => whnf
  (first | apply u2 | apply u3 | apply u4 | apply ACalls.use); exact nodeset_one_c n _
  conv => whnf
  obtain rfl := foll hR rfl
  exact ret_seen lx sr

-- F muster/table.place
def table_place (l : List Job) (id_ : Int) : Int × Bool :=
  ((slices_BinarySearchFunc_int l id_ (fun (y : Job) (y1 : Int) => (w64 (y.id - y1)))).1, (slices_BinarySearchFunc_int l id_ (fun (y : Job) (y1 : Int) => (w64 (y.id - y1)))).2)

theorem table_place_c (l : List Job) (id_ : Int) (hs0 : l.length ≤ 4294967296 ∧ (∀ y ∈ l, y.sz)) : ∀ objs, AGives Tryz.prog 85 [jobL l, I id_] objs (AVal.tup [I ((table_place l id_).1), Bo ((table_place l id_).2)]) := by
  generalize hR : table_place l id_ = R
  refine AGives.any' (.cons lw (l1 .nil)) (Low.tup' (l1 (l1 .nil))) (ACalls.of_cwp (kp 6 []) Tryz.func85 rfl rfl ?_)
  have hk0 := hs0
  obtain ⟨z10, z11⟩ : l.length ≤ 4294967296 ∧ (∀ y ∈ l, y.sz) := hs0
  conv => whnf
  have cl1 : ∀ (y1 : Job) (y2 : Int) (hzy1 : y1.sz), AMoves Tryz.prog 117 [Job.a y1, I y2] [] 0 (I ((fun (y : Job) (y1 : Int) => (w64 (y.id - y1))) y1 y2)) [] := by
    intro y1 y2 hzy1
    have hky1 := hzy1
    obtain ⟨z1, z2, z3, z4, z5⟩ : y1.name.size ≤ 4294967296 ∧ y1.user.size ≤ 4294967296 ∧ y1.account.size ≤ 4294967296 ∧ (y1.shape.alts.length ≤ 4294967296) ∧ y1.after.length ≤ 4294967296 := hzy1
    have hR : (fun (y : Job) (y1 : Int) => (w64 (y.id - y1))) y1 y2 = (fun (y : Job) (y1 : Int) => (w64 (y.id - y1))) y1 y2 := rfl
    refine AMoves.of_cwp (kp 5 []) Tryz.func117 rfl rfl rfl ?_
    conv => whnf
    refine ret_moves (fun r : Int => I r) (fun _ => []) (leaf := (w64 (y1.id - y2))) (foll hR rfl) ?_
    exact tt [] .nil t1
  have hof1 : AMoves Tryz.prog 116 [jobL l, I id_, AVal.fn (.func 117) [] []] [] 0 (AVal.tup [I ((slices_BinarySearchFunc_int l id_ (fun (y : Job) (y1 : Int) => (w64 (y.id - y1)))).1), Bo ((slices_BinarySearchFunc_int l id_ (fun (y : Job) (y1 : Int) => (w64 (y.id - y1)))).2)]) [] := by
    have hR : slices_BinarySearchFunc_int l id_ (fun (y : Job) (y1 : Int) => (w64 (y.id - y1))) = slices_BinarySearchFunc_int l id_ (fun (y : Job) (y1 : Int) => (w64 (y.id - y1))) := rfl
    refine AMoves.of_cwp (kp 12 [17, 31]) Tryz.func116 rfl rfl rfl ?_
    conv => whnf
    refine loop_start2 (fun (i : Int) (j : Int) => ∃ m, (Int.toNat (j - i)) < m ∧ slices_BinarySearchFunc_int_k1 l id_ (fun (y : Job) (y1 : Int) => (w64 (y.id - y1))) (slices_BinarySearchFunc_int_g1 l id_ (fun (y : Job) (y1 : Int) => (w64 (y.id - y1))) m i j).1 (slices_BinarySearchFunc_int_g1 l id_ (fun (y : Job) (y1 : Int) => (w64 (y.id - y1))) m i j).2 = slices_BinarySearchFunc_int l id_ (fun (y : Job) (y1 : Int) => (w64 (y.id - y1))) ∧ 0 ≤ i ∧ i ≤ j ∧ j ≤ (l.length : Int)) (fun i j => (Int.toNat (j - i))) (fun i j => [(0, jobL l), (1, I id_), (2, AVal.fn (.func 117) [] []), (6, I 0), (7, Bo false), (8, I (l.length : Int)), (9, I i), (10, I j)]) (fun i j => []) 0 (l.length : Int) (wk [] .nil (sl lw (s1 (sv (turn_low (Low.fn _ _ _ LowL.nil LowL.nil)) (s1 (s1 (s1 (s1 (s1 .nil))))))))) ⟨_, Nat.lt_succ_self _, foll hR rfl, by first | (dsimp only; rw [hh3]; omega) | first | (dsimp only; rw [hh]; omega) | exact exA⟩ ?_
    clear hR
    rintro i j ⟨m, hm, hR, hx⟩
    try dsimp only at hR hm hx
    obtain ⟨m, rfl⟩ : ∃ k, m = k + 1 := ⟨m - 1, by omega⟩
    conv => whnf
    refine And.intro (fun h6 => ?_) (fun h7 => ?_)
    · conv => whnf
      have qh6 := of_decide_eq_true h6
      have hq0 : i < j := qh6; have hh : w64 (Int.fdiv (wu64 (w64 (i + j))) (2 ^ (min (Int.toNat 1) 64))) = (i + j) / 2 := half_ok hx.1 hq0 hx.2.2 (by omega); have hh3 : w64 (w64 (Int.fdiv (wu64 (w64 (i + j))) (2 ^ (min (Int.toNat 1) 64))) + 1) = (i + j) / 2 + 1 := by rw [hh]; exact wr (by omega)
      refine And.intro (by first | exact fun hg => decide_eq_true (by first | (show 0 ≤ w64 (Int.fdiv (wu64 (w64 (i + j))) (2 ^ (min (Int.toNat 1) 64))) ∧ w64 (Int.fdiv (wu64 (w64 (i + j))) (2 ^ (min (Int.toNat 1) 64))) < (l.length : Int); rw [hh]; omega) | exact ckA) | exact gkA) ?_
      conv => whnf
      refine And.intro (by first | exact fun hg => decide_eq_true (by first | (show 0 ≤ w64 (Int.fdiv (wu64 (w64 (i + j))) (2 ^ (min (Int.toNat 1) 64))) ∧ w64 (Int.fdiv (wu64 (w64 (i + j))) (2 ^ (min (Int.toNat 1) 64))) < (l.length : Int); rw [hh]; omega) | exact ckA) | exact gkA) ?_
      conv => whnf
      refine ACalls.use (mv [] (cl1 (l.getD (Int.toNat (w64 (Int.fdiv (wu64 (w64 (i + j))) (2 ^ (min (Int.toNat 1) 64))))) Job.zero) id_ szA) .nil (dl (Job.low _ _) (d1 .nil)) .nil rx) ?_
      conv => whnf
      refine And.intro (fun h8 => ?_) (fun h9 => ?_)
      · conv => whnf
        have qh8 := of_decide_eq_true h8
        exact loop_next2 (w64 ((w64 (Int.fdiv (wu64 (w64 (i + j))) (2 ^ (min (Int.toNat 1) 64)))) + 1)) j (wk [] .nil (sl lw (s1 (sv (turn_low (Low.fn _ _ _ LowL.nil LowL.nil)) (s1 (s1 (s1 (s1 (s1 .nil))))))))) (by first | (dsimp only; rw [hh3]; omega) | first | (dsimp only; rw [hh]; omega) | exact omA) ⟨m, by first | (dsimp only; rw [hh3]; omega) | first | (dsimp only; rw [hh]; omega) | exact omA, foll hR (congrArg (fun p : Int × Int => slices_BinarySearchFunc_int_k1 l id_ (fun (y : Job) (y1 : Int) => (w64 (y.id - y1))) p.1 p.2) (ct h6 (ct h8 rfl))), by first | (dsimp only; rw [hh3]; omega) | first | (dsimp only; rw [hh]; omega) | exact exA⟩
      · conv => whnf
        have qh9 := of_decide_eq_false h9
        exact loop_next2 i (w64 (Int.fdiv (wu64 (w64 (i + j))) (2 ^ (min (Int.toNat 1) 64)))) (wk [] .nil (sl lw (s1 (sv (turn_low (Low.fn _ _ _ LowL.nil LowL.nil)) (s1 (s1 (s1 (s1 (s1 .nil))))))))) (by first | (dsimp only; rw [hh3]; omega) | first | (dsimp only; rw [hh]; omega) | exact omA) ⟨m, by first | (dsimp only; rw [hh3]; omega) | first | (dsimp only; rw [hh]; omega) | exact omA, foll hR (congrArg (fun p : Int × Int => slices_BinarySearchFunc_int_k1 l id_ (fun (y : Job) (y1 : Int) => (w64 (y.id - y1))) p.1 p.2) (ct h6 (cf h9 rfl))), by first | (dsimp only; rw [hh3]; omega) | first | (dsimp only; rw [hh]; omega) | exact exA⟩
    · conv => whnf
      have qh7 := of_decide_eq_false h7
      replace hR : slices_BinarySearchFunc_int_k1 l id_ (fun (y : Job) (y1 : Int) => (w64 (y.id - y1))) i j = slices_BinarySearchFunc_int l id_ (fun (y : Job) (y1 : Int) => (w64 (y.id - y1))) := fo2 (fun p : Int × Int => slices_BinarySearchFunc_int_k1 l id_ (fun (y : Job) (y1 : Int) => (w64 (y.id - y1))) p.1 p.2) (i, j) hR (cf h7 rfl)
      refine And.intro (by first | exact fun hg => decide_eq_true (by first | (show 0 ≤ w64 (Int.fdiv (wu64 (w64 (i + j))) (2 ^ (min (Int.toNat 1) 64))) ∧ w64 (Int.fdiv (wu64 (w64 (i + j))) (2 ^ (min (Int.toNat 1) 64))) < (l.length : Int); rw [hh]; omega) | exact ckA) | exact gkA) ?_
      conv => whnf
      (first | apply u2 | apply u3 | apply u4 | apply ACalls.use); exact mv [] (cl1 (l.getD (Int.toNat i) Job.zero) id_ szA) .nil (dl (Job.low _ _) (d1 .nil)) .nil rx
      conv => whnf
      refine ret_moves (fun r : Int × Bool => AVal.tup [I r.1, Bo r.2]) (fun r : Int × Bool => []) (leaf := (i, ((decide (i < (l.length : Int))) && (((fun (y : Job) (y1 : Int) => (w64 (y.id - y1))) (l.getD (Int.toNat i) Job.zero) id_) == 0)))) (foll hR rfl) ?_
      exact tt [] .nil (turn_tup (c1 (c1 .nil)))
  refine ACalls.use (mv [] (hof1) .nil (dl lw (d1 (dv (dn_low (Low.fn _ _ _ LowL.nil LowL.nil)) .nil))) .nil (Ren.low _ (Low.tup' (l1 (l1 .nil))))) ?_
  conv => whnf
  obtain rfl := foll hR rfl
  exact ret_seen (Low.tup' (l1 (l1 .nil))) (Seen.tup (e1 (e1 .nil)))

theorem bs_ge (x_ : List Job) (target : Int) (cmp : Job → Int → Int) (hn : x_.length ≤ 4294967296) : ∀ (m : Nat) (i j : Int), 0 ≤ i → i ≤ j → j ≤ (x_.length : Int) → 0 ≤ (slices_BinarySearchFunc_int_g1 x_ target cmp m i j).1
  | 0, _, _, _, _, _ => by simp [slices_BinarySearchFunc_int_g1]
  | m + 1, i, j, h0, h1, h2 => by
    rw [slices_BinarySearchFunc_int_g1]
    cases hd : decide (i < j) with
    | false => exact h0
    | true =>
      have hlt := of_decide_eq_true hd
      rw [half_ok h0 hlt h2 (by omega)]
      simp only [cond_true]
      cases decide (cmp (x_.getD (Int.toNat ((i + j) / 2)) Job.zero) target < 0) with
      | true =>
        have hw : w64 ((i + j) / 2 + 1) = (i + j) / 2 + 1 := wr (by omega)
        simp only [cond_true]
        rw [hw]
        exact bs_ge x_ target cmp hn m _ _ (by omega) (by omega) h2
      | false => exact bs_ge x_ target cmp hn m _ _ h0 (by omega) (by omega)

theorem table_place_lt (l : List Job) (id_ : Int) (hn : l.length ≤ 4294967296) (h : (!(table_place l id_).2) = false) : 0 ≤ (table_place l id_).1 ∧ (table_place l id_).1 < (l.length : Int) := by
  simp only [table_place, slices_BinarySearchFunc_int, slices_BinarySearchFunc_int_k1, Bool.not_eq_false', Bool.and_eq_true, decide_eq_true_eq] at h
  exact ⟨bs_ge _ _ _ hn _ _ _ (by omega) (by omega) (by omega), h.1⟩


-- F muster/table.whole
def table_whole (l : List Job) : (List Job) :=
  l

theorem table_whole_c (l : List Job) (hs0 : l.length ≤ 4294967296 ∧ (∀ y ∈ l, y.sz)) : ∀ objs, AGives Tryz.prog 86 [jobL l] objs (jobL l) := by
  generalize hR : table_whole l = R
  refine AGives.any' (.cons lw .nil) lw (ACalls.of_cwp (kp 5 [8, 9, 10]) Tryz.func86 rfl rfl ?_)
  have hk0 := hs0
  obtain ⟨z8, z9⟩ : l.length ≤ 4294967296 ∧ (∀ y ∈ l, y.sz) := hs0
  conv => whnf
  refine ACalls.use (mv [] (table_copied_Job_o l szA) .nil (dl lw .nil) (rO rr .nil) (rw_ 0 0 rfl)) ?_
  conv => whnf
  refine loop_start1 (fun (i : Nat) => True ∧ i ≤ l.length) (fun i => l.length - i) (fun i => [(2, AVal.lit (.slice none 0 0)), (3, AVal.own 0 0 20 0 l.length), (8, I (l.length : Int)), (9, I (i : Int))]) (fun i => [(0, AObj.row 54 20 (l.map Job.cells))]) 0 (wk [0] (tO rfl (tl eqA) .nil) (s1 (sv (to 0 lnA) (s1 (s1 .nil))))) ⟨trivial, by exact omA⟩ ?_
  have hR0 := hR
  rintro i ⟨hR, hj⟩
  try dsimp only at hR hj
  conv => whnf
  refine And.intro (fun h1 => ?_) (fun h2 => ?_)
  · have hlt : i < l.length := by have := of_decide_eq_true h1; omega
    have hxz : (l.getD i Job.zero).sz := getD_sz (by first | assumption | grind) (Job.szz _)
    have hkz := hxz
    obtain ⟨z3, z4, z5, z6, z7⟩ : ((l.getD i Job.zero).name).size ≤ 4294967296 ∧ ((l.getD i Job.zero).user).size ≤ 4294967296 ∧ ((l.getD i Job.zero).account).size ≤ 4294967296 ∧ ((((l.getD i Job.zero).shape).alts).length ≤ 4294967296) ∧ ((l.getD i Job.zero).after).length ≤ 4294967296 := hxz
    conv => whnf
    refine And.intro gkA ?_
    conv => whnf
    refine ⟨_, evalOp_load rfl rfl rfl (elemI_at Job.zero i (by first | rfl | omega) ckA) rfl, ?_⟩
    conv => whnf
    refine ACalls.use (table_copied_Alt_c ((l.getD i Job.zero).shape.alts) szA _) ?_
    conv => whnf
    refine And.intro gkA ?_
    conv => whnf
    refine ⟨_, evalOp_store rfl rfl rfl rfl (elemI_at Job.zero i (by first | rfl | omega) ckA) rfl rfl (set_map_same Job.zero i (by first | rfl | omega) ckA rfl), ?_⟩
    conv => whnf
    refine And.intro gkA ?_
    conv => whnf
    refine ⟨_, evalOp_load rfl rfl rfl (elemI_at Job.zero i (by first | rfl | omega) ckA) rfl, ?_⟩
    conv => whnf
    refine ACalls.use (table_copied_Dep_c ((l.getD i Job.zero).after) szA _) ?_
    conv => whnf
    refine And.intro gkA ?_
    conv => whnf
    refine ⟨_, evalOp_store rfl rfl rfl rfl (elemI_at Job.zero i (by first | rfl | omega) ckA) rfl rfl (set_map_same Job.zero i (by first | rfl | omega) ckA rfl), ?_⟩
    conv => whnf
    exact loop_next1 (i + 1) (wk [0] (tO rfl (tl eqA) .nil) (s1 (sv (to 0 lnA) (s1 (sv (turn_eq (I_eq (wr omA)) lx) .nil))))) omA ⟨hR, by exact omA⟩
  · skip
    conv => whnf
    have hR := hR0
    obtain rfl := foll hR rfl
    exact ret_seen lw (seen_list Job.zero _ rfl eqA lnA)

theorem table_whole_o (l : List Job) (hs0 : l.length ≤ 4294967296 ∧ (∀ y ∈ l, y.sz)) : AMoves Tryz.prog 86 [jobL l] [] 0 (AVal.own 0 0 20 0 l.length) [(0, AObj.row 54 20 (l.map Job.cells))] := by
  generalize hR : table_whole l = R
  refine AMoves.of_cwp (kp 5 [8, 9, 10]) Tryz.func86 rfl rfl rfl ?_
  have hk0 := hs0
  obtain ⟨z8, z9⟩ : l.length ≤ 4294967296 ∧ (∀ y ∈ l, y.sz) := hs0
  conv => whnf
  refine ACalls.use (mv [] (table_copied_Job_o l szA) .nil (dl lw .nil) (rO rr .nil) (rw_ 0 0 rfl)) ?_
  conv => whnf
  refine loop_start1 (fun (i : Nat) => True ∧ i ≤ l.length) (fun i => l.length - i) (fun i => [(2, AVal.lit (.slice none 0 0)), (3, AVal.own 0 0 20 0 l.length), (8, I (l.length : Int)), (9, I (i : Int))]) (fun i => [(0, AObj.row 54 20 (l.map Job.cells))]) 0 (wk [0] (tO rfl (tl eqA) .nil) (s1 (sv (to 0 lnA) (s1 (s1 .nil))))) ⟨trivial, by exact omA⟩ ?_
  have hR0 := hR
  rintro i ⟨hR, hj⟩
  try dsimp only at hR hj
  conv => whnf
  refine And.intro (fun h1 => ?_) (fun h2 => ?_)
  · have hlt : i < l.length := by have := of_decide_eq_true h1; omega
    have hxz : (l.getD i Job.zero).sz := getD_sz (by first | assumption | grind) (Job.szz _)
    have hkz := hxz
    obtain ⟨z3, z4, z5, z6, z7⟩ : ((l.getD i Job.zero).name).size ≤ 4294967296 ∧ ((l.getD i Job.zero).user).size ≤ 4294967296 ∧ ((l.getD i Job.zero).account).size ≤ 4294967296 ∧ ((((l.getD i Job.zero).shape).alts).length ≤ 4294967296) ∧ ((l.getD i Job.zero).after).length ≤ 4294967296 := hxz
    conv => whnf
    refine And.intro gkA ?_
    conv => whnf
    refine ⟨_, evalOp_load rfl rfl rfl (elemI_at Job.zero i (by first | rfl | omega) ckA) rfl, ?_⟩
    conv => whnf
    refine ACalls.use (table_copied_Alt_c ((l.getD i Job.zero).shape.alts) szA _) ?_
    conv => whnf
    refine And.intro gkA ?_
    conv => whnf
    refine ⟨_, evalOp_store rfl rfl rfl rfl (elemI_at Job.zero i (by first | rfl | omega) ckA) rfl rfl (set_map_same Job.zero i (by first | rfl | omega) ckA rfl), ?_⟩
    conv => whnf
    refine And.intro gkA ?_
    conv => whnf
    refine ⟨_, evalOp_load rfl rfl rfl (elemI_at Job.zero i (by first | rfl | omega) ckA) rfl, ?_⟩
    conv => whnf
    refine ACalls.use (table_copied_Dep_c ((l.getD i Job.zero).after) szA _) ?_
    conv => whnf
    refine And.intro gkA ?_
    conv => whnf
    refine ⟨_, evalOp_store rfl rfl rfl rfl (elemI_at Job.zero i (by first | rfl | omega) ckA) rfl rfl (set_map_same Job.zero i (by first | rfl | omega) ckA rfl), ?_⟩
    conv => whnf
    exact loop_next1 (i + 1) (wk [0] (tO rfl (tl eqA) .nil) (s1 (sv (to 0 lnA) (s1 (sv (turn_eq (I_eq (wr omA)) lx) .nil))))) omA ⟨hR, by exact omA⟩
  · skip
    conv => whnf
    have hR := hR0
    obtain rfl := foll hR rfl
    exact rq (tt [0] (tO rfl (tl eqA) .nil) (to 0 lnA))

-- F muster/fleet.Same
def fleet_Same (a : List Node) (b : List Node) : Bool :=
  (slices_Equal_Node a b)

theorem fleet_Same_c (a : List Node) (b : List Node) (hs0 : a.length ≤ 4294967296) (hs1 : b.length ≤ 4294967296) : ∀ objs, AGives Tryz.prog 53 [nodeL a, nodeL b] objs (Bo (fleet_Same a b)) := by
  generalize hR : fleet_Same a b = R
  refine AGives.any' (.cons lw (.cons lw .nil)) lx (ACalls.of_cwp (kp 5 []) Tryz.func53 rfl rfl ?_)
  have hk0 := hs0
  obtain z1 : a.length ≤ 4294967296 := hs0
  have hk1 := hs1
  obtain z2 : b.length ≤ 4294967296 := hs1
  conv => whnf
  refine ACalls.use (slices_Equal_Node_c a b szA szA _) ?_
  conv => whnf
  obtain rfl := foll hR rfl
  exact ret_seen lx sr

-- F muster/book.Same
def book_Same (a : List Book) (b : List Book) : Bool :=
  (slices_Equal_Book a b)

theorem book_Same_c (a : List Book) (b : List Book) (hs0 : a.length ≤ 4294967296) (hs1 : b.length ≤ 4294967296) : ∀ objs, AGives Tryz.prog 55 [bookL a, bookL b] objs (Bo (book_Same a b)) := by
  generalize hR : book_Same a b = R
  refine AGives.any' (.cons lw (.cons lw .nil)) lx (ACalls.of_cwp (kp 5 []) Tryz.func55 rfl rfl ?_)
  have hk0 := hs0
  obtain z1 : a.length ≤ 4294967296 := hs0
  have hk1 := hs1
  obtain z2 : b.length ≤ 4294967296 := hs1
  conv => whnf
  refine ACalls.use (slices_Equal_Book_c a b szA szA _) ?_
  conv => whnf
  obtain rfl := foll hR rfl
  exact ret_seen lx sr

-- F muster/ledger.Same
def ledger_Same (a : List Usage) (b : List Usage) : Bool :=
  (slices_Equal_Usage a b)

theorem ledger_Same_c (a : List Usage) (b : List Usage) (hs0 : a.length ≤ 4294967296 ∧ (∀ y ∈ a, y.sz)) (hs1 : b.length ≤ 4294967296 ∧ (∀ y ∈ b, y.sz)) : ∀ objs, AGives Tryz.prog 56 [usageL a, usageL b] objs (Bo (ledger_Same a b)) := by
  generalize hR : ledger_Same a b = R
  refine AGives.any' (.cons lw (.cons lw .nil)) lx (ACalls.of_cwp (kp 5 []) Tryz.func56 rfl rfl ?_)
  have hk0 := hs0
  obtain ⟨z1, z2⟩ : a.length ≤ 4294967296 ∧ (∀ y ∈ a, y.sz) := hs0
  have hk1 := hs1
  obtain ⟨z3, z4⟩ : b.length ≤ 4294967296 ∧ (∀ y ∈ b, y.sz) := hs1
  conv => whnf
  refine ACalls.use (slices_Equal_Usage_c a b szA szA _) ?_
  conv => whnf
  obtain rfl := foll hR rfl
  exact ret_seen lx sr

-- F muster/state.Copy
def state_Copy (s : State) : State :=
  s

theorem state_Copy_c (s : State) (hs0 : s.sz) : ∀ objs, AGives Tryz.prog 19 [State.a s] objs (State.a s) := by
  generalize hR : state_Copy s = R
  refine AGives.any' (.cons (State.low _ _) .nil) (State.low _ _) (ACalls.of_cwp (kp 4 [26, 27, 28]) Tryz.func19 rfl rfl ?_)
  have hk0 := hs0
  obtain ⟨z8, z9, z10, z11, z12, z13, z14⟩ : s.nodes.length ≤ 4294967296 ∧ s.jobs.length ≤ 4294967296 ∧ (∀ y ∈ s.jobs, y.sz) ∧ s.resizes.length ≤ 4294967296 ∧ s.books.length ≤ 4294967296 ∧ s.ledger.length ≤ 4294967296 ∧ (∀ y ∈ s.ledger, y.sz) := hs0
  conv => whnf
  refine dchk (by kernel_rfl) ?_
  conv => whnf
  (first | apply u2 | apply u3 | apply u4 | apply ACalls.use); exact mv [] (state_copied_Node_o s.nodes szA) .nil (dl lw .nil) (rO rr .nil) (rw_ 2 0 rfl)
  conv => whnf
  (first | apply u2 | apply u3 | apply u4 | apply ACalls.use); exact mv [] (state_copied_Job_o s.jobs szA) .nil (dl lw .nil) (rO rr .nil) (rw_ 3 0 rfl)
  conv => whnf
  (first | apply u2 | apply u3 | apply u4 | apply ACalls.use); exact mv [] (state_copied_Resize_o s.resizes szA) .nil (dl lw .nil) (rO rr .nil) (rw_ 4 0 rfl)
  conv => whnf
  (first | apply u2 | apply u3 | apply u4 | apply ACalls.use); exact mv [] (state_copied_Book_o s.books szA) .nil (dl lw .nil) (rO rr .nil) (rw_ 5 0 rfl)
  conv => whnf
  (first | apply u2 | apply u3 | apply u4 | apply ACalls.use); exact mv [] (state_copied_Usage_o s.ledger szA) .nil (dl lw .nil) (rO rr .nil) (rw_ 6 0 rfl)
  conv => whnf
  repeat ((first | refine And.intro rfl ?_ | refine And.intro (fun _ => rfl) ?_); conv => whnf)
  refine loop_start1 (fun (i : Nat) => True ∧ i ≤ s.jobs.length) (fun i => s.jobs.length - i) (fun i => [(1, AVal.ptr 0 0 8 0 0), (2, AVal.ptr 1 0 8 0 0), (26, I (s.jobs.length : Int)), (27, I (i : Int))]) (fun i => [(0, AObj.row 28 8 [[I s.now, AVal.own 2 0 7 0 s.nodes.length, AVal.own 3 0 20 0 s.jobs.length, AVal.own 4 0 5 0 s.resizes.length, AVal.own 5 0 4 0 s.books.length, AVal.own 6 0 4 0 s.ledger.length, I s.nextJob, I s.nextBook]]), (0, AObj.row 28 8 [[I 0, AVal.lit (.slice none 0 0), AVal.lit (.slice none 0 0), AVal.lit (.slice none 0 0), AVal.lit (.slice none 0 0), AVal.lit (.slice none 0 0), I 0, I 0]]), (0, AObj.row 48 7 (s.nodes.map Node.cells)), (0, AObj.row 54 20 (s.jobs.map Job.cells)), (0, AObj.row 38 5 (s.resizes.map Resize.cells)), (0, AObj.row 60 4 (s.books.map Book.cells)), (0, AObj.row 62 4 (s.ledger.map Usage.cells))]) 0 (wk [0, 1, 2, 3, 4, 5, 6] (tO rfl (turn_row1 (c1 (cv (to 2 lnA) (cv (to 3 lnA) (cv (to 4 lnA) (cv (to 5 lnA) (cv (to 6 lnA) (c1 (c1 .nil))))))))) (tO rfl (ts (l1 (l1 (l1 (l1 (l1 (l1 (l1 (l1 LowL.nil))))))))) (tO rfl (tl eqA) (tO rfl (tl eqA) (tO rfl (tl eqA) (tO rfl (tl eqA) (tO rfl (tl eqA) .nil))))))) (sv (turn_ptr 0 rfl rfl) (sv (turn_ptr 1 rfl rfl) (s1 (s1 .nil))))) ⟨trivial, by exact omA⟩ ?_
  have hR0 := hR
  rintro i ⟨hR, hj⟩
  try dsimp only at hR hj
  conv => whnf
  refine And.intro (fun h1 => ?_) (fun h2 => ?_)
  · have hlt : i < s.jobs.length := by have := of_decide_eq_true h1; omega
    have hxz : (s.jobs.getD i Job.zero).sz := getD_sz (by first | assumption | grind) (Job.szz _)
    have hkz := hxz
    obtain ⟨z3, z4, z5, z6, z7⟩ : ((s.jobs.getD i Job.zero).name).size ≤ 4294967296 ∧ ((s.jobs.getD i Job.zero).user).size ≤ 4294967296 ∧ ((s.jobs.getD i Job.zero).account).size ≤ 4294967296 ∧ ((((s.jobs.getD i Job.zero).shape).alts).length ≤ 4294967296) ∧ ((s.jobs.getD i Job.zero).after).length ≤ 4294967296 := hxz
    conv => whnf
    refine dchk (by kernel_rfl) ?_
    conv => whnf
    refine And.intro gkA ?_
    conv => whnf
    refine ⟨_, evalOp_load rfl rfl rfl (elemI_at Job.zero i (by first | rfl | omega) ckA) rfl, ?_⟩
    conv => whnf
    (first | apply u2 | apply u3 | apply u4 | apply ACalls.use); exact state_copied_Alt_c ((s.jobs.getD i Job.zero).shape.alts) szA _
    conv => whnf
    refine And.intro gkA ?_
    conv => whnf
    refine ⟨_, evalOp_load rfl rfl rfl (elemI_at Job.zero i (by first | rfl | omega) ckA) rfl, ?_⟩
    conv => whnf
    (first | apply u2 | apply u3 | apply u4 | apply ACalls.use); exact state_copied_Dep_c ((s.jobs.getD i Job.zero).after) szA _
    conv => whnf
    refine And.intro gkA ?_
    conv => whnf
    refine ⟨_, evalOp_store rfl rfl rfl rfl (elemI_at Job.zero i (by first | rfl | omega) ckA) rfl rfl (set_map_same Job.zero i (by first | rfl | omega) ckA rfl), ?_⟩
    conv => whnf
    refine And.intro gkA ?_
    conv => whnf
    refine ⟨_, evalOp_store rfl rfl rfl rfl (elemI_at Job.zero i (by first | rfl | omega) ckA) rfl rfl (set_map_same Job.zero i (by first | rfl | omega) ckA rfl), ?_⟩
    conv => whnf
    repeat ((first | refine And.intro rfl ?_ | refine And.intro (fun _ => rfl) ?_ | refine And.intro (evalOp_load rfl rfl rfl (elemI_at Job.zero i (by first | rfl | omega) ckA) rfl) ?_ | refine And.intro (fun _ => state_copied_Alt_c ((s.jobs.getD i Job.zero).shape.alts) szA _) ?_ | refine And.intro (evalOp_load rfl rfl rfl (elemI_at Job.zero i (by first | rfl | omega) ckA) rfl) ?_ | refine And.intro (fun _ => state_copied_Dep_c ((s.jobs.getD i Job.zero).after) szA _) ?_); conv => whnf)
    exact loop_next1 (i + 1) (wk [0, 1, 2, 3, 4, 5, 6] (tO rfl (turn_row1 (c1 (cv (to 2 lnA) (cv (to 3 lnA) (cv (to 4 lnA) (cv (to 5 lnA) (cv (to 6 lnA) (c1 (c1 .nil))))))))) (tO rfl (ts (l1 (l1 (l1 (l1 (l1 (l1 (l1 (l1 LowL.nil))))))))) (tO rfl (tl eqA) (tO rfl (tl eqA) (tO rfl (tl eqA) (tO rfl (tl eqA) (tO rfl (tl eqA) .nil))))))) (sv (turn_ptr 0 rfl rfl) (sv (turn_ptr 1 rfl rfl) (s1 (sv (turn_eq (I_eq (wr omA)) lx) .nil))))) omA ⟨hR, by exact omA⟩
  · skip
    conv => whnf
    have hR := hR0
    obtain rfl := foll hR rfl
    exact ret_seen (State.low _ _) (Seen.agg (e1 (ev (seen_list Node.zero _ rfl eqA lnA) (ev (seen_list Job.zero _ rfl eqA lnA) (ev (seen_list Resize.zero _ rfl eqA lnA) (ev (seen_list Book.zero _ rfl eqA lnA) (ev (seen_list Usage.zero _ rfl eqA lnA) (e1 (e1 .nil)))))))))

theorem state_Copy_o (s : State) (hs0 : s.sz) : AMoves Tryz.prog 19 [State.a s] [] 0 (AVal.agg [I s.now, AVal.own 0 0 7 0 s.nodes.length, AVal.own 1 0 20 0 s.jobs.length, AVal.own 2 0 5 0 s.resizes.length, AVal.own 3 0 4 0 s.books.length, AVal.own 4 0 4 0 s.ledger.length, I s.nextJob, I s.nextBook]) [(0, AObj.row 48 7 (s.nodes.map Node.cells)), (0, AObj.row 54 20 (s.jobs.map Job.cells)), (0, AObj.row 38 5 (s.resizes.map Resize.cells)), (0, AObj.row 60 4 (s.books.map Book.cells)), (0, AObj.row 62 4 (s.ledger.map Usage.cells))] := by
  generalize hR : state_Copy s = R
  refine AMoves.of_cwp (kp 4 [26, 27, 28]) Tryz.func19 rfl rfl rfl ?_
  have hk0 := hs0
  obtain ⟨z8, z9, z10, z11, z12, z13, z14⟩ : s.nodes.length ≤ 4294967296 ∧ s.jobs.length ≤ 4294967296 ∧ (∀ y ∈ s.jobs, y.sz) ∧ s.resizes.length ≤ 4294967296 ∧ s.books.length ≤ 4294967296 ∧ s.ledger.length ≤ 4294967296 ∧ (∀ y ∈ s.ledger, y.sz) := hs0
  conv => whnf
  refine dchk (by kernel_rfl) ?_
  conv => whnf
  (first | apply u2 | apply u3 | apply u4 | apply ACalls.use); exact mv [] (state_copied_Node_o s.nodes szA) .nil (dl lw .nil) (rO rr .nil) (rw_ 2 0 rfl)
  conv => whnf
  (first | apply u2 | apply u3 | apply u4 | apply ACalls.use); exact mv [] (state_copied_Job_o s.jobs szA) .nil (dl lw .nil) (rO rr .nil) (rw_ 3 0 rfl)
  conv => whnf
  (first | apply u2 | apply u3 | apply u4 | apply ACalls.use); exact mv [] (state_copied_Resize_o s.resizes szA) .nil (dl lw .nil) (rO rr .nil) (rw_ 4 0 rfl)
  conv => whnf
  (first | apply u2 | apply u3 | apply u4 | apply ACalls.use); exact mv [] (state_copied_Book_o s.books szA) .nil (dl lw .nil) (rO rr .nil) (rw_ 5 0 rfl)
  conv => whnf
  (first | apply u2 | apply u3 | apply u4 | apply ACalls.use); exact mv [] (state_copied_Usage_o s.ledger szA) .nil (dl lw .nil) (rO rr .nil) (rw_ 6 0 rfl)
  conv => whnf
  repeat ((first | refine And.intro rfl ?_ | refine And.intro (fun _ => rfl) ?_); conv => whnf)
  refine loop_start1 (fun (i : Nat) => True ∧ i ≤ s.jobs.length) (fun i => s.jobs.length - i) (fun i => [(1, AVal.ptr 0 0 8 0 0), (2, AVal.ptr 1 0 8 0 0), (26, I (s.jobs.length : Int)), (27, I (i : Int))]) (fun i => [(0, AObj.row 28 8 [[I s.now, AVal.own 2 0 7 0 s.nodes.length, AVal.own 3 0 20 0 s.jobs.length, AVal.own 4 0 5 0 s.resizes.length, AVal.own 5 0 4 0 s.books.length, AVal.own 6 0 4 0 s.ledger.length, I s.nextJob, I s.nextBook]]), (0, AObj.row 28 8 [[I 0, AVal.lit (.slice none 0 0), AVal.lit (.slice none 0 0), AVal.lit (.slice none 0 0), AVal.lit (.slice none 0 0), AVal.lit (.slice none 0 0), I 0, I 0]]), (0, AObj.row 48 7 (s.nodes.map Node.cells)), (0, AObj.row 54 20 (s.jobs.map Job.cells)), (0, AObj.row 38 5 (s.resizes.map Resize.cells)), (0, AObj.row 60 4 (s.books.map Book.cells)), (0, AObj.row 62 4 (s.ledger.map Usage.cells))]) 0 (wk [0, 1, 2, 3, 4, 5, 6] (tO rfl (turn_row1 (c1 (cv (to 2 lnA) (cv (to 3 lnA) (cv (to 4 lnA) (cv (to 5 lnA) (cv (to 6 lnA) (c1 (c1 .nil))))))))) (tO rfl (ts (l1 (l1 (l1 (l1 (l1 (l1 (l1 (l1 LowL.nil))))))))) (tO rfl (tl eqA) (tO rfl (tl eqA) (tO rfl (tl eqA) (tO rfl (tl eqA) (tO rfl (tl eqA) .nil))))))) (sv (turn_ptr 0 rfl rfl) (sv (turn_ptr 1 rfl rfl) (s1 (s1 .nil))))) ⟨trivial, by exact omA⟩ ?_
  have hR0 := hR
  rintro i ⟨hR, hj⟩
  try dsimp only at hR hj
  conv => whnf
  refine And.intro (fun h1 => ?_) (fun h2 => ?_)
  · have hlt : i < s.jobs.length := by have := of_decide_eq_true h1; omega
    have hxz : (s.jobs.getD i Job.zero).sz := getD_sz (by first | assumption | grind) (Job.szz _)
    have hkz := hxz
    obtain ⟨z3, z4, z5, z6, z7⟩ : ((s.jobs.getD i Job.zero).name).size ≤ 4294967296 ∧ ((s.jobs.getD i Job.zero).user).size ≤ 4294967296 ∧ ((s.jobs.getD i Job.zero).account).size ≤ 4294967296 ∧ ((((s.jobs.getD i Job.zero).shape).alts).length ≤ 4294967296) ∧ ((s.jobs.getD i Job.zero).after).length ≤ 4294967296 := hxz
    conv => whnf
    refine dchk (by kernel_rfl) ?_
    conv => whnf
    refine And.intro gkA ?_
    conv => whnf
    refine ⟨_, evalOp_load rfl rfl rfl (elemI_at Job.zero i (by first | rfl | omega) ckA) rfl, ?_⟩
    conv => whnf
    (first | apply u2 | apply u3 | apply u4 | apply ACalls.use); exact state_copied_Alt_c ((s.jobs.getD i Job.zero).shape.alts) szA _
    conv => whnf
    refine And.intro gkA ?_
    conv => whnf
    refine ⟨_, evalOp_load rfl rfl rfl (elemI_at Job.zero i (by first | rfl | omega) ckA) rfl, ?_⟩
    conv => whnf
    (first | apply u2 | apply u3 | apply u4 | apply ACalls.use); exact state_copied_Dep_c ((s.jobs.getD i Job.zero).after) szA _
    conv => whnf
    refine And.intro gkA ?_
    conv => whnf
    refine ⟨_, evalOp_store rfl rfl rfl rfl (elemI_at Job.zero i (by first | rfl | omega) ckA) rfl rfl (set_map_same Job.zero i (by first | rfl | omega) ckA rfl), ?_⟩
    conv => whnf
    refine And.intro gkA ?_
    conv => whnf
    refine ⟨_, evalOp_store rfl rfl rfl rfl (elemI_at Job.zero i (by first | rfl | omega) ckA) rfl rfl (set_map_same Job.zero i (by first | rfl | omega) ckA rfl), ?_⟩
    conv => whnf
    repeat ((first | refine And.intro rfl ?_ | refine And.intro (fun _ => rfl) ?_ | refine And.intro (evalOp_load rfl rfl rfl (elemI_at Job.zero i (by first | rfl | omega) ckA) rfl) ?_ | refine And.intro (fun _ => state_copied_Alt_c ((s.jobs.getD i Job.zero).shape.alts) szA _) ?_ | refine And.intro (evalOp_load rfl rfl rfl (elemI_at Job.zero i (by first | rfl | omega) ckA) rfl) ?_ | refine And.intro (fun _ => state_copied_Dep_c ((s.jobs.getD i Job.zero).after) szA _) ?_); conv => whnf)
    exact loop_next1 (i + 1) (wk [0, 1, 2, 3, 4, 5, 6] (tO rfl (turn_row1 (c1 (cv (to 2 lnA) (cv (to 3 lnA) (cv (to 4 lnA) (cv (to 5 lnA) (cv (to 6 lnA) (c1 (c1 .nil))))))))) (tO rfl (ts (l1 (l1 (l1 (l1 (l1 (l1 (l1 (l1 LowL.nil))))))))) (tO rfl (tl eqA) (tO rfl (tl eqA) (tO rfl (tl eqA) (tO rfl (tl eqA) (tO rfl (tl eqA) .nil))))))) (sv (turn_ptr 0 rfl rfl) (sv (turn_ptr 1 rfl rfl) (s1 (sv (turn_eq (I_eq (wr omA)) lx) .nil))))) omA ⟨hR, by exact omA⟩
  · skip
    conv => whnf
    have hR := hR0
    obtain rfl := foll hR rfl
    exact rq (tt [2, 3, 4, 5, 6] (tO rfl (tl eqA) (tO rfl (tl eqA) (tO rfl (tl eqA) (tO rfl (tl eqA) (tO rfl (tl eqA) .nil))))) (turn_agg (c1 (cv (to 0 lnA) (cv (to 1 lnA) (cv (to 2 lnA) (cv (to 3 lnA) (cv (to 4 lnA) (c1 (c1 .nil))))))))))

-- F muster/musterref07.Same
def ref07_Same (a : Shape) (b : Shape) : Bool :=
  (((((a.kind == b.kind) && (a.min == b.min)) && (a.max == b.max)) && (a.wall == b.wall)) && (ref07_SameAlts a.alts b.alts))

theorem ref07_Same_c (a : Shape) (b : Shape) (hs0 : a.sz) (hs1 : b.sz) : ∀ objs, AGives Tryz.prog 114 [Shape.a a, Shape.a b] objs (Bo (ref07_Same a b)) := by
  generalize hR : ref07_Same a b = R
  refine AGives.any' (.cons (Shape.low _ _) (.cons (Shape.low _ _) .nil)) lx (ACalls.of_cwp (kp 5 []) Tryz.func114 rfl rfl ?_)
  have hk0 := hs0
  obtain z1 : a.alts.length ≤ 4294967296 := hs0
  have hk1 := hs1
  obtain z2 : b.alts.length ≤ 4294967296 := hs1
  conv => whnf
  (first | apply u2 | apply u3 | apply u4 | apply ACalls.use); exact ref07_SameAlts_c a.alts b.alts szA szA _
  conv => whnf
  obtain rfl := foll hR rfl
  exact ret_seen lx sr

end Go.Proofs.YtoionleakeemlaaGreatDoor
