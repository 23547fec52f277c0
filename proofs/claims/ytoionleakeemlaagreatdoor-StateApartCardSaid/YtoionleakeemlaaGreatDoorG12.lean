/-
  Contracts of functions, printed by a program of this repo (wip/dec). No condition beyond those that stand in each.
-/
import Derived.Test.YtoionleakeemlaaGreatDoorG11
import Derived.Test.YtoionleakeemlaaGreatDoorProg
namespace Go.Proofs.YtoionleakeemlaaGreatDoor
set_option linter.unusedSimpArgs false
set_option linter.unusedVariables false
open Go.Fw

set_option maxRecDepth 20000
set_option maxHeartbeats 4000000
attribute [local irreducible] ACalls AMoves


-- F muster/lex.Tokens
def lex_Tokens_g3 (y : Int) : List Int → Nat → Bool
  | [], _ =>
    false
  | x_1 :: r, i =>
    bif ((runes_Class y) == x_1) then
      true
    else
      lex_Tokens_g3 y r (i + 1)

def lex_Tokens_g1 (line : ByteArray) : List (Nat × Int) → LexReader → LexReader
  | [], c =>
    c
  | x_ :: r, c =>
    lex_Tokens_g1 line r { c with line := (c.line ++ ([x_.2] : List Int)) }

def lex_Tokens_g2  : Nat → List Token → LexReader → (List Token) × Int × Int
  | 0, _, _ => ([], 0, 0)
  | m + 1, out, c2 =>
    bif (c2.error == 0) then
      bif ((lex_reader_while c2 (fun (y : Int) => lex_Tokens_g3 y ([1] : List Int) 0)).2.at_ == (((lex_reader_while c2 (fun (y : Int) => lex_Tokens_g3 y ([1] : List Int) 0)).2.line).length : Int)) then
        (out, (((lex_reader_while c2 (fun (y : Int) => lex_Tokens_g3 y ([1] : List Int) 0)).2.line).length : Int), 0)
      else
        lex_Tokens_g2 m (out ++ ([{ (lex_reader_next ((lex_reader_while c2 (fun (y : Int) => lex_Tokens_g3 y ([1] : List Int) 0)).2)).1 with at_ := (lex_reader_while c2 (fun (y : Int) => lex_Tokens_g3 y ([1] : List Int) 0)).2.at_ }] : List Token)) ((lex_reader_next ((lex_reader_while c2 (fun (y : Int) => lex_Tokens_g3 y ([1] : List Int) 0)).2)).2)
    else
      ([], c2.bad, c2.error)

def lex_Tokens_k1 (c : LexReader) : (List Token) × Int × Int :=
  lex_Tokens_g2 ((2 * Int.toNat ((c.line.length : Int) - c.at_) + (bif c.error == 0 then 1 else 0)) + 1) [] c

def lex_Tokens (line : ByteArray) : (List Token) × Int × Int :=
  bif (decide ((ByteArray.size line : Int) > 400)) then
    ([], 0, 3)
  else
    lex_Tokens_k1 (lex_Tokens_g1 line (runeList line) LexReader.zero)

theorem lex_Tokens_c (line : ByteArray) (hs0 : line.size ≤ 4294967296) : ∀ objs, AGives Tryz.prog 192 [Sg line] objs (AVal.tup [tokenL ((lex_Tokens line).1), I ((lex_Tokens line).2.1), I ((lex_Tokens line).2.2)]) := by
  generalize hR : lex_Tokens line = R
  refine AGives.any' (l1 .nil) (Low.tup' (.cons lw (l1 (l1 .nil)))) (ACalls.of_cwp (kp 12 [14, 18, 19, 20, 38, 51]) Tryz.func192 rfl rfl ?_)
  have hk0 := hs0
  obtain z15 : line.size ≤ 4294967296 := hs0
  conv => whnf
  refine And.intro (fun h1 => ?_) (fun h2 => ?_)
  · conv => whnf
    have qh1 := of_decide_eq_true h1
    obtain rfl := foll hR (ct h1 rfl)
    exact ret_seen (Low.tup' (.cons lw (l1 (l1 .nil)))) (Seen.tup (ev (seen_nil) (e1 (e1 .nil))))
  · conv => whnf
    have qh2 := of_decide_eq_false h2
    refine loop_start2 (fun (c : LexReader) (pos : Nat) => ∃ m, ByteArray.size line - pos ≤ m ∧ lex_Tokens_k1 (lex_Tokens_g1 line (strRunes line m pos) c) = R ∧ c.line.length ≤ pos ∧ pos ≤ ByteArray.size line ∧ c.at_ = 0) (fun c pos => ByteArray.size line - pos) (fun c pos => [(2, AVal.lit (.slice none 0 0)), (3, I 0), (4, I 0), (5, AVal.ptr 0 0 4 0 0), (18, AVal.ptr 1 0 1 0 0)]) (fun c pos => [(0, AObj.row 206 4 [[AVal.own 2 0 1 0 c.line.length, I c.at_, I c.bad, I c.error]]), (0, AObj.other (.strIter line pos)), (0, AObj.row 21 1 (c.line.map (fun q_ => [J q_])))]) LexReader.zero 0 ((weaker_none 21 1).trans (wk [0, 1, 2] (tO rfl (turn_row1 (cv (turn_nilown 2 rfl) (c1 (c1 (c1 .nil))))) (tO rfl (.strIter _ _) (tO rfl (tl eqA) .nil))) (s1 (s1 (s1 (sv (turn_ptr 0 rfl rfl) (sv (turn_ptr 1 rfl rfl) .nil))))))) ⟨ByteArray.size line, by first | (have hq := hrd _ (by assumption); omega) | exact omA, foll hR (cf h2 rfl), by first | (have hq := hrd _ (by assumption); exact ⟨hq.2.1.1, hq.2.1.2.1, hq.2.1.2.2, fun hz => by have hq3 := hq.2.2.2 hz; simp only [List.length_append, List.length_cons, List.length_nil]; omega⟩) | first | (refine ⟨by omega, by omega, by omega, fun _ => by simp; omega⟩) | first | (simp [LexReader.zero]; done) | first | (simp; omega) | exact exA⟩ ?_
    clear hR
    rintro c pos ⟨m, hm, hR, hx⟩
    try dsimp only at hR hm hx
    conv => whnf
    refine And.intro (fun h3 => ?_) (fun h4 => ?_)
    · have hlt := of_decide_eq_true h3
      have hw := decode_pos line pos
      have hwe := decode_end line pos hlt
      obtain ⟨m, rfl⟩ : ∃ k, m = k + 1 := ⟨m - 1, by omega⟩
      rw [strRunes_cons h3] at hR
      conv => whnf
      refine And.intro (fun _ => ?_) (fun h => nomatch h)
      conv => whnf
      refine Or.inl ?_
      conv => whnf
      first | refine ⟨app_ok 4 rfl lnA (by first | (simp; omega) | grind), ?_⟩ | refine ⟨app_nil 4 rfl (by first | (simp; omega) | grind), ?_⟩
      conv => whnf
      exact loop_next2 { c with line := (c.line ++ ([(pos, ((Utf8.decode line pos).1 : Int)).2] : List Int)) } (pos + (Utf8.decode line pos).2) (wk [0, 1, 2] (tO rfl (turn_row1 (cv (to 2 lnA) (c1 (c1 (c1 .nil))))) (tO rfl (.strIter _ _) (tO rfl (tl eqA) .nil))) (s1 (s1 (s1 (sv (turn_ptr 0 rfl rfl) (sv (turn_ptr 1 rfl rfl) .nil)))))) (by first | (have hq := hrd _ (by assumption); omega) | exact omA) ⟨m, by first | (have hq := hrd _ (by assumption); omega) | exact omA, foll hR (congrArg (fun p : LexReader => lex_Tokens_k1 p) rfl), by first | (have hq := hrd _ (by assumption); exact ⟨hq.2.1.1, hq.2.1.2.1, hq.2.1.2.2, fun hz => by have hq3 := hq.2.2.2 hz; simp only [List.length_append, List.length_cons, List.length_nil]; omega⟩) | first | (refine ⟨by omega, by omega, by omega, fun _ => by simp; omega⟩) | first | (simp [LexReader.zero]; done) | first | (simp; omega) | exact exA⟩
    · rw [strRunes_nil h4] at hR
      conv => whnf
      refine And.intro (fun h => nomatch h) (fun _ => ?_)
      conv => whnf
      replace hR : lex_Tokens_k1 c = R := fo2 (fun p : LexReader => lex_Tokens_k1 p) (c) hR rfl
      refine Or.inl ?_
      conv => whnf
      refine ACalls.of_cwp (fun _ => true) Tryz.func198 rfl rfl ?_
      conv => whnf
      refine ⟨_, _, Told.refl, ?_⟩
      conv => whnf
      refine loop_start2 (fun (out : List Token) (c2 : LexReader) => ∃ m, (2 * Int.toNat ((c2.line.length : Int) - c2.at_) + (bif c2.error == 0 then 1 else 0)) < m ∧ lex_Tokens_g2 m out c2 = R ∧ 0 ≤ c2.at_ ∧ c2.at_ ≤ (c2.line.length : Int) ∧ c2.line.length ≤ 400 ∧ ((c2.error == 0) = true → (out.length : Int) ≤ c2.at_)) (fun out c2 => (2 * Int.toNat ((c2.line.length : Int) - c2.at_) + (bif c2.error == 0 then 1 else 0))) (fun out c2 => [(2, AVal.lit (.slice none 0 0)), (3, I 0), (4, I 0), (5, AVal.ptr 0 0 4 0 0), (8, AVal.fn (.func 208) [] [AVal.ptr 1 0 1 0 0]), (9, AVal.own 2 0 4 0 out.length)]) (fun out c2 => [(0, AObj.row 206 4 [[runes c2.line, I c2.at_, I c2.bad, I c2.error]]), (0, AObj.row 113 1 [[ints ([1] : List Int)]]), (0, AObj.row 186 4 (out.map Token.cells))]) [] c ((weaker_none 186 4).trans (wk [0, 3, 4] (tO rfl (turn_row1 (cv (turn_listL _ _ rfl (Nat.zero_le _) (by decide) eqA (fun _ => lowL1 rfl) lnA) (c1 (c1 (c1 .nil))))) (tO rfl (turn_row1 (cv (turn_as (as_lits (c := (fun q_ => [I q_])) (d := 0) ([1] : List Int) rfl) lw) .nil)) (tO rfl (tl eqA) .nil))) (s1 (s1 (s1 (sv (turn_ptr 0 rfl rfl) (sv (turn_fn .nil (cv (turn_ptr 1 rfl rfl) .nil)) (sv (turn_nilown 2 rfl) .nil)))))))) ⟨_, Nat.lt_succ_self _, foll hR rfl, by first | (have hq := hrd _ (by assumption); exact ⟨hq.2.1.1, hq.2.1.2.1, hq.2.1.2.2, fun hz => by have hq3 := hq.2.2.2 hz; simp only [List.length_append, List.length_cons, List.length_nil]; omega⟩) | first | (refine ⟨by omega, by omega, by omega, fun _ => by simp; omega⟩) | first | (simp [LexReader.zero]; done) | first | (simp; omega) | exact exA⟩ ?_
      clear hR
      rintro out c2 ⟨m, hm, hR, hx⟩
      try dsimp only at hR hm hx
      obtain ⟨m, rfl⟩ : ∃ k, m = k + 1 := ⟨m - 1, by omega⟩
      conv => whnf
      refine And.intro (fun h5 => ?_) (fun h6 => ?_)
      · conv => whnf
        have hol := hx.2.2.2 h5; have hrd := fun (b : Int → Bool) (hn : ((lex_reader_while c2 b).2.at_ == ((lex_reader_while c2 b).2.line.length : Int)) = false) => lex_round c2 _ b (by omega) (by omega) (by omega) h5 rfl hn
        have cl1 : ∀ (y1 : Int), AMoves Tryz.prog 208 [J y1, AVal.ptr 0 0 1 0 0] [(0, AObj.row 113 1 [[ints ([1] : List Int)]])] 1 (Bo ((fun (y : Int) => lex_Tokens_g3 y ([1] : List Int) 0) y1)) [(0, AObj.row 113 1 [[ints ([1] : List Int)]])] := by
          intro y1
          have hR : (fun (y : Int) => lex_Tokens_g3 y ([1] : List Int) 0) y1 = (fun (y : Int) => lex_Tokens_g3 y ([1] : List Int) 0) y1 := rfl
          refine AMoves.of_cwp (kp 6 [6, 7, 8, 9, 15]) Tryz.func208 rfl rfl rfl ?_
          conv => whnf
          refine loop_start1 (fun (i : Nat) => lex_Tokens_g3 y1 (List.drop i ([1] : List Int)) i = (fun (y : Int) => lex_Tokens_g3 y ([1] : List Int) 0) y1 ∧ i ≤ ([1] : List Int).length) (fun i => ([1] : List Int).length - i) (fun i => [(0, J y1), (3, Bo false), (6, ints ([1] : List Int)), (7, I (([1] : List Int).length : Int)), (8, I (i : Int))]) (fun i => [(0, AObj.row 113 1 [[ints ([1] : List Int)]])]) 0 (wk [0] (tO rfl (ts (lv lw LowL.nil)) .nil) (s1 (s1 (sl lw (s1 (s1 .nil)))))) ⟨foll hR rfl, by exact omA⟩ ?_
          clear hR
          rintro i ⟨hR, hj⟩
          try dsimp only at hR hj
          conv => whnf
          refine And.intro (fun h7 => ?_) (fun h8 => ?_)
          · have hlt : i < ([1] : List Int).length := by have := of_decide_eq_true h7; omega
            rw [drop_getD 0 hlt] at hR
            conv => whnf
            refine And.intro gkA ?_
            conv => whnf
            refine ACalls.use (runes_Class_c y1 _) ?_
            conv => whnf
            refine And.intro (fun h9 => ?_) (fun h10 => ?_)
            · conv => whnf
              refine ret_moves (fun r : Bool => Bo r) (fun _ => [(0, AObj.row 113 1 [[ints ([1] : List Int)]])]) (leaf := true) (foll hR (ct h9 rfl)) ?_
              exact tt [0] (tO rfl (ts (lv lw LowL.nil)) .nil) t1
            · conv => whnf
              exact loop_next1 (i + 1) (wk [0] (tO rfl (ts (lv lw LowL.nil)) .nil) (s1 (s1 (sl lw (s1 (sv (turn_eq (I_eq (wr omA)) lx) .nil)))))) omA ⟨foll hR (cf h10 rfl), by exact omA⟩
          · rw [drop_none (l := ([1] : List Int)) (j := i) (by have := of_decide_eq_false h8; omega)] at hR
            conv => whnf
            refine ret_moves (fun r : Bool => Bo r) (fun _ => [(0, AObj.row 113 1 [[ints ([1] : List Int)]])]) (leaf := false) (foll hR rfl) ?_
            exact tt [0] (tO rfl (ts (lv lw LowL.nil)) .nil) t1
        have hof1 : AMoves Tryz.prog 199 [AVal.ptr 0 0 4 0 0, AVal.fn (.func 208) [] [AVal.ptr 1 0 1 0 0]] [(0, AObj.row 206 4 [[runes c2.line, I c2.at_, I c2.bad, I c2.error]]), (0, AObj.row 113 1 [[ints ([1] : List Int)]])] 2 (Sg ((lex_reader_while c2 (fun (y : Int) => lex_Tokens_g3 y ([1] : List Int) 0)).1)) [(0, AObj.row 206 4 [[runes (((lex_reader_while c2 (fun (y : Int) => lex_Tokens_g3 y ([1] : List Int) 0)).2).line), I (((lex_reader_while c2 (fun (y : Int) => lex_Tokens_g3 y ([1] : List Int) 0)).2).at_), I (((lex_reader_while c2 (fun (y : Int) => lex_Tokens_g3 y ([1] : List Int) 0)).2).bad), I (((lex_reader_while c2 (fun (y : Int) => lex_Tokens_g3 y ([1] : List Int) 0)).2).error)]]), (0, AObj.row 113 1 [[ints ([1] : List Int)]])] := by
          have hR : lex_reader_while c2 (fun (y : Int) => lex_Tokens_g3 y ([1] : List Int) 0) = lex_reader_while c2 (fun (y : Int) => lex_Tokens_g3 y ([1] : List Int) 0) := rfl
          refine AMoves.of_cwp (kp 6 [33]) Tryz.func199 rfl rfl rfl ?_
          conv => whnf
          refine loop_start1 (fun (c3 : LexReader) => ∃ m, (Int.toNat ((c3.line.length : Int) - c3.at_)) < m ∧ lex_reader_while_k1 c2 (lex_reader_while_g1 (fun (y : Int) => lex_Tokens_g3 y ([1] : List Int) 0) m c3) = lex_reader_while c2 (fun (y : Int) => lex_Tokens_g3 y ([1] : List Int) 0) ∧ 0 ≤ c3.at_ ∧ c3.at_ ≤ (c3.line.length : Int) ∧ c3.line.length ≤ 400 ∧ c2.at_ ≤ c3.at_ ∧ 0 ≤ c2.at_) (fun c3 => (Int.toNat ((c3.line.length : Int) - c3.at_))) (fun c3 => [(0, AVal.ptr 0 0 4 0 0), (1, AVal.fn (.func 208) [] [AVal.ptr 1 0 1 0 0]), (4, Sg ⟨#[]⟩), (5, I c2.at_)]) (fun c3 => [(0, AObj.row 206 4 [[runes c3.line, I c3.at_, I c3.bad, I c3.error]]), (0, AObj.row 113 1 [[ints ([1] : List Int)]])]) c2 (wk [0, 1] (tO rfl (ts LexReader.lo) (tO rfl (ts (lv lw LowL.nil)) .nil)) (sv (turn_ptr 0 rfl rfl) (sv (turn_fn .nil (cv (turn_ptr 1 rfl rfl) .nil)) (s1 (s1 .nil))))) ⟨_, Nat.lt_succ_self _, foll hR rfl, by exact exA⟩ ?_
          clear hR
          rintro c3 ⟨m, hm, hR, hx⟩
          try dsimp only at hR hm hx
          obtain ⟨m, rfl⟩ : ∃ k, m = k + 1 := ⟨m - 1, by omega⟩
          conv => whnf
          refine dchk (by kernel_rfl) ?_
          conv => whnf
          refine And.intro gkA ?_
          conv => whnf
          (first | apply u2 | apply u3 | apply u4 | apply ACalls.use); exact mv [1] (cl1 (c3.line.getD (Int.toNat c3.at_) 0)) (dO (ds (lv lw LowL.nil)) .nil) (d1 (dp .nil)) (rO (re (lv lw LowL.nil)) .nil) rx
          conv => whnf
          repeat ((first | refine And.intro rfl ?_ | refine And.intro (fun _ => rfl) ?_); conv => whnf)
          refine And.intro (fun h11 => ?_) (fun h12 => ?_)
          · conv => whnf
            have hq1 := of_decide_eq_true ((Bool.and_eq_true _ _).mp h11).1; have hwr : w64 (c3.at_ + 1) = c3.at_ + 1 := wr (by omega)
            exact loop_next1 { c3 with at_ := (w64 (c3.at_ + 1)) } (wk [0, 1] (tO rfl (ts LexReader.lo) (tO rfl (ts (lv lw LowL.nil)) .nil)) (sv (turn_ptr 0 rfl rfl) (sv (turn_fn .nil (cv (turn_ptr 1 rfl rfl) .nil)) (s1 (s1 .nil))))) omA ⟨m, by exact omA, foll hR (congrArg (fun p : LexReader => lex_reader_while_k1 c2 p) (ct h11 rfl)), by exact exA⟩
          · conv => whnf
            replace hR : lex_reader_while_k1 c2 c3 = lex_reader_while c2 (fun (y : Int) => lex_Tokens_g3 y ([1] : List Int) 0) := fo2 (fun p : LexReader => lex_reader_while_k1 c2 p) (c3) hR (cf h12 rfl)
            refine dchk (by kernel_rfl) ?_
            conv => whnf
            refine And.intro gkA ?_
            conv => whnf
            first | refine ⟨(List.drop (Int.toNat c2.at_) (List.take (Int.toNat c3.at_) c3.line)), by exact cvA, ?_⟩ | refine ⟨_, fun _ => ⟨(List.drop (Int.toNat c2.at_) (List.take (Int.toNat c3.at_) c3.line)), by exact cvA, rfl, rfl⟩, ?_⟩ | refine ⟨_, rfl, ⟨(List.drop (Int.toNat c2.at_) (List.take (Int.toNat c3.at_) c3.line)), by exact cvA, Sub.refl _, rfl⟩, ?_⟩
            conv => whnf
            repeat ((first | refine And.intro rfl ?_ | refine And.intro (fun _ => rfl) ?_); conv => whnf)
            refine ret_moves (fun r : ByteArray × LexReader => Sg r.1) (fun r : ByteArray × LexReader => [(0, AObj.row 206 4 [[runes r.2.line, I r.2.at_, I r.2.bad, I r.2.error]]), (0, AObj.row 113 1 [[ints ([1] : List Int)]])]) (leaf := ((runesBytes (List.drop (Int.toNat c2.at_) (List.take (Int.toNat c3.at_) c3.line))), c3)) (foll hR rfl) ?_
            exact tt [0, 1] (tO rfl (ts LexReader.lo) (tO rfl (ts (lv lw LowL.nil)) .nil)) t1
        refine ACalls.use (mv [0, 1] (hof1) (dO (ds LexReader.lo) (dO (ds (lv lw LowL.nil)) .nil)) (dp (dv (dn_fn .nil (dp .nil)) .nil)) (rO (re LexReader.lo) (rO (re (lv lw LowL.nil)) .nil)) rx) ?_
        conv => whnf
        refine dchk (by kernel_rfl) ?_
        conv => whnf
        repeat ((first | refine And.intro rfl ?_ | refine And.intro (fun _ => rfl) ?_); conv => whnf)
        refine And.intro (fun h13 => ?_) (fun h14 => ?_)
        · conv => whnf
          refine dchk (by kernel_rfl) ?_
          conv => whnf
          repeat ((first | refine And.intro rfl ?_ | refine And.intro (fun _ => rfl) ?_); conv => whnf)
          obtain rfl := foll hR (ct h5 (ct h13 rfl))
          exact ret_seen (Low.tup' (.cons lw (l1 (l1 .nil)))) (Seen.tup (ev (seen_list Token.zero _ rfl eqA lnA) (e1 (e1 .nil))))
        · conv => whnf
          refine ACalls.use (mv [0] (lex_reader_next_c ((lex_reader_while c2 (fun (y : Int) => lex_Tokens_g3 y ([1] : List Int) 0)).2) (by first | (exact Nat.le_trans (hrd _ (by assumption)).1.2.2 (by decide)) | exact szA) (by exact (hrd _ (by assumption)).1)) (dO (ds LexReader.lo) .nil) (dp .nil) (rO (re LexReader.lo) .nil) (Ren.low _ (Low.agg' (Token.lo)))) ?_
          conv => whnf
          refine Or.inl ?_
          conv => whnf
          first | refine ⟨app_ok 40 rfl lnA (by first | (simp; omega) | grind), ?_⟩ | refine ⟨app_nil 40 rfl (by first | (simp; omega) | grind), ?_⟩
          conv => whnf
          exact loop_next2 (out ++ ([{ (lex_reader_next ((lex_reader_while c2 (fun (y : Int) => lex_Tokens_g3 y ([1] : List Int) 0)).2)).1 with at_ := (lex_reader_while c2 (fun (y : Int) => lex_Tokens_g3 y ([1] : List Int) 0)).2.at_ }] : List Token)) ((lex_reader_next ((lex_reader_while c2 (fun (y : Int) => lex_Tokens_g3 y ([1] : List Int) 0)).2)).2) (wk [0, 1, 2] (tO rfl (ts LexReader.lo) (tO rfl (ts (lv lw LowL.nil)) (tO rfl (tl eqA) .nil))) (s1 (s1 (s1 (sv (turn_ptr 0 rfl rfl) (sv (turn_fn .nil (cv (turn_ptr 1 rfl rfl) .nil)) (sv (to 2 lnA) .nil))))))) (by first | (have hq := hrd _ (by assumption); omega) | exact omA) ⟨m, by first | (have hq := hrd _ (by assumption); omega) | exact omA, foll hR (ct h5 (cf h14 rfl)), by first | (have hq := hrd _ (by assumption); exact ⟨hq.2.1.1, hq.2.1.2.1, hq.2.1.2.2, fun hz => by have hq3 := hq.2.2.2 hz; simp only [List.length_append, List.length_cons, List.length_nil]; omega⟩) | first | (refine ⟨by omega, by omega, by omega, fun _ => by simp; omega⟩) | first | (simp [LexReader.zero]; done) | first | (simp; omega) | exact exA⟩
      · conv => whnf
        refine dchk (by kernel_rfl) ?_
        conv => whnf
        repeat ((first | refine And.intro rfl ?_ | refine And.intro (fun _ => rfl) ?_); conv => whnf)
        obtain rfl := foll hR (cf h6 rfl)
        exact ret_seen (Low.tup' (.cons lw (l1 (l1 .nil)))) (Seen.tup (ev (seen_nil) (e1 (e1 .nil))))

-- F (muster/job.view).queued
def job_view_queued (v : Job) : Bool :=
  ((((v.start == 0) && (v.limit == 0)) && (v.nodes == 0)) && (((v.promise == (-1)) && (v.choice == 0)) || (((job_tick v.promise) && (job_view_option v v.choice).2) && (!v.held))))

theorem job_view_queued_c (v : Job) (hs0 : v.sz) : ∀ objs, AGives Tryz.prog 145 [Job.a v] objs (Bo (job_view_queued v)) := by
  generalize hR : job_view_queued v = R
  refine AGives.any' (.cons (Job.low _ _) .nil) lx (ACalls.of_cwp (kp 6 []) Tryz.func145 rfl rfl ?_)
  have hk0 := hs0
  obtain ⟨z1, z2, z3, z4, z5⟩ : v.name.size ≤ 4294967296 ∧ v.user.size ≤ 4294967296 ∧ v.account.size ≤ 4294967296 ∧ (v.shape.alts.length ≤ 4294967296) ∧ v.after.length ≤ 4294967296 := hs0
  conv => whnf
  refine ACalls.use (job_view_option_c v v.choice szA _) ?_
  conv => whnf
  (first | apply u2 | apply u3 | apply u4 | apply ACalls.use); exact job_tick_c v.promise _
  conv => whnf
  obtain rfl := foll hR rfl
  exact ret_seen lx sr

-- F (muster/job.view).running
def job_view_running (v : Job) : Bool :=
  bif (((((((!(job_view_option v v.choice).2) || v.held) || (!(job_tick v.start))) || (!(job_tick v.promise))) || (decide (v.promise < v.start))) || (!(job_tick v.limit))) || ((w64 (v.limit - v.start)) != (job_view_option v v.choice).1.wall)) then
    false
  else
    ((job_nodes v.nodes) && (shape_Allows v.shape v.choice (nodeset_Count v.nodes)))

theorem job_view_running_c (v : Job) (hs0 : v.sz) : ∀ objs, AGives Tryz.prog 146 [Job.a v] objs (Bo (job_view_running v)) := by
  generalize hR : job_view_running v = R
  refine AGives.any' (.cons (Job.low _ _) .nil) lx (ACalls.of_cwp (kp 5 [61]) Tryz.func146 rfl rfl ?_)
  have hk0 := hs0
  obtain ⟨z3, z4, z5, z6, z7⟩ : v.name.size ≤ 4294967296 ∧ v.user.size ≤ 4294967296 ∧ v.account.size ≤ 4294967296 ∧ (v.shape.alts.length ≤ 4294967296) ∧ v.after.length ≤ 4294967296 := hs0
  conv => whnf
  refine ACalls.use (job_view_option_c v v.choice szA _) ?_
  conv => whnf
  (first | apply u2 | apply u3 | apply u4 | apply ACalls.use); exact job_tick_c v.start _
  conv => whnf
  (first | apply u2 | apply u3 | apply u4 | apply ACalls.use); exact job_tick_c v.promise _
  conv => whnf
  (first | apply u2 | apply u3 | apply u4 | apply ACalls.use); exact job_tick_c v.limit _
  conv => whnf
  refine And.intro (fun h1 => ?_) (fun h2 => ?_)
  · conv => whnf
    obtain rfl := foll hR (ct h1 rfl)
    exact ret_seen lx sr
  · conv => whnf
    refine dchk (by kernel_rfl) ?_
    conv => whnf
    (first | apply u2 | apply u3 | apply u4 | apply ACalls.use); exact job_nodes_c v.nodes _
    conv => whnf
    (first | apply u2 | apply u3 | apply u4 | apply ACalls.use); exact nodeset_Count_c v.nodes _
    conv => whnf
    (first | apply u2 | apply u3 | apply u4 | apply ACalls.use); exact shape_Allows_c v.shape v.choice (nodeset_Count v.nodes) szA _
    conv => whnf
    repeat ((first | refine And.intro rfl ?_ | refine And.intro (fun _ => rfl) ?_ | refine And.intro (fun _ => job_nodes_c v.nodes _) ?_ | refine And.intro (fun _ => nodeset_Count_c v.nodes _) ?_ | refine And.intro (fun _ => shape_Allows_c v.shape v.choice (nodeset_Count v.nodes) szA _) ?_); conv => whnf)
    obtain rfl := foll hR (cf h2 rfl)
    exact ret_seen lx sr

-- F muster/state.resize
def state_resize_k1 (s : State) (r_ : Resize) (j : Job) (c : Int) : Bool :=
  bif (((state_where s (fun (y : Int) (y1 : Node) => ((y1.job == r_.job) && (y1.want == c)))) != (wu64 (BitVec.ofInt 64 r_.nodes &&& ~~~(BitVec.ofInt 64 r_.said)).toNat)) || (!(alloc_Quiet s.nodes r_.said))) then
    false
  else
    bif r_.grow then
      ((r_.nodes == (fleet_Of s.nodes r_.job 2)) && (decide ((w64 ((nodeset_Count j.nodes) + (nodeset_Count r_.nodes))) ≤ j.shape.max)))
    else
      (((wu64 (BitVec.ofInt 64 r_.nodes &&& ~~~(BitVec.ofInt 64 j.nodes)).toNat) == 0) && (decide ((w64 ((nodeset_Count j.nodes) - (nodeset_Count r_.nodes))) ≥ j.shape.min)))

def state_resize (s : State) (r_ : Resize) (j : Job) : Bool :=
  bif (((((j.shape.kind != 3) || (r_.nodes == 0)) || ((wu64 (BitVec.ofInt 64 r_.said &&& ~~~(BitVec.ofInt 64 r_.nodes)).toNat) != 0)) || (decide (r_.since < 0))) || (decide (r_.since > 1000000))) then
    false
  else
    bif r_.grow then
      state_resize_k1 s r_ j 2
    else
      state_resize_k1 s r_ j 4

theorem state_resize_c (s : State) (r_ : Resize) (j : Job) (hs0 : s.sz) (hs1 : j.sz) : ∀ objs, AGives Tryz.prog 72 [State.a s, Resize.a r_, Job.a j] objs (Bo (state_resize s r_ j)) := by
  generalize hR : state_resize s r_ j = R
  refine AGives.any' (.cons (State.low _ _) (.cons (Resize.low _ _) (.cons (Job.low _ _) .nil))) lx (ACalls.of_cwp (kj [1000006] 11 [37, 39, 57, 65]) Tryz.func72 rfl rfl ?_)
  have hk0 := hs0
  obtain ⟨z13, z14, z15, z16, z17, z18, z19⟩ : s.nodes.length ≤ 4294967296 ∧ s.jobs.length ≤ 4294967296 ∧ (∀ y ∈ s.jobs, y.sz) ∧ s.resizes.length ≤ 4294967296 ∧ s.books.length ≤ 4294967296 ∧ s.ledger.length ≤ 4294967296 ∧ (∀ y ∈ s.ledger, y.sz) := hs0
  have hk1 := hs1
  obtain ⟨z20, z21, z22, z23, z24⟩ : j.name.size ≤ 4294967296 ∧ j.user.size ≤ 4294967296 ∧ j.account.size ≤ 4294967296 ∧ (j.shape.alts.length ≤ 4294967296) ∧ j.after.length ≤ 4294967296 := hs1
  conv => whnf
  refine And.intro (fun h1 => ?_) (fun h2 => ?_)
  · conv => whnf
    obtain rfl := foll hR (ct h1 rfl)
    exact ret_seen lx sr
  · conv => whnf
    refine join_start1 (fun (c : Int) => state_resize_k1 s r_ j c = R) (fun c => [(3, AVal.ptr 0 0 8 0 0), (4, AVal.ptr 1 0 5 0 0), (5, AVal.ptr 2 0 20 0 0), (6, Bo false), (7, AVal.ptr 3 0 1 0 0)]) (fun c => [(0, AObj.row 28 8 [[I s.now, nodeL s.nodes, jobL s.jobs, resizeL s.resizes, bookL s.books, usageL s.ledger, I s.nextJob, I s.nextBook]]), (0, AObj.row 38 5 [[I r_.job, Bo r_.grow, U r_.nodes, U r_.said, I r_.since]]), (0, AObj.row 54 20 [[I j.id, Sg j.name, Sg j.user, Sg j.account, I j.shape.kind, altL j.shape.alts, I j.shape.min, I j.shape.max, I j.shape.wall, I j.prio, depL j.after, I j.state, Bo j.held, I j.born, I j.promise, I j.choice, I j.start, I j.limit, U j.nodes, I j.used]]), (0, AObj.row 3 1 [[I c]])]) ?_ ?_
    · clear hR
      rintro c hR
      try dsimp only at hR
      conv => whnf
      have cl1 : ∀ (y1 : Int) (y2 : Node), AMoves Tryz.prog 104 [I y1, Node.a y2, AVal.ptr 0 0 5 0 0, AVal.ptr 1 0 1 0 0] [(0, AObj.row 38 5 [[I r_.job, Bo r_.grow, U r_.nodes, U r_.said, I r_.since]]), (0, AObj.row 3 1 [[I c]])] 2 (Bo ((fun (y : Int) (y1 : Node) => ((y1.job == r_.job) && (y1.want == c))) y1 y2)) [(0, AObj.row 38 5 [[I r_.job, Bo r_.grow, U r_.nodes, U r_.said, I r_.since]]), (0, AObj.row 3 1 [[I c]])] := by
        intro y1 y2
        have hR : (fun (y : Int) (y1 : Node) => ((y1.job == r_.job) && (y1.want == c))) y1 y2 = (fun (y : Int) (y1 : Node) => ((y1.job == r_.job) && (y1.want == c))) y1 y2 := rfl
        refine AMoves.of_cwp (kp 7 []) Tryz.func104 rfl rfl rfl ?_
        conv => whnf
        refine ret_moves (fun r : Bool => Bo r) (fun _ => [(0, AObj.row 38 5 [[I r_.job, Bo r_.grow, U r_.nodes, U r_.said, I r_.since]]), (0, AObj.row 3 1 [[I c]])]) (leaf := ((y2.job == r_.job) && (y2.want == c))) (foll hR rfl) ?_
        exact tt [0, 1] (tO rfl (ts Resize.lo) (tO rfl (ts (l1 LowL.nil)) .nil)) t1
      have hof1 : AMoves Tryz.prog 103 [State.a s, AVal.fn (.func 104) [] [AVal.ptr 0 0 5 0 0, AVal.ptr 1 0 1 0 0]] [(0, AObj.row 38 5 [[I r_.job, Bo r_.grow, U r_.nodes, U r_.said, I r_.since]]), (0, AObj.row 3 1 [[I c]])] 2 (U (state_where s (fun (y : Int) (y1 : Node) => ((y1.job == r_.job) && (y1.want == c))))) [(0, AObj.row 38 5 [[I r_.job, Bo r_.grow, U r_.nodes, U r_.said, I r_.since]]), (0, AObj.row 3 1 [[I c]])] := by
        have hR : state_where s (fun (y : Int) (y1 : Node) => ((y1.job == r_.job) && (y1.want == c))) = state_where s (fun (y : Int) (y1 : Node) => ((y1.job == r_.job) && (y1.want == c))) := rfl
        refine AMoves.of_cwp (kp 10 [11, 12, 13, 14, 21]) Tryz.func103 rfl rfl rfl ?_
        conv => whnf
        refine loop_start2 (fun (l : List Int) (i : Nat) => state_where_k1 (state_where_g1 (fun (y : Int) (y1 : Node) => ((y1.job == r_.job) && (y1.want == c))) (List.drop i s.nodes) l i) = state_where s (fun (y : Int) (y1 : Node) => ((y1.job == r_.job) && (y1.want == c))) ∧ i ≤ s.nodes.length ∧ l.length ≤ i) (fun l i => s.nodes.length - i) (fun l i => [(1, AVal.fn (.func 104) [] [AVal.ptr 0 0 5 0 0, AVal.ptr 1 0 1 0 0]), (4, U 0), (5, AVal.own 2 0 1 0 l.length), (11, nodeL s.nodes), (12, I (s.nodes.length : Int)), (13, I (i : Int))]) (fun l i => [(0, AObj.row 38 5 [[I r_.job, Bo r_.grow, U r_.nodes, U r_.said, I r_.since]]), (0, AObj.row 3 1 [[I c]]), (0, AObj.row 3 1 (l.map (fun q_ => [I q_])))]) [] 0 ((weaker_none 3 1).trans (wk [0, 1, 3] (tO rfl (ts Resize.lo) (tO rfl (ts (l1 LowL.nil)) (tO rfl (tl eqA) .nil))) (sv (turn_fn .nil (cv (turn_ptr 0 rfl rfl) (cv (turn_ptr 1 rfl rfl) .nil))) (s1 (sv (turn_nilown 2 rfl) (sl lw (s1 (s1 .nil)))))))) ⟨foll hR rfl, by exact omA, by exact exA⟩ ?_
        clear hR
        rintro l i ⟨hR, hj, hx⟩
        try dsimp only at hR hj hx
        conv => whnf
        refine And.intro (fun h3 => ?_) (fun h4 => ?_)
        · have hlt : i < s.nodes.length := by have := of_decide_eq_true h3; omega
          rw [drop_getD Node.zero hlt] at hR
          conv => whnf
          refine And.intro gkA ?_
          conv => whnf
          refine ACalls.use (mv [0, 1] (cl1 (i : Int) (s.nodes.getD i Node.zero)) (dO (ds Resize.lo) (dO (ds (l1 LowL.nil)) .nil)) (d1 (dl (Node.low _ _) (dp (dp .nil)))) (rO (re Resize.lo) (rO (re (l1 LowL.nil)) .nil)) rx) ?_
          conv => whnf
          refine And.intro (fun h5 => ?_) (fun h6 => ?_)
          · conv => whnf
            refine Or.inl ?_
            conv => whnf
            first | refine ⟨app_ok 8 rfl lnA (by first | (simp; omega) | grind), ?_⟩ | refine ⟨app_nil 8 rfl (by first | (simp; omega) | grind), ?_⟩
            conv => whnf
            exact loop_next2 (l ++ ([(i : Int)] : List Int)) (i + 1) (wk [0, 1, 2] (tO rfl (ts Resize.lo) (tO rfl (ts (l1 LowL.nil)) (tO rfl (tl eqA) .nil))) (sv (turn_fn .nil (cv (turn_ptr 0 rfl rfl) (cv (turn_ptr 1 rfl rfl) .nil))) (s1 (sv (to 2 lnA) (sl lw (s1 (sv (turn_eq (I_eq (wr omA)) lx) .nil))))))) omA ⟨foll hR (congrArg (fun p : (List Int) => state_where_k1 p) (ct h5 rfl)), by exact omA, by exact exA⟩
          · conv => whnf
            exact loop_next2 l (i + 1) (wk [0, 1, 2] (tO rfl (ts Resize.lo) (tO rfl (ts (l1 LowL.nil)) (tO rfl (tl eqA) .nil))) (sv (turn_fn .nil (cv (turn_ptr 0 rfl rfl) (cv (turn_ptr 1 rfl rfl) .nil))) (s1 (sv (to 2 lnA) (sl lw (s1 (sv (turn_eq (I_eq (wr omA)) lx) .nil))))))) omA ⟨foll hR (congrArg (fun p : (List Int) => state_where_k1 p) (cf h6 rfl)), by exact omA, by exact exA⟩
        · rw [drop_none (l := s.nodes) (j := i) (by have := of_decide_eq_false h4; omega)] at hR
          conv => whnf
          replace hR : state_where_k1 l = state_where s (fun (y : Int) (y1 : Node) => ((y1.job == r_.job) && (y1.want == c))) := fo2 (fun p : (List Int) => state_where_k1 p) (l) hR rfl
          refine ACalls.use (AGives.lent (nodeset_Of_c l szA []) (ev (seen_list _ _ rfl eqA lnA) .nil) (.cons lw .nil) (bare2_sound rfl)) ?_
          conv => whnf
          refine ret_moves (fun r : Int => U r) (fun r : Int => [(0, AObj.row 38 5 [[I r_.job, Bo r_.grow, U r_.nodes, U r_.said, I r_.since]]), (0, AObj.row 3 1 [[I c]])]) (leaf := (nodeset_Of l).1) (foll hR rfl) ?_
          exact tt [0, 1] (tO rfl (ts Resize.lo) (tO rfl (ts (l1 LowL.nil)) .nil)) t1
      refine ACalls.use (mv [1, 3] (hof1) (dO (ds Resize.lo) (dO (ds (l1 LowL.nil)) .nil)) (dv (dn_low (Low.agg' (State.lo))) (dv (dn_fn .nil (dp (dp .nil))) .nil)) (rO (re Resize.lo) (rO (re (l1 LowL.nil)) .nil)) rx) ?_
      conv => whnf
      (first | apply u2 | apply u3 | apply u4 | apply ACalls.use); exact alloc_Quiet_c s.nodes r_.said szA _
      conv => whnf
      refine And.intro (fun h7 => ?_) (fun h8 => ?_)
      · conv => whnf
        obtain rfl := foll hR (ct h7 rfl)
        exact ret_seen lx sr
      · conv => whnf
        refine dchk (by kernel_rfl) ?_
        conv => whnf
        (first | apply u2 | apply u3 | apply u4 | apply ACalls.use); exact nodeset_Count_c j.nodes _
        conv => whnf
        (first | apply u2 | apply u3 | apply u4 | apply ACalls.use); exact nodeset_Count_c r_.nodes _
        conv => whnf
        repeat ((first | refine And.intro rfl ?_ | refine And.intro (fun _ => rfl) ?_ | refine And.intro (fun _ => nodeset_Count_c j.nodes _) ?_ | refine And.intro (fun _ => nodeset_Count_c r_.nodes _) ?_); conv => whnf)
        refine And.intro (fun h9 => ?_) (fun h10 => ?_)
        · conv => whnf
          refine dchk (by kernel_rfl) ?_
          conv => whnf
          (first | apply u2 | apply u3 | apply u4 | apply ACalls.use); exact fleet_Of_c s.nodes r_.job 2 szA _
          conv => whnf
          repeat ((first | refine And.intro rfl ?_ | refine And.intro (fun _ => rfl) ?_ | refine And.intro (fun _ => fleet_Of_c s.nodes r_.job 2 szA _) ?_); conv => whnf)
          obtain rfl := foll hR (cf h8 (ct h9 rfl))
          exact ret_seen lx sr
        · conv => whnf
          obtain rfl := foll hR (cf h8 (cf h10 rfl))
          exact ret_seen lx sr
    · conv => whnf
      refine And.intro (fun h11 => ?_) (fun h12 => ?_)
      · conv => whnf
        exact join_here1 2 (wk [0, 1, 2, 3] (tO rfl (ts State.lo) (tO rfl (ts Resize.lo) (tO rfl (ts Job.lo) (tO rfl (ts (l1 LowL.nil)) .nil)))) (sv (turn_ptr 0 rfl rfl) (sv (turn_ptr 1 rfl rfl) (sv (turn_ptr 2 rfl rfl) (s1 (sv (turn_ptr 3 rfl rfl) .nil)))))) (foll hR (cf h2 (ct h11 rfl)))
      · conv => whnf
        exact join_here1 4 (wk [0, 1, 2, 3] (tO rfl (ts State.lo) (tO rfl (ts Resize.lo) (tO rfl (ts Job.lo) (tO rfl (ts (l1 LowL.nil)) .nil)))) (sv (turn_ptr 0 rfl rfl) (sv (turn_ptr 1 rfl rfl) (sv (turn_ptr 2 rfl rfl) (s1 (sv (turn_ptr 3 rfl rfl) .nil)))))) (foll hR (cf h2 (cf h12 rfl)))

-- F muster/alloc.Held
def alloc_Held (l : List Node) (job : Int) : Int :=
  bif (decide (job < 1)) then
    0
  else
    (fleet_Of l job 1)

theorem alloc_Held_c (l : List Node) (job : Int) (hs0 : l.length ≤ 4294967296) : ∀ objs, AGives Tryz.prog 39 [nodeL l, I job] objs (U (alloc_Held l job)) := by
  generalize hR : alloc_Held l job = R
  refine AGives.any' (.cons lw (l1 .nil)) lx (ACalls.of_cwp (kp 5 [6]) Tryz.func39 rfl rfl ?_)
  have hk0 := hs0
  obtain z3 : l.length ≤ 4294967296 := hs0
  conv => whnf
  refine And.intro (fun h1 => ?_) (fun h2 => ?_)
  · conv => whnf
    have qh1 := of_decide_eq_true h1
    obtain rfl := foll hR (ct h1 rfl)
    exact ret_seen lx sr
  · conv => whnf
    have qh2 := of_decide_eq_false h2
    refine ACalls.use (fleet_Of_c l job 1 szA _) ?_
    conv => whnf
    obtain rfl := foll hR (cf h2 rfl)
    exact ret_seen lx sr

end Go.Proofs.YtoionleakeemlaaGreatDoor
namespace Go.Proofs.YtoionleakeemlaaGreatDoor
set_option linter.unusedSimpArgs false
set_option linter.unusedVariables false
open Go.Fw

set_option maxRecDepth 20000
set_option maxHeartbeats 4000000
attribute [local irreducible] ACalls AMoves


-- F muster/cmd.word
def cmd_word (s : ByteArray) : Bool :=
  bif ((((lex_Tokens s).2.2 != 0) || ((((lex_Tokens s).1).length : Int) != 1)) || (!(((((lex_Tokens s).1).getD 0 Token.zero).kind == 1) && (((((lex_Tokens s).1).getD 0 Token.zero).text == s) && (((((lex_Tokens s).1).getD 0 Token.zero).num == 0) && ((((lex_Tokens s).1).getD 0 Token.zero).at_ == 0)))))) then
    false
  else
    true

theorem cmd_word_c (s : ByteArray) (hs0 : s.size ≤ 4294967296) : ∀ objs, AGives Tryz.prog 177 [Sg s] objs (Bo (cmd_word s)) := by
  generalize hR : cmd_word s = R
  refine AGives.any' (l1 .nil) lx (ACalls.of_cwp (kp 3 []) Tryz.func177 rfl rfl ?_)
  have hk0 := hs0
  obtain z3 : s.size ≤ 4294967296 := hs0
  conv => whnf
  refine ACalls.of_cwp (fun _ => true) Tryz.func186 rfl rfl ?_
  conv => whnf
  refine ACalls.of_cwp (fun _ => true) Tryz.func193 rfl rfl ?_
  conv => whnf
  refine And.intro (fun h => nomatch h) (fun _ => ?_)
  conv => whnf
  refine And.intro (fun h => nomatch h) (fun _ => ?_)
  conv => whnf
  refine ⟨_, _, Told.refl, ?_⟩
  conv => whnf
  refine ACalls.use (lex_Tokens_c s szA _) ?_
  conv => whnf
  refine dchk (by kernel_rfl) ?_
  conv => whnf
  refine And.intro gkA ?_
  conv => whnf
  refine And.intro (fun _ => (by kernel_rfl : eqOK _ _ = true)) ?_
  conv => whnf
  repeat ((first | refine And.intro rfl ?_ | refine And.intro (fun _ => rfl) ?_); conv => whnf)
  refine And.intro (fun h1 => ?_) (fun h2 => ?_)
  · conv => whnf
    refine ⟨_, _, Told.refl, ?_⟩
    conv => whnf
    obtain rfl := foll hR (ct h1 rfl)
    exact ret_seen lx sr
  · conv => whnf
    refine ⟨_, _, Told.refl, ?_⟩
    conv => whnf
    obtain rfl := foll hR (cf h2 rfl)
    exact ret_seen lx sr

end Go.Proofs.YtoionleakeemlaaGreatDoor
namespace Go.Proofs.YtoionleakeemlaaGreatDoor
set_option linter.unusedSimpArgs false
set_option linter.unusedVariables false
open Go.Fw

set_option maxRecDepth 20000
set_option maxHeartbeats 4000000
attribute [local irreducible] ACalls AMoves


-- F muster/cmd.fits
def cmd_fits_k2 (c : Cmd) (i1 : Bool) : Bool :=
  bif i1 then
    (cmd_within c.node 0 47)
  else
    bif (c.kind == 10) then
      (((cmd_within c.from_ 0 1000000) && c.hasTime) && (cmd_within c.nodes 1 48))
    else
      ((c.kind == 12) && (cmd_within c.job 0 99999))

def cmd_fits_k1 (c : Cmd) (i : Bool) : Bool :=
  bif i then
    (cmd_id c.job)
  else
    bif (c.kind == 5) then
      ((cmd_id c.job) && (c.hasPrio || c.hasTime))
    else
      bif (c.kind == 6) then
        ((cmd_id c.job) && (cmd_within c.nodes 1 48))
      else
        bif (c.kind == 7) then
          cmd_fits_k2 c (c.kind == 7)
        else
          bif (c.kind == 8) then
            cmd_fits_k2 c (c.kind == 8)
          else
            cmd_fits_k2 c (c.kind == 9)

def cmd_fits (c : Cmd) : Bool :=
  bif ((((c.hasPrio && (!(cmd_within c.prio 0 100))) || (c.hasTime && (!(cmd_length c.time)))) || ((!c.hasPrio) && (c.prio != 0))) || ((!c.hasTime) && (c.time != 0))) then
    false
  else
    bif (c.kind == 1) then
      (((((((cmd_name c.name) && (cmd_name c.user)) && (cmd_name c.account)) && (cmd_word c.user)) && (cmd_word c.account)) && (cmd_deps c.after)) && ((shape_Check c.shape) == 0))
    else
      bif (c.kind == 2) then
        cmd_fits_k1 c (c.kind == 2)
      else
        bif (c.kind == 3) then
          cmd_fits_k1 c (c.kind == 3)
        else
          bif (c.kind == 4) then
            cmd_fits_k1 c (c.kind == 4)
          else
            cmd_fits_k1 c (c.kind == 11)

theorem cmd_fits_c (c : Cmd) (hs0 : c.sz) : ∀ objs, AGives Tryz.prog 157 [Cmd.a c] objs (Bo (cmd_fits c)) := by
  generalize hR : cmd_fits c = R
  refine AGives.any' (.cons (Cmd.low _ _) .nil) lx (ACalls.of_cwp (kj [1000010, 1000018] 3 [40, 42, 43, 79, 87, 100, 110, 117]) Tryz.func157 rfl rfl ?_)
  have hk0 := hs0
  obtain ⟨z25, z26, z27, z28, z29⟩ : c.name.size ≤ 4294967296 ∧ c.user.size ≤ 4294967296 ∧ c.account.size ≤ 4294967296 ∧ (c.shape.alts.length ≤ 4294967296) ∧ c.after.length ≤ 4294967296 := hs0
  conv => whnf
  (first | apply u2 | apply u3 | apply u4 | apply ACalls.use); exact cmd_within_c c.prio 0 100 _
  conv => whnf
  (first | apply u2 | apply u3 | apply u4 | apply ACalls.use); exact cmd_length_c c.time _
  conv => whnf
  refine And.intro (fun h1 => ?_) (fun h2 => ?_)
  · conv => whnf
    obtain rfl := foll hR (ct h1 rfl)
    exact ret_seen lx sr
  · conv => whnf
    refine And.intro (fun h3 => ?_) (fun h4 => ?_)
    · conv => whnf
      refine ACalls.use (cmd_name_c c.name szA _) ?_
      conv => whnf
      (first | apply u2 | apply u3 | apply u4 | apply ACalls.use); exact cmd_name_c c.user szA _
      conv => whnf
      (first | apply u2 | apply u3 | apply u4 | apply ACalls.use); exact cmd_name_c c.account szA _
      conv => whnf
      (first | apply u2 | apply u3 | apply u4 | apply ACalls.use); exact cmd_word_c c.user szA _
      conv => whnf
      (first | apply u2 | apply u3 | apply u4 | apply ACalls.use); exact cmd_word_c c.account szA _
      conv => whnf
      (first | apply u2 | apply u3 | apply u4 | apply ACalls.use); exact cmd_deps_c c.after szA _
      conv => whnf
      (first | apply u2 | apply u3 | apply u4 | apply ACalls.use); exact shape_Check_c c.shape szA _
      conv => whnf
      obtain rfl := foll hR (cf h2 (ct h3 rfl))
      exact ret_seen lx sr
    · conv => whnf
      refine join_start1 (fun (i : Bool) => cmd_fits_k1 c i = R) (fun i => [(1, AVal.ptr 0 0 18 0 0), (2, Bo false), (42, I c.kind), (79, Bo i)]) (fun i => [(0, AObj.row 162 18 [[I c.kind, I c.job, Sg c.name, Sg c.user, Sg c.account, I c.shape.kind, altL c.shape.alts, I c.shape.min, I c.shape.max, I c.shape.wall, I c.prio, Bo c.hasPrio, I c.time, Bo c.hasTime, depL c.after, I c.node, I c.nodes, I c.from_]])]) ?_ ?_
      · clear hR
        rintro i hR
        try dsimp only at hR
        conv => whnf
        refine And.intro (fun h5 => ?_) (fun h6 => ?_)
        · conv => whnf
          refine ACalls.use (cmd_id_c c.job _) ?_
          conv => whnf
          obtain rfl := foll hR (ct h5 rfl)
          exact ret_seen lx sr
        · conv => whnf
          refine And.intro (fun h7 => ?_) (fun h8 => ?_)
          · conv => whnf
            refine ACalls.use (cmd_id_c c.job _) ?_
            conv => whnf
            obtain rfl := foll hR (cf h6 (ct h7 rfl))
            exact ret_seen lx sr
          · conv => whnf
            refine And.intro (fun h9 => ?_) (fun h10 => ?_)
            · conv => whnf
              refine ACalls.use (cmd_id_c c.job _) ?_
              conv => whnf
              (first | apply u2 | apply u3 | apply u4 | apply ACalls.use); exact cmd_within_c c.nodes 1 48 _
              conv => whnf
              obtain rfl := foll hR (cf h6 (cf h8 (ct h9 rfl)))
              exact ret_seen lx sr
            · conv => whnf
              refine join_start1 (fun (i1 : Bool) => cmd_fits_k2 c i1 = R) (fun i1 => [(1, AVal.ptr 0 0 18 0 0), (2, Bo false), (42, I c.kind), (110, Bo i1)]) (fun i1 => [(0, AObj.row 162 18 [[I c.kind, I c.job, Sg c.name, Sg c.user, Sg c.account, I c.shape.kind, altL c.shape.alts, I c.shape.min, I c.shape.max, I c.shape.wall, I c.prio, Bo c.hasPrio, I c.time, Bo c.hasTime, depL c.after, I c.node, I c.nodes, I c.from_]])]) ?_ ?_
              · clear hR
                rintro i1 hR
                try dsimp only at hR
                conv => whnf
                refine And.intro (fun h11 => ?_) (fun h12 => ?_)
                · conv => whnf
                  refine ACalls.use (cmd_within_c c.node 0 47 _) ?_
                  conv => whnf
                  obtain rfl := foll hR (ct h11 rfl)
                  exact ret_seen lx sr
                · conv => whnf
                  refine And.intro (fun h13 => ?_) (fun h14 => ?_)
                  · conv => whnf
                    refine ACalls.use (cmd_within_c c.from_ 0 1000000 _) ?_
                    conv => whnf
                    (first | apply u2 | apply u3 | apply u4 | apply ACalls.use); exact cmd_within_c c.nodes 1 48 _
                    conv => whnf
                    obtain rfl := foll hR (cf h12 (ct h13 rfl))
                    exact ret_seen lx sr
                  · conv => whnf
                    (first | apply u2 | apply u3 | apply u4 | apply ACalls.use); exact cmd_within_c c.job 0 99999 _
                    conv => whnf
                    obtain rfl := foll hR (cf h12 (cf h14 rfl))
                    exact ret_seen lx sr
              · conv => whnf
                refine And.intro (fun h15 => ?_) (fun h16 => ?_)
                · conv => whnf
                  exact join_here1 (c.kind == 7) (wk [0] (tO rfl (ts Cmd.lo) .nil) (sv (turn_ptr 0 rfl rfl) (s1 (s1 (s1 .nil))))) (foll hR (cf h6 (cf h8 (cf h10 (ct h15 rfl)))))
                · conv => whnf
                  refine And.intro (fun h17 => ?_) (fun h18 => ?_)
                  · conv => whnf
                    exact join_here1 (c.kind == 8) (wk [0] (tO rfl (ts Cmd.lo) .nil) (sv (turn_ptr 0 rfl rfl) (s1 (s1 (s1 .nil))))) (foll hR (cf h6 (cf h8 (cf h10 (cf h16 (ct h17 rfl))))))
                  · conv => whnf
                    exact join_here1 (c.kind == 9) (wk [0] (tO rfl (ts Cmd.lo) .nil) (sv (turn_ptr 0 rfl rfl) (s1 (s1 (s1 .nil))))) (foll hR (cf h6 (cf h8 (cf h10 (cf h16 (cf h18 rfl))))))
      · conv => whnf
        refine And.intro (fun h19 => ?_) (fun h20 => ?_)
        · conv => whnf
          exact join_here1 (c.kind == 2) (wk [0] (tO rfl (ts Cmd.lo) .nil) (sv (turn_ptr 0 rfl rfl) (s1 (s1 (s1 .nil))))) (foll hR (cf h2 (cf h4 (ct h19 rfl))))
        · conv => whnf
          refine And.intro (fun h21 => ?_) (fun h22 => ?_)
          · conv => whnf
            exact join_here1 (c.kind == 3) (wk [0] (tO rfl (ts Cmd.lo) .nil) (sv (turn_ptr 0 rfl rfl) (s1 (s1 (s1 .nil))))) (foll hR (cf h2 (cf h4 (cf h20 (ct h21 rfl)))))
          · conv => whnf
            refine And.intro (fun h23 => ?_) (fun h24 => ?_)
            · conv => whnf
              exact join_here1 (c.kind == 4) (wk [0] (tO rfl (ts Cmd.lo) .nil) (sv (turn_ptr 0 rfl rfl) (s1 (s1 (s1 .nil))))) (foll hR (cf h2 (cf h4 (cf h20 (cf h22 (ct h23 rfl))))))
            · conv => whnf
              exact join_here1 (c.kind == 11) (wk [0] (tO rfl (ts Cmd.lo) .nil) (sv (turn_ptr 0 rfl rfl) (s1 (s1 (s1 .nil))))) (foll hR (cf h2 (cf h4 (cf h20 (cf h22 (cf h24 rfl))))))

end Go.Proofs.YtoionleakeemlaaGreatDoor
namespace Go.Proofs.YtoionleakeemlaaGreatDoor
set_option linter.unusedSimpArgs false
set_option linter.unusedVariables false
open Go.Fw

set_option maxRecDepth 20000
set_option maxHeartbeats 4000000
attribute [local irreducible] ACalls AMoves


-- F muster/cmd.Check
def cmd_Check (c : Cmd) : Int :=
  bif ((((decide ((c.shape.alts.length : Int) > 6)) || (decide ((c.after.length : Int) > 4))) || (!(cmd_fits c))) || (!(cmd_Same c (cmd_bare c)))) then
    80
  else
    0

theorem cmd_Check_c (c : Cmd) (hs0 : c.sz) : ∀ objs, AGives Tryz.prog 141 [Cmd.a c] objs (I (cmd_Check c)) := by
  generalize hR : cmd_Check c = R
  refine AGives.any' (.cons (Cmd.low _ _) .nil) lx (ACalls.of_cwp (kp 3 [25]) Tryz.func141 rfl rfl ?_)
  have hk0 := hs0
  obtain ⟨z3, z4, z5, z6, z7⟩ : c.name.size ≤ 4294967296 ∧ c.user.size ≤ 4294967296 ∧ c.account.size ≤ 4294967296 ∧ (c.shape.alts.length ≤ 4294967296) ∧ c.after.length ≤ 4294967296 := hs0
  conv => whnf
  refine dchk (by kernel_rfl) ?_
  conv => whnf
  (first | apply u2 | apply u3 | apply u4 | apply ACalls.use); exact cmd_fits_c c (by first | (exact cmd_bare_sz _ (by assumption)) | exact szA) _
  conv => whnf
  (first | apply u2 | apply u3 | apply u4 | apply ACalls.use); exact cmd_bare_c c (by first | (exact cmd_bare_sz _ (by assumption)) | exact szA) _
  conv => whnf
  (first | apply u2 | apply u3 | apply u4 | apply ACalls.use); exact cmd_Same_c c (cmd_bare c) (by first | (exact cmd_bare_sz _ (by assumption)) | exact szA) (by first | (exact cmd_bare_sz _ (by assumption)) | exact szA) _
  conv => whnf
  repeat ((first | refine And.intro rfl ?_ | refine And.intro (fun _ => rfl) ?_ | refine And.intro (fun _ => cmd_fits_c c (by first | (exact cmd_bare_sz _ (by assumption)) | exact szA) _) ?_ | refine And.intro (fun _ => cmd_bare_c c (by first | (exact cmd_bare_sz _ (by assumption)) | exact szA) _) ?_ | refine And.intro (fun _ => cmd_Same_c c (cmd_bare c) (by first | (exact cmd_bare_sz _ (by assumption)) | exact szA) (by first | (exact cmd_bare_sz _ (by assumption)) | exact szA) _) ?_); conv => whnf)
  refine And.intro (fun h1 => ?_) (fun h2 => ?_)
  · conv => whnf
    obtain rfl := foll hR (ct h1 rfl)
    exact ret_seen lx sr
  · conv => whnf
    obtain rfl := foll hR (cf h2 rfl)
    exact ret_seen lx sr

end Go.Proofs.YtoionleakeemlaaGreatDoor
namespace Go.Proofs.YtoionleakeemlaaGreatDoor
set_option linter.unusedSimpArgs false
set_option linter.unusedVariables false
open Go.Fw

set_option maxRecDepth 20000
set_option maxHeartbeats 4000000
attribute [local irreducible] ACalls AMoves


-- F muster/job.Check
def job_Check (j : Job) : Int :=
  bif ((((((decide (j.id < 1)) || (decide (j.id > 99999))) || (!(job_tick j.born))) || (j.used != (sat_Usage j.used))) || ((cmd_Check (job_view_submission j)) != 0)) || (slices_ContainsFunc_Dep j.after (fun (y : Dep) => (decide (y.job ≥ j.id))))) then
    140
  else
    bif (j.state == 1) then
      bif (!(job_view_queued j)) then
        140
      else
        0
    else
      bif (j.state == 2) then
        bif (!(job_view_running j)) then
          140
        else
          0
      else
        bif (!(job_ended j.state)) then
          140
        else
          bif (!(job_view_over j)) then
            140
          else
            0

theorem job_Check_c (j : Job) (hs0 : j.sz) : ∀ objs, AGives Tryz.prog 115 [Job.a j] objs (I (job_Check j)) := by
  generalize hR : job_Check j = R
  refine AGives.any' (.cons (Job.low _ _) .nil) lx (ACalls.of_cwp (kp 6 [42, 45, 51, 57, 64]) Tryz.func115 rfl rfl ?_)
  have hk0 := hs0
  obtain ⟨z19, z20, z21, z22, z23⟩ : j.name.size ≤ 4294967296 ∧ j.user.size ≤ 4294967296 ∧ j.account.size ≤ 4294967296 ∧ (j.shape.alts.length ≤ 4294967296) ∧ j.after.length ≤ 4294967296 := hs0
  conv => whnf
  refine dchk (by kernel_rfl) ?_
  conv => whnf
  (first | apply u2 | apply u3 | apply u4 | apply ACalls.use); exact job_tick_c j.born _
  conv => whnf
  (first | apply u2 | apply u3 | apply u4 | apply ACalls.use); exact sat_Usage_c j.used _
  conv => whnf
  (first | apply u2 | apply u3 | apply u4 | apply ACalls.use); exact job_view_submission_c j _
  conv => whnf
  (first | apply u2 | apply u3 | apply u4 | apply ACalls.use); exact cmd_Check_c (job_view_submission j) szA _
  conv => whnf
  have cl1 : ∀ (y1 : Dep), AMoves Tryz.prog 139 [Dep.a y1, AVal.ptr 0 0 20 0 0] [(0, AObj.row 54 20 [[I j.id, Sg j.name, Sg j.user, Sg j.account, I j.shape.kind, altL j.shape.alts, I j.shape.min, I j.shape.max, I j.shape.wall, I j.prio, depL j.after, I j.state, Bo j.held, I j.born, I j.promise, I j.choice, I j.start, I j.limit, U j.nodes, I j.used]])] 1 (Bo ((fun (y : Dep) => (decide (y.job ≥ j.id))) y1)) [(0, AObj.row 54 20 [[I j.id, Sg j.name, Sg j.user, Sg j.account, I j.shape.kind, altL j.shape.alts, I j.shape.min, I j.shape.max, I j.shape.wall, I j.prio, depL j.after, I j.state, Bo j.held, I j.born, I j.promise, I j.choice, I j.start, I j.limit, U j.nodes, I j.used]])] := by
    intro y1
    have hR : (fun (y : Dep) => (decide (y.job ≥ j.id))) y1 = (fun (y : Dep) => (decide (y.job ≥ j.id))) y1 := rfl
    refine AMoves.of_cwp (kp 4 []) Tryz.func139 rfl rfl rfl ?_
    conv => whnf
    refine ret_moves (fun r : Bool => Bo r) (fun _ => [(0, AObj.row 54 20 [[I j.id, Sg j.name, Sg j.user, Sg j.account, I j.shape.kind, altL j.shape.alts, I j.shape.min, I j.shape.max, I j.shape.wall, I j.prio, depL j.after, I j.state, Bo j.held, I j.born, I j.promise, I j.choice, I j.start, I j.limit, U j.nodes, I j.used]])]) (leaf := (decide (y1.job ≥ j.id))) (foll hR rfl) ?_
    exact tt [0] (tO rfl (ts Job.lo) .nil) t1
  have hof1 : AMoves Tryz.prog 143 [depL j.after, AVal.fn (.func 139) [] [AVal.ptr 0 0 20 0 0]] [(0, AObj.row 54 20 [[I j.id, Sg j.name, Sg j.user, Sg j.account, I j.shape.kind, altL j.shape.alts, I j.shape.min, I j.shape.max, I j.shape.wall, I j.prio, depL j.after, I j.state, Bo j.held, I j.born, I j.promise, I j.choice, I j.start, I j.limit, U j.nodes, I j.used]])] 1 (Bo (slices_ContainsFunc_Dep j.after (fun (y : Dep) => (decide (y.job ≥ j.id))))) [(0, AObj.row 54 20 [[I j.id, Sg j.name, Sg j.user, Sg j.account, I j.shape.kind, altL j.shape.alts, I j.shape.min, I j.shape.max, I j.shape.wall, I j.prio, depL j.after, I j.state, Bo j.held, I j.born, I j.promise, I j.choice, I j.start, I j.limit, U j.nodes, I j.used]])] := by
    have hR : slices_ContainsFunc_Dep j.after (fun (y : Dep) => (decide (y.job ≥ j.id))) = slices_ContainsFunc_Dep j.after (fun (y : Dep) => (decide (y.job ≥ j.id))) := rfl
    refine AMoves.of_cwp (kp 5 []) Tryz.func143 rfl rfl rfl ?_
    conv => whnf
    have hof2 : AMoves Tryz.prog 160 [depL j.after, AVal.fn (.func 139) [] [AVal.ptr 0 0 20 0 0]] [(0, AObj.row 54 20 [[I j.id, Sg j.name, Sg j.user, Sg j.account, I j.shape.kind, altL j.shape.alts, I j.shape.min, I j.shape.max, I j.shape.wall, I j.prio, depL j.after, I j.state, Bo j.held, I j.born, I j.promise, I j.choice, I j.start, I j.limit, U j.nodes, I j.used]])] 1 (I (slices_IndexFunc_Dep j.after (fun (y : Dep) => (decide (y.job ≥ j.id))))) [(0, AObj.row 54 20 [[I j.id, Sg j.name, Sg j.user, Sg j.account, I j.shape.kind, altL j.shape.alts, I j.shape.min, I j.shape.max, I j.shape.wall, I j.prio, depL j.after, I j.state, Bo j.held, I j.born, I j.promise, I j.choice, I j.start, I j.limit, U j.nodes, I j.used]])] := by
      have hR : slices_IndexFunc_Dep j.after (fun (y : Dep) => (decide (y.job ≥ j.id))) = slices_IndexFunc_Dep j.after (fun (y : Dep) => (decide (y.job ≥ j.id))) := rfl
      refine AMoves.of_cwp (kp 6 [7, 8, 9, 16]) Tryz.func160 rfl rfl rfl ?_
      conv => whnf
      refine loop_start1 (fun (i : Nat) => slices_IndexFunc_Dep_g1 (fun (y : Dep) => (decide (y.job ≥ j.id))) (List.drop i j.after) i = slices_IndexFunc_Dep j.after (fun (y : Dep) => (decide (y.job ≥ j.id))) ∧ i ≤ j.after.length) (fun i => j.after.length - i) (fun i => [(0, depL j.after), (1, AVal.fn (.func 139) [] [AVal.ptr 0 0 20 0 0]), (4, I 0), (7, I (j.after.length : Int)), (8, I (i : Int))]) (fun i => [(0, AObj.row 54 20 [[I j.id, Sg j.name, Sg j.user, Sg j.account, I j.shape.kind, altL j.shape.alts, I j.shape.min, I j.shape.max, I j.shape.wall, I j.prio, depL j.after, I j.state, Bo j.held, I j.born, I j.promise, I j.choice, I j.start, I j.limit, U j.nodes, I j.used]])]) 0 (wk [0] (tO rfl (ts Job.lo) .nil) (sl lw (sv (turn_fn .nil (cv (turn_ptr 0 rfl rfl) .nil)) (s1 (s1 (s1 .nil)))))) ⟨foll hR rfl, by exact omA⟩ ?_
      clear hR
      rintro i ⟨hR, hj⟩
      try dsimp only at hR hj
      conv => whnf
      refine And.intro (fun h1 => ?_) (fun h2 => ?_)
      · have hlt : i < j.after.length := by have := of_decide_eq_true h1; omega
        rw [drop_getD Dep.zero hlt] at hR
        conv => whnf
        refine And.intro gkA ?_
        conv => whnf
        refine ACalls.use (mv [0] (cl1 (j.after.getD i Dep.zero)) (dO (ds Job.lo) .nil) (dl (Dep.low _ _) (dp .nil)) (rO (re Job.lo) .nil) rx) ?_
        conv => whnf
        refine And.intro (fun h3 => ?_) (fun h4 => ?_)
        · conv => whnf
          refine ret_moves (fun r : Int => I r) (fun r : Int => [(0, AObj.row 54 20 [[I j.id, Sg j.name, Sg j.user, Sg j.account, I j.shape.kind, altL j.shape.alts, I j.shape.min, I j.shape.max, I j.shape.wall, I j.prio, depL j.after, I j.state, Bo j.held, I j.born, I j.promise, I j.choice, I j.start, I j.limit, U j.nodes, I j.used]])]) (leaf := (i : Int)) (foll hR (ct h3 rfl)) ?_
          exact tt [0] (tO rfl (ts Job.lo) .nil) t1
        · conv => whnf
          exact loop_next1 (i + 1) (wk [0] (tO rfl (ts Job.lo) .nil) (sl lw (sv (turn_fn .nil (cv (turn_ptr 0 rfl rfl) .nil)) (s1 (s1 (sv (turn_eq (I_eq (wr omA)) lx) .nil)))))) omA ⟨foll hR (cf h4 rfl), by exact omA⟩
      · rw [drop_none (l := j.after) (j := i) (by have := of_decide_eq_false h2; omega)] at hR
        conv => whnf
        refine ret_moves (fun r : Int => I r) (fun r : Int => [(0, AObj.row 54 20 [[I j.id, Sg j.name, Sg j.user, Sg j.account, I j.shape.kind, altL j.shape.alts, I j.shape.min, I j.shape.max, I j.shape.wall, I j.prio, depL j.after, I j.state, Bo j.held, I j.born, I j.promise, I j.choice, I j.start, I j.limit, U j.nodes, I j.used]])]) (leaf := (-1)) (foll hR rfl) ?_
        exact tt [0] (tO rfl (ts Job.lo) .nil) t1
    refine ACalls.use (mv [0] (hof2) (dO (ds Job.lo) .nil) (dl lw (dv (dn_fn .nil (dp .nil)) .nil)) (rO (re Job.lo) .nil) rx) ?_
    conv => whnf
    refine ret_moves (fun r : Bool => Bo r) (fun r : Bool => [(0, AObj.row 54 20 [[I j.id, Sg j.name, Sg j.user, Sg j.account, I j.shape.kind, altL j.shape.alts, I j.shape.min, I j.shape.max, I j.shape.wall, I j.prio, depL j.after, I j.state, Bo j.held, I j.born, I j.promise, I j.choice, I j.start, I j.limit, U j.nodes, I j.used]])]) (leaf := (decide ((slices_IndexFunc_Dep j.after (fun (y : Dep) => (decide (y.job ≥ j.id)))) ≥ 0))) (foll hR rfl) ?_
    exact tt [0] (tO rfl (ts Job.lo) .nil) t1
  (first | apply u2 | apply u3 | apply u4 | apply ACalls.use); exact mv [0] (hof1) (dO (ds Job.lo) .nil) (dl lw (dv (dn_fn .nil (dp .nil)) .nil)) (rO (re Job.lo) .nil) rx
  conv => whnf
  repeat ((first | refine And.intro rfl ?_ | refine And.intro (fun _ => rfl) ?_ | refine And.intro (fun _ => job_tick_c j.born _) ?_ | refine And.intro (fun _ => sat_Usage_c j.used _) ?_ | refine And.intro (fun _ => job_view_submission_c j _) ?_ | refine And.intro (fun _ => cmd_Check_c (job_view_submission j) szA _) ?_); conv => whnf)
  refine And.intro (fun h5 => ?_) (fun h6 => ?_)
  · conv => whnf
    obtain rfl := foll hR (ct h5 rfl)
    exact ret_seen lx sr
  · conv => whnf
    refine And.intro (fun h7 => ?_) (fun h8 => ?_)
    · conv => whnf
      refine ACalls.use (job_view_queued_c j szA _) ?_
      conv => whnf
      refine And.intro (fun h9 => ?_) (fun h10 => ?_)
      · conv => whnf
        obtain rfl := foll hR (cf h6 (ct h7 (ct h9 rfl)))
        exact ret_seen lx sr
      · conv => whnf
        obtain rfl := foll hR (cf h6 (ct h7 (cf h10 rfl)))
        exact ret_seen lx sr
    · conv => whnf
      refine And.intro (fun h11 => ?_) (fun h12 => ?_)
      · conv => whnf
        refine ACalls.use (job_view_running_c j szA _) ?_
        conv => whnf
        refine And.intro (fun h13 => ?_) (fun h14 => ?_)
        · conv => whnf
          obtain rfl := foll hR (cf h6 (cf h8 (ct h11 (ct h13 rfl))))
          exact ret_seen lx sr
        · conv => whnf
          obtain rfl := foll hR (cf h6 (cf h8 (ct h11 (cf h14 rfl))))
          exact ret_seen lx sr
      · conv => whnf
        refine ACalls.use (job_ended_c j.state _) ?_
        conv => whnf
        refine And.intro (fun h15 => ?_) (fun h16 => ?_)
        · conv => whnf
          obtain rfl := foll hR (cf h6 (cf h8 (cf h12 (ct h15 rfl))))
          exact ret_seen lx sr
        · conv => whnf
          refine ACalls.use (job_view_over_c j _) ?_
          conv => whnf
          refine And.intro (fun h17 => ?_) (fun h18 => ?_)
          · conv => whnf
            obtain rfl := foll hR (cf h6 (cf h8 (cf h12 (cf h16 (ct h17 rfl)))))
            exact ret_seen lx sr
          · conv => whnf
            obtain rfl := foll hR (cf h6 (cf h8 (cf h12 (cf h16 (cf h18 rfl)))))
            exact ret_seen lx sr

end Go.Proofs.YtoionleakeemlaaGreatDoor
namespace Go.Proofs.YtoionleakeemlaaGreatDoor
set_option linter.unusedSimpArgs false
set_option linter.unusedVariables false
open Go.Fw

set_option maxRecDepth 20000
set_option maxHeartbeats 4000000
attribute [local irreducible] ACalls AMoves


-- F muster/table.Check
def table_Check_g1 (l : List Job) : List Job → Nat → Int
  | [], _ =>
    0
  | x_ :: r, i =>
    bif (((job_Check x_) != 0) || ((decide ((i : Int) > 0)) && (decide ((l.getD (Int.toNat (w64 ((i : Int) - 1))) Job.zero).id ≥ x_.id)))) then
      140
    else
      table_Check_g1 l r (i + 1)

def table_Check (l : List Job) : Int :=
  bif (decide ((l.length : Int) > 40)) then
    140
  else
    table_Check_g1 l l 0

theorem table_Check_c (l : List Job) (hs0 : l.length ≤ 4294967296 ∧ (∀ y ∈ l, y.sz)) : ∀ objs, AGives Tryz.prog 83 [jobL l] objs (I (table_Check l)) := by
  generalize hR : table_Check l = R
  refine AGives.any' (.cons lw .nil) lx (ACalls.of_cwp (kp 5 [7, 8, 9, 10, 11, 32]) Tryz.func83 rfl rfl ?_)
  have hk0 := hs0
  obtain ⟨z12, z13⟩ : l.length ≤ 4294967296 ∧ (∀ y ∈ l, y.sz) := hs0
  conv => whnf
  refine And.intro (fun h1 => ?_) (fun h2 => ?_)
  · conv => whnf
    have qh1 := of_decide_eq_true h1
    obtain rfl := foll hR (ct h1 rfl)
    exact ret_seen lx sr
  · conv => whnf
    have qh2 := of_decide_eq_false h2
    refine loop_start1 (fun (i : Nat) => table_Check_g1 l (List.drop i l) i = R ∧ i ≤ l.length) (fun i => l.length - i) (fun i => [(0, jobL l), (2, I 0), (8, jobL l), (9, I (l.length : Int)), (10, I (i : Int))]) (fun i => []) 0 (wk [] .nil (sl lw (s1 (sl lw (s1 (s1 .nil)))))) ⟨foll hR (cf h2 rfl), by exact omA⟩ ?_
    clear hR
    rintro i ⟨hR, hj⟩
    try dsimp only at hR hj
    conv => whnf
    refine And.intro (fun h3 => ?_) (fun h4 => ?_)
    · have hlt : i < l.length := by have := of_decide_eq_true h3; omega
      rw [drop_getD Job.zero hlt] at hR
      have hxz : (l.getD i Job.zero).sz := getD_sz (by first | assumption | grind) (Job.szz _)
      have hkz := hxz
      obtain ⟨z5, z6, z7, z8, z9⟩ : ((l.getD i Job.zero).name).size ≤ 4294967296 ∧ ((l.getD i Job.zero).user).size ≤ 4294967296 ∧ ((l.getD i Job.zero).account).size ≤ 4294967296 ∧ ((((l.getD i Job.zero).shape).alts).length ≤ 4294967296) ∧ ((l.getD i Job.zero).after).length ≤ 4294967296 := hxz
      conv => whnf
      refine And.intro gkA ?_
      conv => whnf
      refine dchk (by kernel_rfl) ?_
      conv => whnf
      (first | apply u2 | apply u3 | apply u4 | apply ACalls.use); exact job_Check_c (l.getD i Job.zero) szA _
      conv => whnf
      refine And.intro gkA ?_
      conv => whnf
      repeat ((first | refine And.intro rfl ?_ | refine And.intro (fun _ => rfl) ?_ | refine And.intro (fun _ => job_Check_c (l.getD i Job.zero) szA _) ?_); conv => whnf)
      refine And.intro (fun h10 => ?_) (fun h11 => ?_)
      · conv => whnf
        obtain rfl := foll hR (ct h10 rfl)
        exact ret_seen lx sr
      · conv => whnf
        exact loop_next1 (i + 1) (wk [] .nil (sl lw (s1 (sl lw (s1 (sv (turn_eq (I_eq (wr omA)) lx) .nil)))))) omA ⟨foll hR (cf h11 rfl), by exact omA⟩
    · rw [drop_none (l := l) (j := i) (by have := of_decide_eq_false h4; omega)] at hR
      conv => whnf
      obtain rfl := foll hR rfl
      exact ret_seen lx sr

end Go.Proofs.YtoionleakeemlaaGreatDoor
namespace Go.Proofs.YtoionleakeemlaaGreatDoor
set_option linter.unusedSimpArgs false
set_option linter.unusedVariables false
open Go.Fw

set_option maxRecDepth 20000
set_option maxHeartbeats 4000000
attribute [local irreducible] ACalls AMoves


-- F muster/room.Check
def room_Check (s : State) : Int :=
  bif (((((decide (s.now < 0)) || (decide (s.now > 1000000))) || ((fleet_Check s.nodes) != 0)) || ((table_Check s.jobs) != 0)) || ((book_Check s.books) != 0)) then
    141
  else
    0

theorem room_Check_c (s : State) (hs0 : s.sz) : ∀ objs, AGives Tryz.prog 70 [State.a s] objs (I (room_Check s)) := by
  generalize hR : room_Check s = R
  refine AGives.any' (.cons (State.low _ _) .nil) lx (ACalls.of_cwp (kp 3 [28]) Tryz.func70 rfl rfl ?_)
  have hk0 := hs0
  obtain ⟨z3, z4, z5, z6, z7, z8, z9⟩ : s.nodes.length ≤ 4294967296 ∧ s.jobs.length ≤ 4294967296 ∧ (∀ y ∈ s.jobs, y.sz) ∧ s.resizes.length ≤ 4294967296 ∧ s.books.length ≤ 4294967296 ∧ s.ledger.length ≤ 4294967296 ∧ (∀ y ∈ s.ledger, y.sz) := hs0
  conv => whnf
  (first | apply u2 | apply u3 | apply u4 | apply ACalls.use); exact fleet_Check_c s.nodes szA _
  conv => whnf
  (first | apply u2 | apply u3 | apply u4 | apply ACalls.use); exact table_Check_c s.jobs szA _
  conv => whnf
  (first | apply u2 | apply u3 | apply u4 | apply ACalls.use); exact book_Check_c s.books szA _
  conv => whnf
  refine And.intro (fun h1 => ?_) (fun h2 => ?_)
  · conv => whnf
    obtain rfl := foll hR (ct h1 rfl)
    exact ret_seen lx sr
  · conv => whnf
    obtain rfl := foll hR (cf h2 rfl)
    exact ret_seen lx sr

-- F muster/table.Find
def table_Find (l : List Job) (id_ : Int) : Job × Bool :=
  bif (((table_Check l) != 0) || (!(table_known id_))) then
    (Job.zero, false)
  else
    bif (!(table_place l id_).2) then
      (Job.zero, false)
    else
      (((List.drop (Int.toNat ((table_place l id_).1)) (List.take (Int.toNat (w64 ((table_place l id_).1 + 1))) l)).getD 0 Job.zero), true)

theorem table_Find_c (l : List Job) (id_ : Int) (hs0 : l.length ≤ 4294967296 ∧ (∀ y ∈ l, y.sz)) : ∀ objs, AGives Tryz.prog 50 [jobL l, I id_] objs (AVal.tup [Job.a ((table_Find l id_).1), Bo ((table_Find l id_).2)]) := by
  generalize hR : table_Find l id_ = R
  refine AGives.any' (.cons lw (l1 .nil)) (Low.tup' (.cons (Job.low _ _) (l1 .nil))) (ACalls.of_cwp (kp 8 [15, 24]) Tryz.func50 rfl rfl ?_)
  have hk0 := hs0
  obtain ⟨z5, z6⟩ : l.length ≤ 4294967296 ∧ (∀ y ∈ l, y.sz) := hs0
  conv => whnf
  refine ACalls.use (table_Check_c l szA _) ?_
  conv => whnf
  (first | apply u2 | apply u3 | apply u4 | apply ACalls.use); exact table_known_c id_ _
  conv => whnf
  refine And.intro (fun h1 => ?_) (fun h2 => ?_)
  · conv => whnf
    obtain rfl := foll hR (ct h1 rfl)
    exact ret_seen (Low.tup' (.cons (Job.low _ _) (l1 .nil))) (Seen.tup (ev (Seen.agg (e1 (e1 (e1 (e1 (e1 (ev (seen_nil) (e1 (e1 (e1 (e1 (ev (seen_nil) (e1 (e1 (e1 (e1 (e1 (e1 (e1 (e1 (e1 .nil))))))))))))))))))))) (e1 .nil)))
  · conv => whnf
    refine ACalls.use (table_place_c l id_ szA _) ?_
    conv => whnf
    refine And.intro (fun h3 => ?_) (fun h4 => ?_)
    · conv => whnf
      obtain rfl := foll hR (cf h2 (ct h3 rfl))
      exact ret_seen (Low.tup' (.cons (Job.low _ _) (l1 .nil))) (Seen.tup (ev (Seen.agg (e1 (e1 (e1 (e1 (e1 (ev (seen_nil) (e1 (e1 (e1 (e1 (ev (seen_nil) (e1 (e1 (e1 (e1 (e1 (e1 (e1 (e1 (e1 .nil))))))))))))))))))))) (e1 .nil)))
    · conv => whnf
      refine And.intro (by first | exact fun hg => decide_eq_true (by first | (have hp := table_place_lt l id_ hk0.1 (by assumption); have pw : IntKind.i64.wrap ((table_place l id_).1 + 1) = (table_place l id_).1 + 1 := wr (by omega); simp only [Option.getD_some, pw, List.length_drop, List.length_take]; omega) | exact ckA) | exact gkA) ?_
      conv => whnf
      refine ACalls.use (mv [] (table_whole_o (List.drop (Int.toNat ((table_place l id_).1)) (List.take (Int.toNat (w64 ((table_place l id_).1 + 1))) l)) szA) .nil (dv (dn_as (as_cut l (Int.toNat ((table_place l id_).1)) (Int.toNat (w64 ((table_place l id_).1 + 1))) leA (by first | (have hp := table_place_lt l id_ hk0.1 (by assumption); have pw : IntKind.i64.wrap ((table_place l id_).1 + 1) = (table_place l id_).1 + 1 := wr (by omega); simp only [Option.getD_some, pw, List.length_drop, List.length_take]; omega) | exact ckA)) lw) .nil) (rO rr .nil) (rw_ 1 0 rfl)) ?_
      conv => whnf
      refine And.intro (by first | exact fun hg => decide_eq_true (by first | (have hp := table_place_lt l id_ hk0.1 (by assumption); have pw : IntKind.i64.wrap ((table_place l id_).1 + 1) = (table_place l id_).1 + 1 := wr (by omega); simp only [Option.getD_some, pw, List.length_drop, List.length_take]; omega) | exact ckA) | exact gkA) ?_
      conv => whnf
      refine ⟨_, evalOp_load rfl rfl rfl (elemI_at Job.zero 0 (by first | rfl | omega) (by first | (have hp := table_place_lt l id_ hk0.1 (by assumption); have pw : IntKind.i64.wrap ((table_place l id_).1 + 1) = (table_place l id_).1 + 1 := wr (by omega); simp only [Option.getD_some, pw, List.length_drop, List.length_take]; omega) | exact ckA)) rfl, ?_⟩
      conv => whnf
      obtain rfl := foll hR (cf h2 (cf h4 rfl))
      exact ret_seen (Low.tup' (.cons (Job.low _ _) (l1 .nil))) (Seen.tup (e1 (e1 .nil)))

end Go.Proofs.YtoionleakeemlaaGreatDoor
namespace Go.Proofs.YtoionleakeemlaaGreatDoor
set_option linter.unusedSimpArgs false
set_option linter.unusedVariables false
open Go.Fw

set_option maxRecDepth 20000
set_option maxHeartbeats 4000000
attribute [local irreducible] ACalls AMoves


-- F muster/plan.Check
def plan_Check (s : State) : Int :=
  bif (((room_Check s) != 0) || ((ledger_Check s.ledger) != 0)) then
    141
  else
    0

theorem plan_Check_c (s : State) (hs0 : s.sz) : ∀ objs, AGives Tryz.prog 34 [State.a s] objs (I (plan_Check s)) := by
  generalize hR : plan_Check s = R
  refine AGives.any' (.cons (State.low _ _) .nil) lx (ACalls.of_cwp (kp 3 [11]) Tryz.func34 rfl rfl ?_)
  have hk0 := hs0
  obtain ⟨z3, z4, z5, z6, z7, z8, z9⟩ : s.nodes.length ≤ 4294967296 ∧ s.jobs.length ≤ 4294967296 ∧ (∀ y ∈ s.jobs, y.sz) ∧ s.resizes.length ≤ 4294967296 ∧ s.books.length ≤ 4294967296 ∧ s.ledger.length ≤ 4294967296 ∧ (∀ y ∈ s.ledger, y.sz) := hs0
  conv => whnf
  refine ACalls.use (room_Check_c s szA _) ?_
  conv => whnf
  (first | apply u2 | apply u3 | apply u4 | apply ACalls.use); exact ledger_Check_c s.ledger szA _
  conv => whnf
  refine And.intro (fun h1 => ?_) (fun h2 => ?_)
  · conv => whnf
    obtain rfl := foll hR (ct h1 rfl)
    exact ret_seen lx sr
  · conv => whnf
    obtain rfl := foll hR (cf h2 rfl)
    exact ret_seen lx sr

theorem u3g {P : Program} {f : FuncId} {args : List AVal} {objs : Objs} {r : AVal} {g : Bool} {K : AVal → Objs → Prop} (h : g = true → ACalls P f args objs fun a b => a = r ∧ b = objs) (k : K r objs) : ∃ r' o', (g = true → ACalls P f args objs (fun a b => a = r' ∧ b = o')) ∧ (g = false → o' = objs) ∧ K r' o' := ⟨r, objs, h, fun _ => rfl, k⟩
theorem u4g {P : Program} {f : FuncId} {args : List AVal} {objs : Objs} {r : AVal} {g : Bool} {K : AVal → Prop} (h : g = true → AGives P f args objs r) (k : K r) : ∃ r', (g = true → AGives P f args objs r') ∧ K r' := ⟨r, h, k⟩

theorem setM_sz (k : Int) (v : Job) : ∀ (l : List (Int × Job)), (∀ y ∈ l, y.2.sz) → v.sz → ∀ y ∈ setM k v l, y.2.sz
  | [], _, hv, y, hy => by
    rw [setM, List.mem_singleton] at hy
    subst hy
    exact hv
  | p :: r, h, hv, y, hy => by
    rw [setM] at hy
    cases hk : (k == p.1) with
    | true =>
      rw [hk] at hy
      rcases List.mem_cons.1 hy with rfl | hy
      · exact hv
      · exact h y (List.mem_cons_of_mem _ hy)
    | false =>
      rw [hk] at hy
      rcases List.mem_cons.1 hy with rfl | hy
      · exact h _ (List.mem_cons_self ..)
      · exact setM_sz k v r (fun z hz => h z (List.mem_cons_of_mem _ hz)) hv y hy

theorem getM_sz (k : Int) : ∀ (l : List (Int × Job)), (∀ y ∈ l, y.2.sz) → ((getM k l).getD Job.zero).sz
  | [], _ => Job.szz _
  | p :: r, h => by
    rw [getM]
    cases (k == p.1) with
    | true => exact h p (List.mem_cons_self ..)
    | false => exact getM_sz k r fun z hz => h z (List.mem_cons_of_mem _ hz)


end Go.Proofs.YtoionleakeemlaaGreatDoor
namespace Go.Proofs.YtoionleakeemlaaGreatDoor
set_option linter.unusedSimpArgs false
set_option linter.unusedVariables false
open Go.Fw

set_option maxRecDepth 20000
set_option maxHeartbeats 4000000
attribute [local irreducible] ACalls AMoves


-- F muster/state.Check
def state_Check_g1  : List Job → Int → Nat → Int
  | [], lastJob, _ =>
    lastJob
  | x_ :: r, _, i =>
    state_Check_g1 r x_.id (i + 1)

def state_Check_g2  : List Book → Int → Nat → Int
  | [], lastBook, _ =>
    lastBook
  | x_1 :: r, _, i1 =>
    state_Check_g2 r x_1.id (i1 + 1)

def state_Check_g3  : List Job → Nat → List (Int × Job) → (List (Int × Job))
  | [], _, c =>
    c
  | x_2 :: r, i2, c =>
    bif (x_2.state == 2) then
      state_Check_g3 r (i2 + 1) (setM x_2.id x_2 c)
    else
      state_Check_g3 r (i2 + 1) c

def state_Check_g4 (s : State) (lastJob : Int) (lastBook : Int) (c : List (Int × Job)) : List Resize → Nat → List (Int × Resize) → Int
  | [], _, c2 =>
    bif ((((!true) || (!(state_next s.nextJob lastJob))) || (!(state_next s.nextBook lastBook))) || (!(state_nodes s c c2))) then
      141
    else
      bif (c.all (fun (en : Int × Job) => (bif ((alloc_Held s.nodes en.1) != en.2.nodes) then false else true))) then
        0
      else
        141
  | x_3 :: r, i3, c2 =>
    bif (((!(getM x_3.job c).isSome) || ((decide ((i3 : Int) > 0)) && (decide ((s.resizes.getD (Int.toNat (w64 ((i3 : Int) - 1))) Resize.zero).job ≥ x_3.job)))) || (!(state_resize s x_3 ((getM x_3.job c).getD Job.zero)))) then
      141
    else
      state_Check_g4 s lastJob lastBook c r (i3 + 1) (setM x_3.job x_3 c2)

def state_Check_k3 (s : State) (lastJob : Int) (lastBook : Int) (c : List (Int × Job)) : Int :=
  state_Check_g4 s lastJob lastBook c s.resizes 0 []

def state_Check_k2 (s : State) (lastJob : Int) (lastBook : Int) : Int :=
  state_Check_k3 s lastJob lastBook (state_Check_g3 s.jobs 0 [])

def state_Check_k1 (s : State) (lastJob : Int) : Int :=
  state_Check_k2 s lastJob (state_Check_g2 s.books 0 0)

def state_Check (s : State) : Int :=
  bif ((plan_Check s) != 0) then
    141
  else
    state_Check_k1 s (state_Check_g1 s.jobs 0 0)

theorem state_Check_c (s : State) (hs0 : s.sz) : ∀ objs, AGives Tryz.prog 13 [State.a s] objs (I (state_Check s)) := by
  generalize hR : state_Check s = R
  refine AGives.any' (.cons (State.low _ _) .nil) lx (ACalls.of_cwp (kp 14 [16, 18, 19, 20, 21, 28, 29, 30, 31, 68, 70, 72, 82]) Tryz.func13 rfl rfl ?_)
  have hk0 := hs0
  obtain ⟨z29, z30, z31, z32, z33, z34, z35⟩ : s.nodes.length ≤ 4294967296 ∧ s.jobs.length ≤ 4294967296 ∧ (∀ y ∈ s.jobs, y.sz) ∧ s.resizes.length ≤ 4294967296 ∧ s.books.length ≤ 4294967296 ∧ s.ledger.length ≤ 4294967296 ∧ (∀ y ∈ s.ledger, y.sz) := hs0
  conv => whnf
  refine ACalls.use (plan_Check_c s (by first | (exact getM_sz _ _ (by assumption)) | exact szA) _) ?_
  conv => whnf
  refine And.intro (fun h1 => ?_) (fun h2 => ?_)
  · conv => whnf
    obtain rfl := foll hR (ct h1 rfl)
    exact ret_seen lx sr
  · conv => whnf
    refine loop_start2 (fun (lastJob : Int) (i : Nat) => state_Check_k1 s (state_Check_g1 (List.drop i s.jobs) lastJob i) = R ∧ i ≤ s.jobs.length) (fun lastJob i => s.jobs.length - i) (fun lastJob i => [(1, AVal.ptr 0 0 8 0 0), (2, I 0), (3, I lastJob), (4, I 0), (18, jobL s.jobs), (19, I (s.jobs.length : Int)), (20, I (i : Int))]) (fun lastJob i => [(0, AObj.row 28 8 [[I s.now, nodeL s.nodes, jobL s.jobs, resizeL s.resizes, bookL s.books, usageL s.ledger, I s.nextJob, I s.nextBook]])]) 0 0 (wk [0] (tO rfl (ts State.lo) .nil) (sv (turn_ptr 0 rfl rfl) (s1 (s1 (s1 (sl lw (s1 (s1 .nil)))))))) ⟨foll hR (cf h2 rfl), by exact omA⟩ ?_
    clear hR
    rintro lastJob i ⟨hR, hj⟩
    try dsimp only at hR hj
    conv => whnf
    refine And.intro (fun h3 => ?_) (fun h4 => ?_)
    · have hlt : i < s.jobs.length := by have := of_decide_eq_true h3; omega
      rw [drop_getD Job.zero hlt] at hR
      have hxz : (s.jobs.getD i Job.zero).sz := getD_sz (by first | assumption | grind) (Job.szz _)
      have hkz := hxz
      obtain ⟨z5, z6, z7, z8, z9⟩ : ((s.jobs.getD i Job.zero).name).size ≤ 4294967296 ∧ ((s.jobs.getD i Job.zero).user).size ≤ 4294967296 ∧ ((s.jobs.getD i Job.zero).account).size ≤ 4294967296 ∧ ((((s.jobs.getD i Job.zero).shape).alts).length ≤ 4294967296) ∧ ((s.jobs.getD i Job.zero).after).length ≤ 4294967296 := hxz
      conv => whnf
      refine And.intro gkA ?_
      conv => whnf
      exact loop_next2 ((s.jobs.getD i Job.zero).id) (i + 1) (wk [0] (tO rfl (ts State.lo) .nil) (sv (turn_ptr 0 rfl rfl) (s1 (s1 (s1 (sl lw (s1 (sv (turn_eq (I_eq (wr omA)) lx) .nil)))))))) omA ⟨foll hR (congrArg (fun p : Int => state_Check_k1 s p) rfl), by exact omA⟩
    · rw [drop_none (l := s.jobs) (j := i) (by have := of_decide_eq_false h4; omega)] at hR
      conv => whnf
      replace hR : state_Check_k1 s lastJob = R := fo2 (fun p : Int => state_Check_k1 s p) (lastJob) hR rfl
      refine loop_start2 (fun (lastBook : Int) (i1 : Nat) => state_Check_k2 s lastJob (state_Check_g2 (List.drop i1 s.books) lastBook i1) = R ∧ i1 ≤ s.books.length) (fun lastBook i1 => s.books.length - i1) (fun lastBook i1 => [(1, AVal.ptr 0 0 8 0 0), (2, I 0), (3, I lastJob), (4, I lastBook), (28, bookL s.books), (29, I (s.books.length : Int)), (30, I (i1 : Int))]) (fun lastBook i1 => [(0, AObj.row 28 8 [[I s.now, nodeL s.nodes, jobL s.jobs, resizeL s.resizes, bookL s.books, usageL s.ledger, I s.nextJob, I s.nextBook]])]) 0 0 (wk [0] (tO rfl (ts State.lo) .nil) (sv (turn_ptr 0 rfl rfl) (s1 (s1 (s1 (sl lw (s1 (s1 .nil)))))))) ⟨foll hR rfl, by exact omA⟩ ?_
      clear hR
      rintro lastBook i1 ⟨hR, hj⟩
      try dsimp only at hR hj
      conv => whnf
      refine And.intro (fun h10 => ?_) (fun h11 => ?_)
      · have hlt : i1 < s.books.length := by have := of_decide_eq_true h10; omega
        rw [drop_getD Book.zero hlt] at hR
        conv => whnf
        refine And.intro gkA ?_
        conv => whnf
        exact loop_next2 ((s.books.getD i1 Book.zero).id) (i1 + 1) (wk [0] (tO rfl (ts State.lo) .nil) (sv (turn_ptr 0 rfl rfl) (s1 (s1 (s1 (sl lw (s1 (sv (turn_eq (I_eq (wr omA)) lx) .nil)))))))) omA ⟨foll hR (congrArg (fun p : Int => state_Check_k2 s lastJob p) rfl), by exact omA⟩
      · rw [drop_none (l := s.books) (j := i1) (by have := of_decide_eq_false h11; omega)] at hR
        conv => whnf
        replace hR : state_Check_k2 s lastJob lastBook = R := fo2 (fun p : Int => state_Check_k2 s lastJob p) (lastBook) hR rfl
        refine ACalls.of_cwp (fun _ => true) Tryz.func35 rfl rfl ?_
        conv => whnf
        refine loop_start2 (fun (i2 : Nat) (c : List (Int × Job)) => state_Check_k3 s lastJob lastBook (state_Check_g3 (List.drop i2 s.jobs) i2 c) = R ∧ i2 ≤ s.jobs.length ∧ ∀ y ∈ c, y.2.sz) (fun i2 c => s.jobs.length - i2) (fun i2 c => [(2, AVal.lit (.map none)), (3, AVal.map 1), (7, jobL s.jobs), (8, I (s.jobs.length : Int)), (9, I (i2 : Int))]) (fun i2 c => [(0, AObj.row 28 8 [[I s.now, nodeL s.nodes, jobL s.jobs, resizeL s.resizes, bookL s.books, usageL s.ledger, I s.nextJob, I s.nextBook]]), (0, AObj.other (.map (mapEs ik Job.a 0 c) c.length))]) 0 [] (wk [0, 1] (tO rfl (ts State.lo) (tO rfl (turn_mapO _ rfl rfl (fun _ => Job.low _ _)) .nil)) (s1 (sv (turn_map 1 rfl rfl) (sl lw (s1 (s1 .nil)))))) ⟨foll hR rfl, by exact omA, by first | (exact setM_sz _ _ _ (by assumption) (by assumption)) | first | (exact fun y hy => absurd hy List.not_mem_nil) | first | (assumption) | exact exA⟩ ?_
        clear hR
        rintro i2 c ⟨hR, hj, hx⟩
        try dsimp only at hR hj hx
        conv => whnf
        refine And.intro (fun h12 => ?_) (fun h13 => ?_)
        · have hlt : i2 < s.jobs.length := by have := of_decide_eq_true h12; omega
          rw [drop_getD Job.zero hlt] at hR
          have hxz : (s.jobs.getD i2 Job.zero).sz := getD_sz (by first | assumption | grind) (Job.szz _)
          have hkz := hxz
          obtain ⟨z14, z15, z16, z17, z18⟩ : ((s.jobs.getD i2 Job.zero).name).size ≤ 4294967296 ∧ ((s.jobs.getD i2 Job.zero).user).size ≤ 4294967296 ∧ ((s.jobs.getD i2 Job.zero).account).size ≤ 4294967296 ∧ ((((s.jobs.getD i2 Job.zero).shape).alts).length ≤ 4294967296) ∧ ((s.jobs.getD i2 Job.zero).after).length ≤ 4294967296 := hxz
          conv => whnf
          refine And.intro gkA ?_
          conv => whnf
          refine And.intro (fun h19 => ?_) (fun h20 => ?_)
          · conv => whnf
            refine ⟨_, _, keys_int rfl _ _, putM_map (ek := ik) ((s.jobs.getD i2 Job.zero).id) (s.jobs.getD i2 Job.zero) c rfl rfl, ?_⟩
            conv => whnf
            exact loop_next2 (i2 + 1) (setM (s.jobs.getD i2 Job.zero).id (s.jobs.getD i2 Job.zero) c) (wk [0, 1] (tO rfl (ts State.lo) (tO rfl (turn_mapO _ rfl rfl (fun _ => Job.low _ _)) .nil)) (s1 (sv (turn_map 1 rfl rfl) (sl lw (s1 (sv (turn_eq (I_eq (wr omA)) lx) .nil)))))) omA ⟨foll hR (congrArg (fun p : (List (Int × Job)) => state_Check_k3 s lastJob lastBook p) (ct h19 rfl)), by exact omA, by first | (exact setM_sz _ _ _ (by assumption) (by assumption)) | first | (exact fun y hy => absurd hy List.not_mem_nil) | first | (assumption) | exact exA⟩
          · conv => whnf
            exact loop_next2 (i2 + 1) c (wk [0, 1] (tO rfl (ts State.lo) (tO rfl (turn_mapO _ rfl rfl (fun _ => Job.low _ _)) .nil)) (s1 (sv (turn_map 1 rfl rfl) (sl lw (s1 (sv (turn_eq (I_eq (wr omA)) lx) .nil)))))) omA ⟨foll hR (congrArg (fun p : (List (Int × Job)) => state_Check_k3 s lastJob lastBook p) (cf h20 rfl)), by exact omA, by first | (exact setM_sz _ _ _ (by assumption) (by assumption)) | first | (exact fun y hy => absurd hy List.not_mem_nil) | first | (assumption) | exact exA⟩
        · rw [drop_none (l := s.jobs) (j := i2) (by have := of_decide_eq_false h13; omega)] at hR
          conv => whnf
          replace hR : state_Check_k3 s lastJob lastBook c = R := fo2 (fun p : (List (Int × Job)) => state_Check_k3 s lastJob lastBook p) (c) hR rfl
          refine ⟨_, _, Told.refl, ?_⟩
          conv => whnf
          refine ACalls.of_cwp (fun _ => true) Tryz.func36 rfl rfl ?_
          conv => whnf
          refine loop_start2 (fun (i3 : Nat) (c2 : List (Int × Resize)) => state_Check_g4 s lastJob lastBook c (List.drop i3 s.resizes) i3 c2 = R ∧ i3 ≤ s.resizes.length) (fun i3 c2 => s.resizes.length - i3) (fun i3 c2 => [(1, AVal.map 1), (2, AVal.ptr 2 0 8 0 0), (4, AVal.lit (.map none)), (5, Bo false), (6, AVal.map 3), (13, resizeL s.resizes), (14, I (s.resizes.length : Int)), (15, I (i3 : Int))]) (fun i3 c2 => [(0, AObj.row 28 8 [[I s.now, nodeL s.nodes, jobL s.jobs, resizeL s.resizes, bookL s.books, usageL s.ledger, I s.nextJob, I s.nextBook]]), (0, AObj.other (.map (mapEs ik Job.a 0 c) c.length)), (0, AObj.row 28 8 [[I s.now, nodeL s.nodes, jobL s.jobs, resizeL s.resizes, bookL s.books, usageL s.ledger, I s.nextJob, I s.nextBook]]), (0, AObj.other (.map (mapEs ik Resize.a 0 c2) c2.length))]) 0 [] (wk [0, 1, 2, 3] (tO rfl (ts State.lo) (tO rfl (turn_mapO _ rfl rfl (fun _ => Job.low _ _)) (tO rfl (ts State.lo) (tO rfl (turn_mapO _ rfl rfl (fun _ => Resize.low _ _)) .nil)))) (sv (turn_map 1 rfl rfl) (sv (turn_ptr 2 rfl rfl) (s1 (s1 (sv (turn_map 3 rfl rfl) (sl lw (s1 (s1 .nil))))))))) ⟨foll hR rfl, by exact omA⟩ ?_
          clear hR
          rintro i3 c2 ⟨hR, hj⟩
          try dsimp only at hR hj
          conv => whnf
          refine And.intro (fun h21 => ?_) (fun h22 => ?_)
          · have hlt : i3 < s.resizes.length := by have := of_decide_eq_true h21; omega
            rw [drop_getD Resize.zero hlt] at hR
            conv => whnf
            refine And.intro gkA ?_
            conv => whnf
            first | refine ⟨_, _, keys_int rfl _ _, lookP_map (ek := ik) ((s.resizes.getD i3 Resize.zero).job) c Job.zero (as_agg (a1 (a1 (a1 (a1 (a1 (av (as_nil) (a1 (a1 (a1 (a1 (av (as_nil) (a1 (a1 (a1 (a1 (a1 (a1 (a1 (a1 (a1 .nil))))))))))))))))))))), ?_⟩ | refine ⟨_, fun _ => ⟨_, _, keys_int rfl _ _, lookP_map (ek := ik) ((s.resizes.getD i3 Resize.zero).job) c Job.zero (as_agg (a1 (a1 (a1 (a1 (a1 (av (as_nil) (a1 (a1 (a1 (a1 (av (as_nil) (a1 (a1 (a1 (a1 (a1 (a1 (a1 (a1 (a1 .nil))))))))))))))))))))), rfl, rfl⟩, ?_⟩ | refine ⟨_, rfl, ⟨_, _, keys_int rfl _ _, lookP_map (ek := ik) ((s.resizes.getD i3 Resize.zero).job) c Job.zero (as_agg (a1 (a1 (a1 (a1 (a1 (av (as_nil) (a1 (a1 (a1 (a1 (av (as_nil) (a1 (a1 (a1 (a1 (a1 (a1 (a1 (a1 (a1 .nil))))))))))))))))))))), Sub.refl _, rfl⟩, ?_⟩
            conv => whnf
            refine dchk (by kernel_rfl) ?_
            conv => whnf
            refine And.intro gkA ?_
            conv => whnf
            (first | apply u2 | apply u3 | apply u4 | apply ACalls.use); exact state_resize_c s (s.resizes.getD i3 Resize.zero) ((getM (s.resizes.getD i3 Resize.zero).job c).getD Job.zero) (by first | (exact getM_sz _ _ (by assumption)) | exact szA) (by first | (exact getM_sz _ _ (by assumption)) | exact szA) _
            conv => whnf
            repeat ((first | refine And.intro rfl ?_ | refine And.intro (fun _ => rfl) ?_ | refine And.intro (fun _ => state_resize_c s (s.resizes.getD i3 Resize.zero) ((getM (s.resizes.getD i3 Resize.zero).job c).getD Job.zero) (by first | (exact getM_sz _ _ (by assumption)) | exact szA) (by first | (exact getM_sz _ _ (by assumption)) | exact szA) _) ?_); conv => whnf)
            refine And.intro (fun h23 => ?_) (fun h24 => ?_)
            · conv => whnf
              refine ⟨_, _, Told.refl, ?_⟩
              conv => whnf
              first | refine ⟨Bo false, _, fun h => absurd h (by decide), fun _ => rfl, ?_⟩ | refine ⟨Bo false, fun h => absurd h (by decide), ?_⟩
              conv => whnf
              first | refine ⟨Bo false, _, fun h => absurd h (by decide), fun _ => rfl, ?_⟩ | refine ⟨Bo false, fun h => absurd h (by decide), ?_⟩
              conv => whnf
              first | refine ⟨Bo false, _, fun h => absurd h (by decide), fun _ => rfl, ?_⟩ | refine ⟨Bo false, fun h => absurd h (by decide), ?_⟩
              conv => whnf
              refine And.intro (fun _ => ?_) (fun h => nomatch h)
              conv => whnf
              obtain rfl := foll hR (ct h23 rfl)
              exact ret_seen lx sr
            · conv => whnf
              refine ⟨_, _, keys_int rfl _ _, putM_map (ek := ik) ((s.resizes.getD i3 Resize.zero).job) (s.resizes.getD i3 Resize.zero) c2 rfl rfl, ?_⟩
              conv => whnf
              exact loop_next2 (i3 + 1) (setM (s.resizes.getD i3 Resize.zero).job (s.resizes.getD i3 Resize.zero) c2) (wk [0, 1, 2, 3] (tO rfl (ts State.lo) (tO rfl (turn_mapO _ rfl rfl (fun _ => Job.low _ _)) (tO rfl (ts State.lo) (tO rfl (turn_mapO _ rfl rfl (fun _ => Resize.low _ _)) .nil)))) (sv (turn_map 1 rfl rfl) (sv (turn_ptr 2 rfl rfl) (s1 (s1 (sv (turn_map 3 rfl rfl) (sl lw (s1 (sv (turn_eq (I_eq (wr omA)) lx) .nil))))))))) omA ⟨foll hR (cf h24 rfl), by exact omA⟩
          · rw [drop_none (l := s.resizes) (j := i3) (by have := of_decide_eq_false h22; omega)] at hR
            conv => whnf
            refine ⟨_, _, Told.refl, ?_⟩
            conv => whnf
            (first | apply u2 | apply u3 | apply u4 | apply ACalls.use); exact state_next_c s.nextJob lastJob _
            conv => whnf
            (first | apply u2 | apply u3 | apply u4 | apply ACalls.use); exact state_next_c s.nextBook lastBook _
            conv => whnf
            (first | apply u2 | apply u3 | apply u4 | apply ACalls.use); exact mv [1, 3] (state_nodes_c s c c2 (by first | (exact getM_sz _ _ (by assumption)) | exact szA)) (dO (.same _ (low_mapEs fun _ => Job.low _ _)) (dO (.same _ (low_mapEs fun _ => Resize.low _ _)) .nil)) (dv (dn_low (Low.agg' (State.lo))) (dv (dn_ren (Ren.map _ _ rfl)) (dv (dn_ren (Ren.map _ _ rfl)) .nil))) (rO (RenO.same _ (low_mapEs fun _ => Job.low _ _)) (rO (RenO.same _ (low_mapEs fun _ => Resize.low _ _)) .nil)) rx
            conv => whnf
            refine And.intro (fun h25 => ?_) (fun h26 => ?_)
            · conv => whnf
              obtain rfl := foll hR (ct h25 rfl)
              exact ret_seen lx sr
            · conv => whnf
              refine loop_start (X := Array Nat) (fun x => (bif (c.all (fun (en : Int × Job) => (bif ((alloc_Held s.nodes en.1) != en.2.nodes) then false else true))) then 0 else 141) = R ∧ ∀ j, j < c.length → x.contains j = true → (fun (en : Int × Job) => (bif ((alloc_Held s.nodes en.1) != en.2.nodes) then false else true)) (c.getD j ((0, Job.zero) : Int × Job)) = true) (fun x => unseen c.length x) (fun seen => [(1, AVal.ptr 0 0 8 0 0), (2, I 0), (70, AVal.ptr 2 0 1 0 0)]) (fun seen => [(0, AObj.row 28 8 [[I s.now, nodeL s.nodes, jobL s.jobs, resizeL s.resizes, bookL s.books, usageL s.ledger, I s.nextJob, I s.nextBook]]), (0, AObj.other (.map (mapEs ik Job.a 0 c) c.length)), (0, AObj.other (.mapIter 1 c.length seen c.length))]) #[] (wk [0, 1, 4] (tO rfl (ts State.lo) (tO rfl (turn_mapO _ rfl rfl (fun _ => Job.low _ _)) (tO rfl (turn_miter 1 rfl rfl) .nil))) (sv (turn_ptr 0 rfl rfl) (s1 (sv (turn_ptr 2 rfl rfl) .nil)))) ⟨foll hR (cf h26 rfl), fun j hj hc => absurd hc (by simp)⟩ ?_
              clear hR
              rintro seen ⟨hR, hx⟩
              conv => whnf
              refine map_round ((0, Job.zero) : Int × Job) (fun j hj hns => ?_) (fun hall => ?_)
              · conv => whnf
                refine And.intro (fun _ => ?_) (fun h => nomatch h)
                conv => whnf
                refine ⟨_, entry_map ((0, Job.zero) : Int × Job) rfl rfl hj, ?_⟩
                conv => whnf
                refine dchk (by kernel_rfl) ?_
                conv => whnf
                (first | apply u2 | apply u3 | apply u4 | apply ACalls.use); exact alloc_Held_c s.nodes ((c.getD j ((0, Job.zero) : Int × Job)).1) (by first | (exact getM_sz _ _ (by assumption)) | exact szA) _
                conv => whnf
                repeat ((first | refine And.intro rfl ?_ | refine And.intro (fun _ => rfl) ?_ | refine And.intro (fun _ => alloc_Held_c s.nodes ((c.getD j ((0, Job.zero) : Int × Job)).1) (by first | (exact getM_sz _ _ (by assumption)) | exact szA) _) ?_); conv => whnf)
                refine And.intro (fun h27 => ?_) (fun h28 => ?_)
                · conv => whnf
                  obtain rfl := foll hR ((cond_f (all_f (p := (fun (en : Int × Job) => (bif ((alloc_Held s.nodes en.1) != en.2.nodes) then false else true))) hj (ct h27 rfl))).trans rfl)
                  exact ret_seen lx sr
                · conv => whnf
                  exact loop_next (seen.push j) (unseen_push hj hns) (wk [0, 1, 2] (tO rfl (ts State.lo) (tO rfl (turn_mapO _ rfl rfl (fun _ => Job.low _ _)) (tO rfl (turn_miter 1 rfl rfl) .nil))) (sv (turn_ptr 0 rfl rfl) (s1 (sv (turn_ptr 2 rfl rfl) .nil)))) ⟨hR, seen_push (p := (fun (en : Int × Job) => (bif ((alloc_Held s.nodes en.1) != en.2.nodes) then false else true))) hx (cf h28 rfl)⟩
              · conv => whnf
                refine And.intro (fun h => nomatch h) (fun _ => ?_)
                conv => whnf
                obtain rfl := foll hR (ct (all_t hall hx) rfl)
                exact ret_seen lx sr

theorem slices_IndexFunc_Resize_lt1 (f : Resize → Bool) : ∀ (l : List Resize) (i : Nat), slices_IndexFunc_Resize_g1 f l i < 0 ∨ ((i : Int) ≤ slices_IndexFunc_Resize_g1 f l i ∧ slices_IndexFunc_Resize_g1 f l i < (i : Int) + (l.length : Int))
  | [], i => by left; rw [slices_IndexFunc_Resize_g1]; decide
  | x :: r, i => by
    rw [slices_IndexFunc_Resize_g1]
    cases (f x) with
    | true => right; simp only [cond_true, List.length_cons]; omega
    | false =>
      have := slices_IndexFunc_Resize_lt1 f r (i + 1)
      simp only [cond_false, List.length_cons]
      omega

theorem slices_IndexFunc_Resize_lt (l : List Resize) (f : Resize → Bool) : slices_IndexFunc_Resize l f < 0 ∨ (0 ≤ slices_IndexFunc_Resize l f ∧ slices_IndexFunc_Resize l f < (l.length : Int)) := by
  have := slices_IndexFunc_Resize_lt1 f l 0
  unfold slices_IndexFunc_Resize
  omega


end Go.Proofs.YtoionleakeemlaaGreatDoor
namespace Go.Proofs.YtoionleakeemlaaGreatDoor
set_option linter.unusedSimpArgs false
set_option linter.unusedVariables false
open Go.Fw

set_option maxRecDepth 20000
set_option maxHeartbeats 4000000
attribute [local irreducible] ACalls AMoves


-- F muster/state.Resizing
def state_Resizing (s : State) (id_ : Int) : Resize × Bool :=
  bif ((decide ((slices_IndexFunc_Resize s.resizes (fun (y : Resize) => (y.job == id_))) < 0)) || ((state_Check s) != 0)) then
    (Resize.zero, false)
  else
    ((s.resizes.getD (Int.toNat (slices_IndexFunc_Resize s.resizes (fun (y : Resize) => (y.job == id_)))) Resize.zero), true)

theorem state_Resizing_c (s : State) (id_ : Int) (hs0 : s.sz) : ∀ objs, AGives Tryz.prog 11 [State.a s, I id_] objs (AVal.tup [Resize.a ((state_Resizing s id_).1), Bo ((state_Resizing s id_).2)]) := by
  generalize hR : state_Resizing s id_ = R
  refine AGives.any' (.cons (State.low _ _) (l1 .nil)) (Low.tup' (.cons (Resize.low _ _) (l1 .nil))) (ACalls.of_cwp (kp 7 [17]) Tryz.func11 rfl rfl ?_)
  have hk0 := hs0
  obtain ⟨z7, z8, z9, z10, z11, z12, z13⟩ : s.nodes.length ≤ 4294967296 ∧ s.jobs.length ≤ 4294967296 ∧ (∀ y ∈ s.jobs, y.sz) ∧ s.resizes.length ≤ 4294967296 ∧ s.books.length ≤ 4294967296 ∧ s.ledger.length ≤ 4294967296 ∧ (∀ y ∈ s.ledger, y.sz) := hs0
  conv => whnf
  have cl1 : ∀ (y1 : Resize), AMoves Tryz.prog 32 [Resize.a y1, AVal.ptr 0 0 1 0 0] [(0, AObj.row 3 1 [[I id_]])] 1 (Bo ((fun (y : Resize) => (y.job == id_)) y1)) [(0, AObj.row 3 1 [[I id_]])] := by
    intro y1
    have hR : (fun (y : Resize) => (y.job == id_)) y1 = (fun (y : Resize) => (y.job == id_)) y1 := rfl
    refine AMoves.of_cwp (kp 4 []) Tryz.func32 rfl rfl rfl ?_
    conv => whnf
    refine ret_moves (fun r : Bool => Bo r) (fun _ => [(0, AObj.row 3 1 [[I id_]])]) (leaf := (y1.job == id_)) (foll hR rfl) ?_
    exact tt [0] (tO rfl (ts (l1 LowL.nil)) .nil) t1
  have hof1 : AMoves Tryz.prog 31 [resizeL s.resizes, AVal.fn (.func 32) [] [AVal.ptr 0 0 1 0 0]] [(0, AObj.row 3 1 [[I id_]])] 1 (I (slices_IndexFunc_Resize s.resizes (fun (y : Resize) => (y.job == id_)))) [(0, AObj.row 3 1 [[I id_]])] := by
    have hR : slices_IndexFunc_Resize s.resizes (fun (y : Resize) => (y.job == id_)) = slices_IndexFunc_Resize s.resizes (fun (y : Resize) => (y.job == id_)) := rfl
    refine AMoves.of_cwp (kp 6 [7, 8, 9, 16]) Tryz.func31 rfl rfl rfl ?_
    conv => whnf
    refine loop_start1 (fun (i : Nat) => slices_IndexFunc_Resize_g1 (fun (y : Resize) => (y.job == id_)) (List.drop i s.resizes) i = slices_IndexFunc_Resize s.resizes (fun (y : Resize) => (y.job == id_)) ∧ i ≤ s.resizes.length) (fun i => s.resizes.length - i) (fun i => [(0, resizeL s.resizes), (1, AVal.fn (.func 32) [] [AVal.ptr 0 0 1 0 0]), (4, I 0), (7, I (s.resizes.length : Int)), (8, I (i : Int))]) (fun i => [(0, AObj.row 3 1 [[I id_]])]) 0 (wk [0] (tO rfl (ts (l1 LowL.nil)) .nil) (sl lw (sv (turn_fn .nil (cv (turn_ptr 0 rfl rfl) .nil)) (s1 (s1 (s1 .nil)))))) ⟨foll hR rfl, by exact omA⟩ ?_
    clear hR
    rintro i ⟨hR, hj⟩
    try dsimp only at hR hj
    conv => whnf
    refine And.intro (fun h1 => ?_) (fun h2 => ?_)
    · have hlt : i < s.resizes.length := by have := of_decide_eq_true h1; omega
      rw [drop_getD Resize.zero hlt] at hR
      conv => whnf
      refine And.intro gkA ?_
      conv => whnf
      refine ACalls.use (mv [0] (cl1 (s.resizes.getD i Resize.zero)) (dO (ds (l1 LowL.nil)) .nil) (dl (Resize.low _ _) (dp .nil)) (rO (re (l1 LowL.nil)) .nil) rx) ?_
      conv => whnf
      refine And.intro (fun h3 => ?_) (fun h4 => ?_)
      · conv => whnf
        refine ret_moves (fun r : Int => I r) (fun r : Int => [(0, AObj.row 3 1 [[I id_]])]) (leaf := (i : Int)) (foll hR (ct h3 rfl)) ?_
        exact tt [0] (tO rfl (ts (l1 LowL.nil)) .nil) t1
      · conv => whnf
        exact loop_next1 (i + 1) (wk [0] (tO rfl (ts (l1 LowL.nil)) .nil) (sl lw (sv (turn_fn .nil (cv (turn_ptr 0 rfl rfl) .nil)) (s1 (s1 (sv (turn_eq (I_eq (wr omA)) lx) .nil)))))) omA ⟨foll hR (cf h4 rfl), by exact omA⟩
    · rw [drop_none (l := s.resizes) (j := i) (by have := of_decide_eq_false h2; omega)] at hR
      conv => whnf
      refine ret_moves (fun r : Int => I r) (fun r : Int => [(0, AObj.row 3 1 [[I id_]])]) (leaf := (-1)) (foll hR rfl) ?_
      exact tt [0] (tO rfl (ts (l1 LowL.nil)) .nil) t1
  refine ACalls.use (mv [1] (hof1) (dO (ds (l1 LowL.nil)) .nil) (dl lw (dv (dn_fn .nil (dp .nil)) .nil)) (rO (re (l1 LowL.nil)) .nil) rx) ?_
  conv => whnf
  (first | apply u2 | apply u3 | apply u4 | apply ACalls.use); exact state_Check_c s szA _
  conv => whnf
  refine And.intro (fun h5 => ?_) (fun h6 => ?_)
  · conv => whnf
    obtain rfl := foll hR (ct h5 rfl)
    exact ret_seen (Low.tup' (.cons (Resize.low _ _) (l1 .nil))) (Seen.tup (e1 (e1 .nil)))
  · conv => whnf
    refine And.intro (by first | exact fun hg => decide_eq_true (by first | (have hp := slices_IndexFunc_Resize_lt s.resizes (fun (y : Resize) => (y.job == id_)); simp only [Bool.or_eq_false_iff, decide_eq_false_iff_not] at *; omega) | exact ckA) | exact gkA) ?_
    conv => whnf
    obtain rfl := foll hR (cf h6 rfl)
    exact ret_seen (Low.tup' (.cons (Resize.low _ _) (l1 .nil))) (Seen.tup (e1 (e1 .nil)))

theorem law25_grown_sz : law25_grown.sz := by
  refine ⟨by decide, by decide, fun y hy => ?_, by decide, by decide, by decide, fun y hy => absurd hy List.not_mem_nil⟩
  rcases List.mem_cons.1 hy with rfl | hy
  · exact ⟨by decide, by decide, by decide, (by decide : (0 : Nat) ≤ 4294967296), by decide⟩
  · exact absurd hy List.not_mem_nil

theorem state_New4_sz : (state_New 4).1.sz := ⟨by decide +kernel, by decide +kernel, fun y hy => absurd (show y ∈ [] from hy) (by simp), by decide +kernel, by decide +kernel, by decide +kernel, fun y hy => absurd (show y ∈ [] from hy) (by simp)⟩


-- F muster/state.Config
def state_Config (s : State) (id_ : Int) : Int :=
  bif (((!(table_Find s.jobs id_).2) || ((table_Find s.jobs id_).1.state != 2)) || ((state_Check s) != 0)) then
    0
  else
    (table_Find s.jobs id_).1.nodes

theorem state_Config_c (s : State) (id_ : Int) (hs0 : s.sz) : ∀ objs, AGives Tryz.prog 16 [State.a s, I id_] objs (U (state_Config s id_)) := by
  generalize hR : state_Config s id_ = R
  refine AGives.any' (.cons (State.low _ _) (l1 .nil)) lx (ACalls.of_cwp (kp 7 [25]) Tryz.func16 rfl rfl ?_)
  have hk0 := hs0
  obtain ⟨z3, z4, z5, z6, z7, z8, z9⟩ : s.nodes.length ≤ 4294967296 ∧ s.jobs.length ≤ 4294967296 ∧ (∀ y ∈ s.jobs, y.sz) ∧ s.resizes.length ≤ 4294967296 ∧ s.books.length ≤ 4294967296 ∧ s.ledger.length ≤ 4294967296 ∧ (∀ y ∈ s.ledger, y.sz) := hs0
  conv => whnf
  refine ACalls.use (table_Find_c s.jobs id_ szA _) ?_
  conv => whnf
  (first | apply u2 | apply u3 | apply u4 | apply ACalls.use); exact state_Check_c s szA _
  conv => whnf
  refine And.intro (fun h1 => ?_) (fun h2 => ?_)
  · conv => whnf
    obtain rfl := foll hR (ct h1 rfl)
    exact ret_seen lx sr
  · conv => whnf
    obtain rfl := foll hR (cf h2 rfl)
    exact ret_seen lx sr

end Go.Proofs.YtoionleakeemlaaGreatDoor
namespace Go.Proofs.YtoionleakeemlaaGreatDoor
set_option linter.unusedSimpArgs false
set_option linter.unusedVariables false
open Go.Fw

set_option maxRecDepth 20000
set_option maxHeartbeats 4000000
attribute [local irreducible] ACalls AMoves


-- F muster/musterlaw25.awake
def law25_awake  : Bool :=
  ((((((((((((state_New 4).2 == 0) && ((((state_New 4).1.nodes).length : Int) == 4)) && ((state_New 4).1.nextJob == 1)) && ((state_Check ((state_New 4).1)) == 0)) && ((state_Check law25_grown) == 0)) && ((state_Check { law25_grown with jobs := (law25_grown.jobs.set 0 { (law25_grown.jobs.getD 0 Job.zero) with nodes := 1 }) }) == 141)) && ((state_Check State.zero) == 141)) && (state_Same law25_grown law25_grown)) && ((state_Config law25_grown 5) == 3)) && ((state_Resizing law25_grown 5).1.nodes == 4)) && (state_Resizing law25_grown 5).2)

theorem law25_awake_c  : ∀ objs, AGives Tryz.prog 8 [] objs (Bo law25_awake) := by
  generalize hR : law25_awake = R
  refine AGives.any' .nil lx (ACalls.of_cwp (kp 8 []) Tryz.func8 rfl rfl ?_)
  have hl : law25_grown.jobs.length = 1 := rfl
  conv => whnf
  refine ACalls.use (state_New_c 4 _) ?_
  conv => whnf
  refine ACalls.use (law25_grown_c _) ?_
  conv => whnf
  refine ACalls.use (mv [] (state_Copy_o law25_grown (by first | (exact law25_grown_sz) | first | (exact state_New4_sz) | first | ((refine ⟨by decide +kernel, by decide +kernel, fun y hy => ?_, by decide +kernel, by decide +kernel, by decide +kernel, fun y hy => absurd hy List.not_mem_nil⟩; rcases List.mem_cons.1 hy with rfl | hy; exact ⟨by decide +kernel, by decide +kernel, by decide +kernel, (by decide : (0 : Nat) ≤ 4294967296), by decide +kernel⟩; exact absurd hy List.not_mem_nil)) | exact szA)) .nil (dv (dn_low (Low.agg' (State.lo))) .nil) (rO rr (rO rr (rO rr (rO rr (rO rr .nil))))) (ren_agg (r1 (.cons _ _ _ _ (rw_ 2 0 rfl) (.cons _ _ _ _ (rw_ 3 0 rfl) (.cons _ _ _ _ (rw_ 4 0 rfl) (.cons _ _ _ _ (rw_ 5 0 rfl) (.cons _ _ _ _ (rw_ 6 0 rfl) (r1 (r1 .nil)))))))))) ?_
  conv => whnf
  refine ACalls.use (state_Resizing_c law25_grown 5 (by first | (exact law25_grown_sz) | first | (exact state_New4_sz) | first | ((refine ⟨by decide +kernel, by decide +kernel, fun y hy => ?_, by decide +kernel, by decide +kernel, by decide +kernel, fun y hy => absurd hy List.not_mem_nil⟩; rcases List.mem_cons.1 hy with rfl | hy; exact ⟨by decide +kernel, by decide +kernel, by decide +kernel, (by decide : (0 : Nat) ≤ 4294967296), by decide +kernel⟩; exact absurd hy List.not_mem_nil)) | exact szA) _) ?_
  conv => whnf
  refine ACalls.use (mv [] (law25_grown_o) .nil .nil (rO rr (rO rr (rO rr (rO rr (rO rr .nil))))) (ren_agg (r1 (.cons _ _ _ _ (rw_ 9 0 rfl) (.cons _ _ _ _ (rw_ 10 0 rfl) (.cons _ _ _ _ (rw_ 11 0 rfl) (.cons _ _ _ _ (rw_ 12 0 rfl) (.cons _ _ _ _ (rw_ 13 0 rfl) (r1 (r1 .nil)))))))))) ?_
  conv => whnf
  refine And.intro gkA ?_
  conv => whnf
  refine ⟨_, evalOp_store rfl rfl rfl rfl (elemI_at Job.zero 0 (by first | rfl | omega) ckA) rfl rfl (set_map 0 { (law25_grown.jobs.getD 0 Job.zero) with nodes := 1 } (by first | rfl | omega) rfl), ?_⟩
  conv => whnf
  (first | apply u2 | apply u3 | apply u4 | apply ACalls.use); exact state_Check_c ((state_New 4).1) (by first | (exact law25_grown_sz) | first | (exact state_New4_sz) | first | ((refine ⟨by decide +kernel, by decide +kernel, fun y hy => ?_, by decide +kernel, by decide +kernel, by decide +kernel, fun y hy => absurd hy List.not_mem_nil⟩; rcases List.mem_cons.1 hy with rfl | hy; exact ⟨by decide +kernel, by decide +kernel, by decide +kernel, (by decide : (0 : Nat) ≤ 4294967296), by decide +kernel⟩; exact absurd hy List.not_mem_nil)) | exact szA) _
  conv => whnf
  (first | apply u2 | apply u3 | apply u4 | apply ACalls.use); exact state_Check_c law25_grown (by first | (exact law25_grown_sz) | first | (exact state_New4_sz) | first | ((refine ⟨by decide +kernel, by decide +kernel, fun y hy => ?_, by decide +kernel, by decide +kernel, by decide +kernel, fun y hy => absurd hy List.not_mem_nil⟩; rcases List.mem_cons.1 hy with rfl | hy; exact ⟨by decide +kernel, by decide +kernel, by decide +kernel, (by decide : (0 : Nat) ≤ 4294967296), by decide +kernel⟩; exact absurd hy List.not_mem_nil)) | exact szA) _
  conv => whnf
  (first | apply u2 | apply u3 | apply u4 | apply ACalls.use); exact AGives.lent (state_Check_c { law25_grown with jobs := (law25_grown.jobs.set 0 { (law25_grown.jobs.getD 0 Job.zero) with nodes := 1 }) } (by first | (exact law25_grown_sz) | first | (exact state_New4_sz) | first | ((refine ⟨by decide +kernel, by decide +kernel, fun y hy => ?_, by decide +kernel, by decide +kernel, by decide +kernel, fun y hy => absurd hy List.not_mem_nil⟩; rcases List.mem_cons.1 hy with rfl | hy; exact ⟨by decide +kernel, by decide +kernel, by decide +kernel, (by decide : (0 : Nat) ≤ 4294967296), by decide +kernel⟩; exact absurd hy List.not_mem_nil)) | exact szA) []) (ev (Seen.agg (e1 (ev (seen_list _ _ rfl eqA lnA) (ev (seen_list _ _ rfl eqA lnA) (ev (seen_list _ _ rfl eqA lnA) (ev (seen_list _ _ rfl eqA lnA) (ev (seen_list _ _ rfl eqA lnA) (e1 (e1 .nil))))))))) .nil) (.cons (State.low _ _) .nil) (bare2_sound rfl)
  conv => whnf
  (first | apply u2 | apply u3 | apply u4 | apply ACalls.use); exact AGives.as2 (state_Check_c State.zero (by first | (exact law25_grown_sz) | first | (exact state_New4_sz) | first | ((refine ⟨by decide +kernel, by decide +kernel, fun y hy => ?_, by decide +kernel, by decide +kernel, by decide +kernel, fun y hy => absurd hy List.not_mem_nil⟩; rcases List.mem_cons.1 hy with rfl | hy; exact ⟨by decide +kernel, by decide +kernel, by decide +kernel, (by decide : (0 : Nat) ≤ 4294967296), by decide +kernel⟩; exact absurd hy List.not_mem_nil)) | exact szA) _) (av (as_agg (a1 (av (as_nil) (av (as_nil) (av (as_nil) (av (as_nil) (av (as_nil) (a1 (a1 .nil))))))))) .nil)
  conv => whnf
  (first | apply u2 | apply u3 | apply u4 | apply ACalls.use); exact AGives.lent (state_Same_c law25_grown law25_grown (by first | (exact law25_grown_sz) | first | (exact state_New4_sz) | first | ((refine ⟨by decide +kernel, by decide +kernel, fun y hy => ?_, by decide +kernel, by decide +kernel, by decide +kernel, fun y hy => absurd hy List.not_mem_nil⟩; rcases List.mem_cons.1 hy with rfl | hy; exact ⟨by decide +kernel, by decide +kernel, by decide +kernel, (by decide : (0 : Nat) ≤ 4294967296), by decide +kernel⟩; exact absurd hy List.not_mem_nil)) | exact szA) (by first | (exact law25_grown_sz) | first | (exact state_New4_sz) | first | ((refine ⟨by decide +kernel, by decide +kernel, fun y hy => ?_, by decide +kernel, by decide +kernel, by decide +kernel, fun y hy => absurd hy List.not_mem_nil⟩; rcases List.mem_cons.1 hy with rfl | hy; exact ⟨by decide +kernel, by decide +kernel, by decide +kernel, (by decide : (0 : Nat) ≤ 4294967296), by decide +kernel⟩; exact absurd hy List.not_mem_nil)) | exact szA) []) (e1 (ev (Seen.agg (e1 (ev (seen_list _ _ rfl eqA lnA) (ev (seen_list _ _ rfl eqA lnA) (ev (seen_list _ _ rfl eqA lnA) (ev (seen_list _ _ rfl eqA lnA) (ev (seen_list _ _ rfl eqA lnA) (e1 (e1 .nil))))))))) .nil)) (.cons (State.low _ _) (.cons (State.low _ _) .nil)) (bare2_sound rfl)
  conv => whnf
  (first | apply u2 | apply u3 | apply u4 | apply ACalls.use); exact state_Config_c law25_grown 5 (by first | (exact law25_grown_sz) | first | (exact state_New4_sz) | first | ((refine ⟨by decide +kernel, by decide +kernel, fun y hy => ?_, by decide +kernel, by decide +kernel, by decide +kernel, fun y hy => absurd hy List.not_mem_nil⟩; rcases List.mem_cons.1 hy with rfl | hy; exact ⟨by decide +kernel, by decide +kernel, by decide +kernel, (by decide : (0 : Nat) ≤ 4294967296), by decide +kernel⟩; exact absurd hy List.not_mem_nil)) | exact szA) _
  conv => whnf
  obtain rfl := foll hR rfl
  exact ret_seen lx sr

theorem law17_Few_ok : ∀ (l : List Usage) (i : Nat), law17_Few_g1 l i = true → ∀ y ∈ l, y.sz
  | [], _, _, y, hy => nomatch hy
  | x :: r, i, h, y, hy => by
    rw [law17_Few_g1] at h
    cases hc : ((decide ((ByteArray.size x.user : Int) > 1000)) || (decide ((ByteArray.size x.account : Int) > 1000))) with
    | true => rw [hc] at h; cases h
    | false =>
      rw [hc] at h
      rcases List.mem_cons.1 hy with rfl | hy
      · simp only [Bool.or_eq_false_iff, decide_eq_false_iff_not] at hc
        exact ⟨by omega, by omega⟩
      · exact law17_Few_ok r (i + 1) h y hy

theorem law14_Few_sz {j : Job} (h : law14_Few j = true) : j.sz := by
  simp only [law14_Few, law07_Few, Bool.and_eq_true, decide_eq_true_eq] at h
  exact ⟨by omega, by omega, by omega, by show j.shape.alts.length ≤ _; omega, by omega⟩

theorem law15_Few_ok : ∀ (l : List Job) (i : Nat), law15_Few_g1 l i = true → ∀ y ∈ l, y.sz
  | [], _, _, y, hy => nomatch hy
  | x :: r, i, h, y, hy => by
    rw [law15_Few_g1] at h
    cases hc : law14_Few x with
    | false => rw [hc] at h; cases h
    | true =>
      rw [hc] at h
      rcases List.mem_cons.1 hy with rfl | hy
      · exact law14_Few_sz hc
      · exact law15_Few_ok r (i + 1) h y hy

theorem law20_Few_sz {s : State} (h : law20_Few s = true) : s.sz := by
  simp only [law20_Few, law12_Few, law15_Few, law19_Few, law17_Few, Bool.and_eq_true, decide_eq_true_eq] at h
  obtain ⟨⟨⟨⟨h1, h2⟩, h3⟩, h4⟩, h5⟩ := h
  cases hj : decide ((s.jobs.length : Int) > 60) with
  | true => rw [hj] at h2; cases h2
  | false =>
    cases hl : decide ((s.ledger.length : Int) > 300) with
    | true => rw [hl] at h4; cases h4
    | false =>
      rw [hj] at h2
      rw [hl] at h4
      have qj := of_decide_eq_false hj
      have ql := of_decide_eq_false hl
      exact ⟨by omega, by omega, law15_Few_ok _ _ h2, by omega, by omega, by omega, law17_Few_ok _ _ h4⟩

end Go.Proofs.YtoionleakeemlaaGreatDoor
