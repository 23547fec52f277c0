/-
  Contracts of functions, printed by a program of this repo (wip/dec). No condition beyond those that stand in each.
-/
import Derived.Test.YtoionleakeemlaaGreatDoorG10
import Derived.Test.YtoionleakeemlaaGreatDoorProg
namespace Go.Proofs.YtoionleakeemlaaGreatDoor
set_option linter.unusedSimpArgs false
set_option linter.unusedVariables false
open Go.Fw

set_option maxRecDepth 20000
set_option maxHeartbeats 4000000
attribute [local irreducible] ACalls AMoves


-- F muster/musterlaw20.Few
def law20_Few (s : State) : Bool :=
  (((((law12_Few s.nodes) && (law15_Few s.jobs)) && (law19_Few s.books)) && (law17_Few s.ledger)) && (decide ((s.resizes.length : Int) ≤ 100)))

theorem law20_Few_c (s : State) (hs0 : s.szM) : ∀ objs, AGives Tryz.prog 7 [State.a s] objs (Bo (law20_Few s)) := by
  generalize hR : law20_Few s = R
  refine AGives.any' (.cons (State.low _ _) .nil) lx (ACalls.of_cwp (kp 3 []) Tryz.func7 rfl rfl ?_)
  have hk0 := hs0
  obtain ⟨z1, z2, z3, z4, z5, z6, z7⟩ : s.nodes.length ≤ 9223372036854775807 ∧ s.jobs.length ≤ 9223372036854775807 ∧ (∀ y ∈ s.jobs, y.szM) ∧ s.resizes.length ≤ 9223372036854775807 ∧ s.books.length ≤ 9223372036854775807 ∧ s.ledger.length ≤ 9223372036854775807 ∧ (∀ y ∈ s.ledger, y.szM) := hs0
  conv => whnf
  refine ACalls.use (law12_Few_c s.nodes _) ?_
  conv => whnf
  (first | apply u2 | apply u3 | apply u4 | apply ACalls.use); exact law15_Few_c s.jobs szA _
  conv => whnf
  (first | apply u2 | apply u3 | apply u4 | apply ACalls.use); exact law19_Few_c s.books _
  conv => whnf
  (first | apply u2 | apply u3 | apply u4 | apply ACalls.use); exact law17_Few_c s.ledger szA _
  conv => whnf
  obtain rfl := foll hR rfl
  exact ret_seen lx sr

-- F muster/shape.Check
def shape_Check_k1 (ok : Bool) : Int :=
  bif (!ok) then
    70
  else
    0

def shape_Check (s : Shape) : Int :=
  bif (s.kind == 1) then
    shape_Check_k1 (((((s.min == 0) && (s.max == 0)) && (s.wall == 0)) && ((s.alts.length : Int) == 1)) && (shape_fine (s.alts.getD 0 Alt.zero)))
  else
    bif (s.kind == 2) then
      shape_Check_k1 (((((((s.min == 0) && (s.max == 0)) && (s.wall == 0)) && (decide ((s.alts.length : Int) ≥ 1))) && (decide ((s.alts.length : Int) ≤ 6))) && (shape_apart s.alts)) && (!(slices_ContainsFunc_Alt s.alts (fun (y : Alt) => (!(shape_fine y))))))
    else
      bif (s.kind == 3) then
        shape_Check_k1 (((((s.alts.length : Int) == 0) && (decide (s.min ≤ s.max))) && (shape_fine (⟨s.min, s.wall⟩ : Alt))) && (decide (s.max ≤ 48)))
      else
        shape_Check_k1 false

theorem shape_Check_c (s : Shape) (hs0 : s.sz) : ∀ objs, AGives Tryz.prog 93 [Shape.a s] objs (I (shape_Check s)) := by
  generalize hR : shape_Check s = R
  refine AGives.any' (.cons (Shape.low _ _) .nil) lx (ACalls.of_cwp (kj [1000011] 6 [23, 24, 38, 60, 85]) Tryz.func93 rfl rfl ?_)
  have hk0 := hs0
  obtain z13 : s.alts.length ≤ 4294967296 := hs0
  conv => whnf
  refine join_start1 (fun (ok : Bool) => shape_Check_k1 ok = R) (fun ok => [(2, I 0), (5, Bo ok)]) (fun ok => []) ?_ ?_
  · clear hR
    rintro ok hR
    try dsimp only at hR
    conv => whnf
    refine And.intro (fun h1 => ?_) (fun h2 => ?_)
    · conv => whnf
      obtain rfl := foll hR (ct h1 rfl)
      exact ret_seen lx sr
    · conv => whnf
      obtain rfl := foll hR (cf h2 rfl)
      exact ret_seen lx sr
  · conv => whnf
    refine And.intro (fun h3 => ?_) (fun h4 => ?_)
    · conv => whnf
      refine And.intro gkA ?_
      conv => whnf
      (first | apply u2 | apply u3 | apply u4 | apply ACalls.use); exact shape_fine_c (s.alts.getD 0 Alt.zero) _
      conv => whnf
      exact join_here1 (((((s.min == 0) && (s.max == 0)) && (s.wall == 0)) && ((s.alts.length : Int) == 1)) && (shape_fine (s.alts.getD 0 Alt.zero))) (wk [] .nil (s1 (s1 .nil))) (foll hR (ct h3 rfl))
    · conv => whnf
      refine And.intro (fun h5 => ?_) (fun h6 => ?_)
      · conv => whnf
        (first | apply u2 | apply u3 | apply u4 | apply ACalls.use); exact shape_apart_c s.alts szA _
        conv => whnf
        have cl1 : ∀ (y1 : Alt), AMoves Tryz.prog 126 [Alt.a y1] [] 0 (Bo ((fun (y : Alt) => (!(shape_fine y))) y1)) [] := by
          intro y1
          have hR : (fun (y : Alt) => (!(shape_fine y))) y1 = (fun (y : Alt) => (!(shape_fine y))) y1 := rfl
          refine AMoves.of_cwp (kp 3 []) Tryz.func126 rfl rfl rfl ?_
          conv => whnf
          refine ACalls.use (shape_fine_c y1 _) ?_
          conv => whnf
          refine ret_moves (fun r : Bool => Bo r) (fun _ => []) (leaf := (!(shape_fine y1))) (foll hR rfl) ?_
          exact tt [] .nil t1
        have hof1 : AMoves Tryz.prog 125 [altL s.alts, AVal.fn (.func 126) [] []] [] 0 (Bo (slices_ContainsFunc_Alt s.alts (fun (y : Alt) => (!(shape_fine y))))) [] := by
          have hR : slices_ContainsFunc_Alt s.alts (fun (y : Alt) => (!(shape_fine y))) = slices_ContainsFunc_Alt s.alts (fun (y : Alt) => (!(shape_fine y))) := rfl
          refine AMoves.of_cwp (kp 5 []) Tryz.func125 rfl rfl rfl ?_
          conv => whnf
          have hof2 : AMoves Tryz.prog 150 [altL s.alts, AVal.fn (.func 126) [] []] [] 0 (I (slices_IndexFunc_Alt s.alts (fun (y : Alt) => (!(shape_fine y))))) [] := by
            have hR : slices_IndexFunc_Alt s.alts (fun (y : Alt) => (!(shape_fine y))) = slices_IndexFunc_Alt s.alts (fun (y : Alt) => (!(shape_fine y))) := rfl
            refine AMoves.of_cwp (kp 6 [7, 8, 9, 16]) Tryz.func150 rfl rfl rfl ?_
            conv => whnf
            refine loop_start1 (fun (i : Nat) => slices_IndexFunc_Alt_g1 (fun (y : Alt) => (!(shape_fine y))) (List.drop i s.alts) i = slices_IndexFunc_Alt s.alts (fun (y : Alt) => (!(shape_fine y))) ∧ i ≤ s.alts.length) (fun i => s.alts.length - i) (fun i => [(0, altL s.alts), (1, AVal.fn (.func 126) [] []), (4, I 0), (7, I (s.alts.length : Int)), (8, I (i : Int))]) (fun i => []) 0 (wk [] .nil (sl lw (sv (turn_low (Low.fn _ _ _ LowL.nil LowL.nil)) (s1 (s1 (s1 .nil)))))) ⟨foll hR rfl, by exact omA⟩ ?_
            clear hR
            rintro i ⟨hR, hj⟩
            try dsimp only at hR hj
            conv => whnf
            refine And.intro (fun h7 => ?_) (fun h8 => ?_)
            · have hlt : i < s.alts.length := by have := of_decide_eq_true h7; omega
              rw [drop_getD Alt.zero hlt] at hR
              conv => whnf
              refine And.intro gkA ?_
              conv => whnf
              refine ACalls.use (mv [] (cl1 (s.alts.getD i Alt.zero)) .nil (dl (Alt.low _ _) .nil) .nil rx) ?_
              conv => whnf
              refine And.intro (fun h9 => ?_) (fun h10 => ?_)
              · conv => whnf
                refine ret_moves (fun r : Int => I r) (fun r : Int => []) (leaf := (i : Int)) (foll hR (ct h9 rfl)) ?_
                exact tt [] .nil t1
              · conv => whnf
                exact loop_next1 (i + 1) (wk [] .nil (sl lw (sv (turn_low (Low.fn _ _ _ LowL.nil LowL.nil)) (s1 (s1 (sv (turn_eq (I_eq (wr omA)) lx) .nil)))))) omA ⟨foll hR (cf h10 rfl), by exact omA⟩
            · rw [drop_none (l := s.alts) (j := i) (by have := of_decide_eq_false h8; omega)] at hR
              conv => whnf
              refine ret_moves (fun r : Int => I r) (fun r : Int => []) (leaf := (-1)) (foll hR rfl) ?_
              exact tt [] .nil t1
          refine ACalls.use (mv [] (hof2) .nil (dl lw (dv (dn_low (Low.fn _ _ _ LowL.nil LowL.nil)) .nil)) .nil rx) ?_
          conv => whnf
          refine ret_moves (fun r : Bool => Bo r) (fun r : Bool => []) (leaf := (decide ((slices_IndexFunc_Alt s.alts (fun (y : Alt) => (!(shape_fine y)))) ≥ 0))) (foll hR rfl) ?_
          exact tt [] .nil t1
        (first | apply u2 | apply u3 | apply u4 | apply ACalls.use); exact mv [] (hof1) .nil (dl lw (dv (dn_low (Low.fn _ _ _ LowL.nil LowL.nil)) .nil)) .nil rx
        conv => whnf
        exact join_here1 (((((((s.min == 0) && (s.max == 0)) && (s.wall == 0)) && (decide ((s.alts.length : Int) ≥ 1))) && (decide ((s.alts.length : Int) ≤ 6))) && (shape_apart s.alts)) && (!(slices_ContainsFunc_Alt s.alts (fun (y : Alt) => (!(shape_fine y)))))) (wk [] .nil (s1 (s1 .nil))) (foll hR (cf h4 (ct h5 rfl)))
      · conv => whnf
        refine And.intro (fun h11 => ?_) (fun h12 => ?_)
        · conv => whnf
          (first | apply u2 | apply u3 | apply u4 | apply ACalls.use); exact shape_fine_c (⟨s.min, s.wall⟩ : Alt) _
          conv => whnf
          exact join_here1 (((((s.alts.length : Int) == 0) && (decide (s.min ≤ s.max))) && (shape_fine (⟨s.min, s.wall⟩ : Alt))) && (decide (s.max ≤ 48))) (wk [] .nil (s1 (s1 .nil))) (foll hR (cf h4 (cf h6 (ct h11 rfl))))
        · conv => whnf
          exact join_here1 false (wk [] .nil (s1 (s1 .nil))) (foll hR (cf h4 (cf h6 (cf h12 rfl))))

-- F (*muster/lex.reader).count
def lex_reader_count (r_ : LexReader) : Token × LexReader :=
  bif (!(lex_digits ((lex_reader_while r_ (fun (y : Int) => (((decide (y ≥ 48)) && (decide (y ≤ 57))) || ((decide (y ≥ 97)) && (decide (y ≤ 122)))))).1))) then
    ((⟨3, (lex_reader_while r_ (fun (y : Int) => (((decide (y ≥ 48)) && (decide (y ≤ 57))) || ((decide (y ≥ 97)) && (decide (y ≤ 122)))))).1, 0, 0⟩ : Token), (lex_reader_while r_ (fun (y : Int) => (((decide (y ≥ 48)) && (decide (y ≤ 57))) || ((decide (y ≥ 97)) && (decide (y ≤ 122)))))).2)
  else
    bif (!(lex_number ((lex_reader_while r_ (fun (y : Int) => (((decide (y ≥ 48)) && (decide (y ≤ 57))) || ((decide (y ≥ 97)) && (decide (y ≤ 122)))))).1)).2) then
      ((⟨2, ⟨#[]⟩, (lex_number ((lex_reader_while r_ (fun (y : Int) => (((decide (y ≥ 48)) && (decide (y ≤ 57))) || ((decide (y ≥ 97)) && (decide (y ≤ 122)))))).1)).1, 0⟩ : Token), (lex_reader_fail ((lex_reader_while r_ (fun (y : Int) => (((decide (y ≥ 48)) && (decide (y ≤ 57))) || ((decide (y ≥ 97)) && (decide (y ≤ 122)))))).2) r_.at_ 50))
    else
      ((⟨2, ⟨#[]⟩, (lex_number ((lex_reader_while r_ (fun (y : Int) => (((decide (y ≥ 48)) && (decide (y ≤ 57))) || ((decide (y ≥ 97)) && (decide (y ≤ 122)))))).1)).1, 0⟩ : Token), (lex_reader_while r_ (fun (y : Int) => (((decide (y ≥ 48)) && (decide (y ≤ 57))) || ((decide (y ≥ 97)) && (decide (y ≤ 122)))))).2)

theorem lex_reader_count_c (r_ : LexReader) (hs0 : r_.sz) (hp0 : 0 ≤ r_.at_ ∧ r_.at_ ≤ (r_.line.length : Int) ∧ r_.line.length ≤ 400) : AMoves Tryz.prog 210 [AVal.ptr 0 0 4 0 0] [(0, AObj.row 206 4 [[runes r_.line, I r_.at_, I r_.bad, I r_.error]])] 1 (Token.a ((lex_reader_count r_).1)) [(0, AObj.row 206 4 [[runes ((lex_reader_count r_).2.line), I ((lex_reader_count r_).2.at_), I ((lex_reader_count r_).2.bad), I ((lex_reader_count r_).2.error)]])] := by
  generalize hR : lex_reader_count r_ = R
  refine AMoves.of_cwp (kp 7 [15, 24]) Tryz.func210 rfl rfl rfl ?_
  have hk0 := hs0
  obtain z7 : r_.line.length ≤ 4294967296 := hs0
  conv => whnf
  have cl1 : ∀ (y1 : Int), AMoves Tryz.prog 222 [J y1] [] 0 (Bo ((fun (y : Int) => (((decide (y ≥ 48)) && (decide (y ≤ 57))) || ((decide (y ≥ 97)) && (decide (y ≤ 122))))) y1)) [] := by
    intro y1
    have hR : (fun (y : Int) => (((decide (y ≥ 48)) && (decide (y ≤ 57))) || ((decide (y ≥ 97)) && (decide (y ≤ 122))))) y1 = (fun (y : Int) => (((decide (y ≥ 48)) && (decide (y ≤ 57))) || ((decide (y ≥ 97)) && (decide (y ≤ 122))))) y1 := rfl
    refine AMoves.of_cwp (kp 3 []) Tryz.func222 rfl rfl rfl ?_
    conv => whnf
    refine ret_moves (fun r : Bool => Bo r) (fun _ => []) (leaf := (((decide (y1 ≥ 48)) && (decide (y1 ≤ 57))) || ((decide (y1 ≥ 97)) && (decide (y1 ≤ 122))))) (foll hR rfl) ?_
    exact tt [] .nil t1
  have hof1 : AMoves Tryz.prog 199 [AVal.ptr 0 0 4 0 0, AVal.fn (.func 222) [] []] [(0, AObj.row 206 4 [[runes r_.line, I r_.at_, I r_.bad, I r_.error]])] 1 (Sg ((lex_reader_while r_ (fun (y : Int) => (((decide (y ≥ 48)) && (decide (y ≤ 57))) || ((decide (y ≥ 97)) && (decide (y ≤ 122)))))).1)) [(0, AObj.row 206 4 [[runes (((lex_reader_while r_ (fun (y : Int) => (((decide (y ≥ 48)) && (decide (y ≤ 57))) || ((decide (y ≥ 97)) && (decide (y ≤ 122)))))).2).line), I (((lex_reader_while r_ (fun (y : Int) => (((decide (y ≥ 48)) && (decide (y ≤ 57))) || ((decide (y ≥ 97)) && (decide (y ≤ 122)))))).2).at_), I (((lex_reader_while r_ (fun (y : Int) => (((decide (y ≥ 48)) && (decide (y ≤ 57))) || ((decide (y ≥ 97)) && (decide (y ≤ 122)))))).2).bad), I (((lex_reader_while r_ (fun (y : Int) => (((decide (y ≥ 48)) && (decide (y ≤ 57))) || ((decide (y ≥ 97)) && (decide (y ≤ 122)))))).2).error)]])] := by
    have hR : lex_reader_while r_ (fun (y : Int) => (((decide (y ≥ 48)) && (decide (y ≤ 57))) || ((decide (y ≥ 97)) && (decide (y ≤ 122))))) = lex_reader_while r_ (fun (y : Int) => (((decide (y ≥ 48)) && (decide (y ≤ 57))) || ((decide (y ≥ 97)) && (decide (y ≤ 122))))) := rfl
    refine AMoves.of_cwp (kp 6 [33]) Tryz.func199 rfl rfl rfl ?_
    conv => whnf
    refine loop_start1 (fun (c : LexReader) => ∃ m, (Int.toNat ((c.line.length : Int) - c.at_)) < m ∧ lex_reader_while_k1 r_ (lex_reader_while_g1 (fun (y : Int) => (((decide (y ≥ 48)) && (decide (y ≤ 57))) || ((decide (y ≥ 97)) && (decide (y ≤ 122))))) m c) = lex_reader_while r_ (fun (y : Int) => (((decide (y ≥ 48)) && (decide (y ≤ 57))) || ((decide (y ≥ 97)) && (decide (y ≤ 122))))) ∧ 0 ≤ c.at_ ∧ c.at_ ≤ (c.line.length : Int) ∧ c.line.length ≤ 400 ∧ r_.at_ ≤ c.at_ ∧ 0 ≤ r_.at_) (fun c => (Int.toNat ((c.line.length : Int) - c.at_))) (fun c => [(0, AVal.ptr 0 0 4 0 0), (1, AVal.fn (.func 222) [] []), (4, Sg ⟨#[]⟩), (5, I r_.at_)]) (fun c => [(0, AObj.row 206 4 [[runes c.line, I c.at_, I c.bad, I c.error]])]) r_ (wk [0] (tO rfl (ts LexReader.lo) .nil) (sv (turn_ptr 0 rfl rfl) (sv (turn_low (Low.fn _ _ _ LowL.nil LowL.nil)) (s1 (s1 .nil))))) ⟨_, Nat.lt_succ_self _, foll hR rfl, by exact exA⟩ ?_
    clear hR
    rintro c ⟨m, hm, hR, hx⟩
    try dsimp only at hR hm hx
    obtain ⟨m, rfl⟩ : ∃ k, m = k + 1 := ⟨m - 1, by omega⟩
    conv => whnf
    refine dchk (by kernel_rfl) ?_
    conv => whnf
    refine And.intro gkA ?_
    conv => whnf
    (first | apply u2 | apply u3 | apply u4 | apply ACalls.use); exact mv [] (cl1 (c.line.getD (Int.toNat c.at_) 0)) .nil (d1 .nil) .nil rx
    conv => whnf
    repeat ((first | refine And.intro rfl ?_ | refine And.intro (fun _ => rfl) ?_); conv => whnf)
    refine And.intro (fun h1 => ?_) (fun h2 => ?_)
    · conv => whnf
      have hq1 := of_decide_eq_true ((Bool.and_eq_true _ _).mp h1).1; have hwr : w64 (c.at_ + 1) = c.at_ + 1 := wr (by omega)
      exact loop_next1 { c with at_ := (w64 (c.at_ + 1)) } (wk [0] (tO rfl (ts LexReader.lo) .nil) (sv (turn_ptr 0 rfl rfl) (sv (turn_low (Low.fn _ _ _ LowL.nil LowL.nil)) (s1 (s1 .nil))))) omA ⟨m, by exact omA, foll hR (congrArg (fun p : LexReader => lex_reader_while_k1 r_ p) (ct h1 rfl)), by exact exA⟩
    · conv => whnf
      replace hR : lex_reader_while_k1 r_ c = lex_reader_while r_ (fun (y : Int) => (((decide (y ≥ 48)) && (decide (y ≤ 57))) || ((decide (y ≥ 97)) && (decide (y ≤ 122))))) := fo2 (fun p : LexReader => lex_reader_while_k1 r_ p) (c) hR (cf h2 rfl)
      refine dchk (by kernel_rfl) ?_
      conv => whnf
      refine And.intro gkA ?_
      conv => whnf
      first | refine ⟨(List.drop (Int.toNat r_.at_) (List.take (Int.toNat c.at_) c.line)), by exact cvA, ?_⟩ | refine ⟨_, fun _ => ⟨(List.drop (Int.toNat r_.at_) (List.take (Int.toNat c.at_) c.line)), by exact cvA, rfl, rfl⟩, ?_⟩ | refine ⟨_, rfl, ⟨(List.drop (Int.toNat r_.at_) (List.take (Int.toNat c.at_) c.line)), by exact cvA, Sub.refl _, rfl⟩, ?_⟩
      conv => whnf
      repeat ((first | refine And.intro rfl ?_ | refine And.intro (fun _ => rfl) ?_); conv => whnf)
      refine ret_moves (fun r : ByteArray × LexReader => Sg r.1) (fun r : ByteArray × LexReader => [(0, AObj.row 206 4 [[runes r.2.line, I r.2.at_, I r.2.bad, I r.2.error]])]) (leaf := ((runesBytes (List.drop (Int.toNat r_.at_) (List.take (Int.toNat c.at_) c.line))), c)) (foll hR rfl) ?_
      exact tt [0] (tO rfl (ts LexReader.lo) .nil) t1
  refine ACalls.use (mv [0] (hof1) (dO (ds LexReader.lo) .nil) (dp (dv (dn_low (Low.fn _ _ _ LowL.nil LowL.nil)) .nil)) (rO (re LexReader.lo) .nil) rx) ?_
  conv => whnf
  refine ACalls.use (lex_digits_c ((lex_reader_while r_ (fun (y : Int) => (((decide (y ≥ 48)) && (decide (y ≤ 57))) || ((decide (y ≥ 97)) && (decide (y ≤ 122)))))).1) (by first | (exact lex_while_sz _ _ hp0.2.2) | exact szA) _) ?_
  conv => whnf
  refine And.intro (fun h3 => ?_) (fun h4 => ?_)
  · conv => whnf
    obtain rfl := foll hR (ct h3 rfl)
    exact rq (tt [0] (tO rfl (ts LexReader.lo) .nil) (turn_low (Low.agg' (Token.lo))))
  · conv => whnf
    refine ACalls.use (lex_number_c ((lex_reader_while r_ (fun (y : Int) => (((decide (y ≥ 48)) && (decide (y ≤ 57))) || ((decide (y ≥ 97)) && (decide (y ≤ 122)))))).1) (by first | (exact lex_while_sz _ _ hp0.2.2) | exact szA) _) ?_
    conv => whnf
    refine And.intro (fun h5 => ?_) (fun h6 => ?_)
    · conv => whnf
      refine ACalls.use (mv [0] (lex_reader_fail_c ((lex_reader_while r_ (fun (y : Int) => (((decide (y ≥ 48)) && (decide (y ≤ 57))) || ((decide (y ≥ 97)) && (decide (y ≤ 122)))))).2) r_.at_ 50) (dO (ds LexReader.lo) .nil) (dp (d1 (d1 .nil))) (rO (re LexReader.lo) .nil) rx) ?_
      conv => whnf
      obtain rfl := foll hR (cf h4 (ct h5 rfl))
      exact rq (tt [0] (tO rfl (ts LexReader.lo) .nil) (turn_low (Low.agg' (Token.lo))))
    · conv => whnf
      obtain rfl := foll hR (cf h4 (cf h6 rfl))
      exact rq (tt [0] (tO rfl (ts LexReader.lo) .nil) (turn_low (Low.agg' (Token.lo))))

-- F muster/runes.Unquote
attribute [local irreducible] utf8_AppendRune

def runes_Unquote_g1  : List (Nat × Int) → Bool → List Int → ByteArray × Int
  | [], held, buf =>
    bif held then
      (⟨#[]⟩, 50)
    else
      ((bytesStr buf), 0)
  | x_ :: r, held, buf =>
    bif ((held && (x_.2 != 34)) && (x_.2 != 92)) then
      bif ((held && (x_.2 != 34)) && (x_.2 != 92)) then
        (⟨#[]⟩, 50)
      else
        bif ((!held) && (x_.2 == 92)) then
          runes_Unquote_g1 r true buf
        else
          runes_Unquote_g1 r false (utf8_AppendRune buf x_.2)
    else
      bif ((!held) && (x_.2 == 34)) then
        (⟨#[]⟩, 50)
      else
        bif ((!held) && (x_.2 == 92)) then
          runes_Unquote_g1 r true buf
        else
          runes_Unquote_g1 r false (utf8_AppendRune buf x_.2)

def runes_Unquote (s : ByteArray) : ByteArray × Int :=
  bif ((runes_Check s).2 != 0) then
    (⟨#[]⟩, (runes_Check s).2)
  else
    bif (((decide ((ByteArray.size s : Int) < 2)) || (((s.data.toList.getD 0 0).toNat : Int) != 34)) || (((s.data.toList.getD (Int.toNat (w64 ((ByteArray.size s : Int) - 1))) 0).toNat : Int) != 34)) then
      (⟨#[]⟩, 50)
    else
      runes_Unquote_g1 (runeList (s.extract 1 (Int.toNat (w64 ((ByteArray.size s : Int) - 1))))) false []

theorem runes_Unquote_c (s : ByteArray) (hs0 : s.size ≤ 4294967296) (hp0 : ByteArray.size s ≤ 1000000) : ∀ objs, AGives Tryz.prog 226 [Sg s] objs (AVal.tup [Sg ((runes_Unquote s).1), I ((runes_Unquote s).2)]) := by
  generalize hR : runes_Unquote s = R
  refine AGives.any' (l1 .nil) (Low.tup' (l1 (l1 .nil))) (ACalls.of_cwp (kp 10 [16, 33, 39, 40, 41, 43, 59, 68]) Tryz.func226 rfl rfl ?_)
  have hk0 := hs0
  obtain z19 : s.size ≤ 4294967296 := hs0
  have hw0 : w64 ((ByteArray.size s : Int) - 1) = (ByteArray.size s : Int) - 1 := wr (by omega)
  conv => whnf
  refine ACalls.use (runes_Check_c s szA _) ?_
  conv => whnf
  refine And.intro (fun h1 => ?_) (fun h2 => ?_)
  · conv => whnf
    obtain rfl := foll hR (ct h1 rfl)
    exact ret_seen (Low.tup' (l1 (l1 .nil))) (Seen.tup (e1 (e1 .nil)))
  · conv => whnf
    refine And.intro gkA ?_
    conv => whnf
    refine And.intro gkA ?_
    conv => whnf
    refine And.intro (fun h3 => ?_) (fun h4 => ?_)
    · conv => whnf
      obtain rfl := foll hR (cf h2 (ct h3 rfl))
      exact ret_seen (Low.tup' (l1 (l1 .nil))) (Seen.tup (e1 (e1 .nil)))
    · conv => whnf
      refine And.intro gkA ?_
      conv => whnf
      refine loop_start3 (fun (held : Bool) (buf : List Int) (pos : Nat) => ∃ m, ByteArray.size (s.extract 1 (Int.toNat (w64 ((ByteArray.size s : Int) - 1)))) - pos ≤ m ∧ runes_Unquote_g1 (strRunes (s.extract 1 (Int.toNat (w64 ((ByteArray.size s : Int) - 1)))) m pos) held buf = R ∧ buf.length ≤ 4 * pos ∧ pos ≤ ByteArray.size s ∧ byteIn buf) (fun held buf pos => ByteArray.size (s.extract 1 (Int.toNat (w64 ((ByteArray.size s : Int) - 1)))) - pos) (fun held buf pos => [(2, Sg ⟨#[]⟩), (3, I 0), (6, AVal.ptr 0 0 2 0 0), (7, Bo held), (39, AVal.ptr 1 0 1 0 0)]) (fun held buf pos => [(0, AObj.row 222 2 [[AVal.sel 0 0 2 0 0, AVal.buf 2 0 1 buf.length]]), (0, AObj.other (.strIter (s.extract 1 (Int.toNat (w64 ((ByteArray.size s : Int) - 1)))) pos)), (0, AObj.row 5 1 (buf.map (fun q_ => [Y q_])))]) false [] 0 ((weaker_none 5 1).trans (wk [0, 1, 2] (tO rfl (turn_row1 (cv (turn_selnil) (cv (turn_nilbuf 2 rfl) .nil))) (tO rfl (.strIter _ _) (tO rfl (tl eqA) .nil))) (s1 (s1 (sv (turn_ptr 0 rfl rfl) (s1 (sv (turn_ptr 1 rfl rfl) .nil))))))) ⟨ByteArray.size (s.extract 1 (Int.toNat (w64 ((ByteArray.size s : Int) - 1)))), by exact omA, foll hR (cf h2 (cf h4 rfl)), by first | (have hsz := extract_size s 1 (Int.toNat (w64 ((ByteArray.size s : Int) - 1))); refine ⟨?_, ?_, ?_⟩ <;> (try dsimp only) <;> first | omega | with_reducible exact byteIn_nil | with_reducible exact hx.2.2 | with_reducible exact byteIn_rune _ _ hx.2.2 | exact Nat.le_trans (utf8_AppendRune_len _ _) (by omega) | (simp; done)) | exact exA⟩ ?_
      clear hR
      rintro held buf pos ⟨m, hm, hR, hx⟩
      try dsimp only at hR hm hx
      conv => whnf
      refine And.intro (fun h5 => ?_) (fun h6 => ?_)
      · have hlt := of_decide_eq_true h5
        have hw := decode_pos (s.extract 1 (Int.toNat (w64 ((ByteArray.size s : Int) - 1)))) pos
        have hwe := decode_end (s.extract 1 (Int.toNat (w64 ((ByteArray.size s : Int) - 1)))) pos hlt
        obtain ⟨m, rfl⟩ : ∃ k, m = k + 1 := ⟨m - 1, by omega⟩
        rw [strRunes_cons h5] at hR
        conv => whnf
        refine And.intro (fun _ => ?_) (fun h => nomatch h)
        conv => whnf
        refine And.intro (fun h7 => ?_) (fun h8 => ?_)
        · conv => whnf
          refine And.intro (fun h9 => ?_) (fun h10 => ?_)
          · conv => whnf
            obtain rfl := foll hR (ct h7 (ct h9 rfl))
            exact ret_seen (Low.tup' (l1 (l1 .nil))) (Seen.tup (e1 (e1 .nil)))
          · conv => whnf
            refine And.intro (fun h11 => ?_) (fun h12 => ?_)
            · conv => whnf
              exact loop_next3 true buf (pos + (Utf8.decode (s.extract 1 (Int.toNat (w64 ((ByteArray.size s : Int) - 1)))) pos).2) (wk [0, 1, 2] (tO rfl (turn_row1 (cv (turn_sel 0 rfl rfl) (cv (turn_buf 2 rfl rfl) .nil))) (tO rfl (.strIter _ _) (tO rfl (tl eqA) .nil))) (s1 (s1 (sv (turn_ptr 0 rfl rfl) (s1 (sv (turn_ptr 1 rfl rfl) .nil)))))) omA ⟨m, by exact omA, foll hR (ct h7 (cf h10 (ct h11 rfl))), by first | (have hsz := extract_size s 1 (Int.toNat (w64 ((ByteArray.size s : Int) - 1))); refine ⟨?_, ?_, ?_⟩ <;> (try dsimp only) <;> first | omega | with_reducible exact byteIn_nil | with_reducible exact hx.2.2 | with_reducible exact byteIn_rune _ _ hx.2.2 | exact Nat.le_trans (utf8_AppendRune_len _ _) (by omega) | (simp; done)) | exact exA⟩
            · conv => whnf
              refine ACalls.use (mv [0, 2] (WriteRune_c buf ((pos, ((Utf8.decode (s.extract 1 (Int.toNat (w64 ((ByteArray.size s : Int) - 1)))) pos).1 : Int)).2) szA) (dO (dc (dv (dn_sel rfl) (dv (dn_buf rfl) .nil))) (dO (dr eqA) .nil)) (dp (d1 .nil)) (rO (rc (rv (rp 0 0 rfl) (rv (rw_ 3 0 rfl) .nil))) (rO rr .nil)) (Ren.low _ (Low.tup' (l1 (l1 .nil))))) ?_
              conv => whnf
              exact loop_next3 false (utf8_AppendRune buf (pos, ((Utf8.decode (s.extract 1 (Int.toNat (w64 ((ByteArray.size s : Int) - 1)))) pos).1 : Int)).2) (pos + (Utf8.decode (s.extract 1 (Int.toNat (w64 ((ByteArray.size s : Int) - 1)))) pos).2) (wk [0, 1, 3] (tO rfl (turn_row1 (cv (turn_selptr 0 rfl rfl) (cv (turn_ownbuf 2 rfl rfl lnA (by first | with_reducible exact utf8_AppendRune_ne _ _ | (simp; done) | grind)) .nil))) (tO rfl (.strIter _ _) (tO rfl (tl eqA) .nil))) (s1 (s1 (sv (turn_ptr 0 rfl rfl) (s1 (sv (turn_ptr 1 rfl rfl) .nil)))))) omA ⟨m, by exact omA, foll hR (ct h7 (cf h10 (cf h12 rfl))), by first | (have hsz := extract_size s 1 (Int.toNat (w64 ((ByteArray.size s : Int) - 1))); refine ⟨?_, ?_, ?_⟩ <;> (try dsimp only) <;> first | omega | with_reducible exact byteIn_nil | with_reducible exact hx.2.2 | with_reducible exact byteIn_rune _ _ hx.2.2 | exact Nat.le_trans (utf8_AppendRune_len _ _) (by omega) | (simp; done)) | exact exA⟩
        · conv => whnf
          refine And.intro (fun h13 => ?_) (fun h14 => ?_)
          · conv => whnf
            obtain rfl := foll hR (cf h8 (ct h13 rfl))
            exact ret_seen (Low.tup' (l1 (l1 .nil))) (Seen.tup (e1 (e1 .nil)))
          · conv => whnf
            refine And.intro (fun h15 => ?_) (fun h16 => ?_)
            · conv => whnf
              exact loop_next3 true buf (pos + (Utf8.decode (s.extract 1 (Int.toNat (w64 ((ByteArray.size s : Int) - 1)))) pos).2) (wk [0, 1, 2] (tO rfl (turn_row1 (cv (turn_sel 0 rfl rfl) (cv (turn_buf 2 rfl rfl) .nil))) (tO rfl (.strIter _ _) (tO rfl (tl eqA) .nil))) (s1 (s1 (sv (turn_ptr 0 rfl rfl) (s1 (sv (turn_ptr 1 rfl rfl) .nil)))))) omA ⟨m, by exact omA, foll hR (cf h8 (cf h14 (ct h15 rfl))), by first | (have hsz := extract_size s 1 (Int.toNat (w64 ((ByteArray.size s : Int) - 1))); refine ⟨?_, ?_, ?_⟩ <;> (try dsimp only) <;> first | omega | with_reducible exact byteIn_nil | with_reducible exact hx.2.2 | with_reducible exact byteIn_rune _ _ hx.2.2 | exact Nat.le_trans (utf8_AppendRune_len _ _) (by omega) | (simp; done)) | exact exA⟩
            · conv => whnf
              refine ACalls.use (mv [0, 2] (WriteRune_c buf ((pos, ((Utf8.decode (s.extract 1 (Int.toNat (w64 ((ByteArray.size s : Int) - 1)))) pos).1 : Int)).2) szA) (dO (dc (dv (dn_sel rfl) (dv (dn_buf rfl) .nil))) (dO (dr eqA) .nil)) (dp (d1 .nil)) (rO (rc (rv (rp 0 0 rfl) (rv (rw_ 3 0 rfl) .nil))) (rO rr .nil)) (Ren.low _ (Low.tup' (l1 (l1 .nil))))) ?_
              conv => whnf
              exact loop_next3 false (utf8_AppendRune buf (pos, ((Utf8.decode (s.extract 1 (Int.toNat (w64 ((ByteArray.size s : Int) - 1)))) pos).1 : Int)).2) (pos + (Utf8.decode (s.extract 1 (Int.toNat (w64 ((ByteArray.size s : Int) - 1)))) pos).2) (wk [0, 1, 3] (tO rfl (turn_row1 (cv (turn_selptr 0 rfl rfl) (cv (turn_ownbuf 2 rfl rfl lnA (by first | with_reducible exact utf8_AppendRune_ne _ _ | (simp; done) | grind)) .nil))) (tO rfl (.strIter _ _) (tO rfl (tl eqA) .nil))) (s1 (s1 (sv (turn_ptr 0 rfl rfl) (s1 (sv (turn_ptr 1 rfl rfl) .nil)))))) omA ⟨m, by exact omA, foll hR (cf h8 (cf h14 (cf h16 rfl))), by first | (have hsz := extract_size s 1 (Int.toNat (w64 ((ByteArray.size s : Int) - 1))); refine ⟨?_, ?_, ?_⟩ <;> (try dsimp only) <;> first | omega | with_reducible exact byteIn_nil | with_reducible exact hx.2.2 | with_reducible exact byteIn_rune _ _ hx.2.2 | exact Nat.le_trans (utf8_AppendRune_len _ _) (by omega) | (simp; done)) | exact exA⟩
      · rw [strRunes_nil h6] at hR
        conv => whnf
        refine And.intro (fun h => nomatch h) (fun _ => ?_)
        conv => whnf
        refine And.intro (fun h17 => ?_) (fun h18 => ?_)
        · conv => whnf
          obtain rfl := foll hR (ct h17 rfl)
          exact ret_seen (Low.tup' (l1 (l1 .nil))) (Seen.tup (e1 (e1 .nil)))
        · conv => whnf
          refine ACalls.use (mv [0, 2] (String_c buf (by first | (with_reducible exact hx.2.2) | first | assumption | exact byteIn_nil | grind) szA) (dO (dc (dv (dn_any) (dv (dn_bufbuf rfl) .nil))) (dO (dr eqA) .nil)) (dp .nil) (rO (re (.cons Low.any (.cons Low.any .nil))) .nil) rx) ?_
          conv => whnf
          obtain rfl := foll hR (cf h18 rfl)
          exact ret_seen (Low.tup' (l1 (l1 .nil))) (Seen.tup (e1 (e1 .nil)))

-- F muster/fleet.Check
def fleet_Check (l : List Node) : Int :=
  bif (((decide ((l.length : Int) < 1)) || (decide ((l.length : Int) > 48))) || (slices_ContainsFunc_Node l (fun (y : Node) => (!(fleet_fine y))))) then
    120
  else
    0

theorem fleet_Check_c (l : List Node) (hs0 : l.length ≤ 4294967296) : ∀ objs, AGives Tryz.prog 96 [nodeL l] objs (I (fleet_Check l)) := by
  generalize hR : fleet_Check l = R
  refine AGives.any' (.cons lw .nil) lx (ACalls.of_cwp (kp 3 [14]) Tryz.func96 rfl rfl ?_)
  have hk0 := hs0
  obtain z7 : l.length ≤ 4294967296 := hs0
  conv => whnf
  have cl1 : ∀ (y1 : Node), AMoves Tryz.prog 129 [Node.a y1] [] 0 (Bo ((fun (y : Node) => (!(fleet_fine y))) y1)) [] := by
    intro y1
    have hR : (fun (y : Node) => (!(fleet_fine y))) y1 = (fun (y : Node) => (!(fleet_fine y))) y1 := rfl
    refine AMoves.of_cwp (kp 3 []) Tryz.func129 rfl rfl rfl ?_
    conv => whnf
    refine ACalls.use (fleet_fine_c y1 _) ?_
    conv => whnf
    refine ret_moves (fun r : Bool => Bo r) (fun _ => []) (leaf := (!(fleet_fine y1))) (foll hR rfl) ?_
    exact tt [] .nil t1
  have hof1 : AMoves Tryz.prog 128 [nodeL l, AVal.fn (.func 129) [] []] [] 0 (Bo (slices_ContainsFunc_Node l (fun (y : Node) => (!(fleet_fine y))))) [] := by
    have hR : slices_ContainsFunc_Node l (fun (y : Node) => (!(fleet_fine y))) = slices_ContainsFunc_Node l (fun (y : Node) => (!(fleet_fine y))) := rfl
    refine AMoves.of_cwp (kp 5 []) Tryz.func128 rfl rfl rfl ?_
    conv => whnf
    have hof2 : AMoves Tryz.prog 151 [nodeL l, AVal.fn (.func 129) [] []] [] 0 (I (slices_IndexFunc_Node l (fun (y : Node) => (!(fleet_fine y))))) [] := by
      have hR : slices_IndexFunc_Node l (fun (y : Node) => (!(fleet_fine y))) = slices_IndexFunc_Node l (fun (y : Node) => (!(fleet_fine y))) := rfl
      refine AMoves.of_cwp (kp 6 [7, 8, 9, 16]) Tryz.func151 rfl rfl rfl ?_
      conv => whnf
      refine loop_start1 (fun (i : Nat) => slices_IndexFunc_Node_g1 (fun (y : Node) => (!(fleet_fine y))) (List.drop i l) i = slices_IndexFunc_Node l (fun (y : Node) => (!(fleet_fine y))) ∧ i ≤ l.length) (fun i => l.length - i) (fun i => [(0, nodeL l), (1, AVal.fn (.func 129) [] []), (4, I 0), (7, I (l.length : Int)), (8, I (i : Int))]) (fun i => []) 0 (wk [] .nil (sl lw (sv (turn_low (Low.fn _ _ _ LowL.nil LowL.nil)) (s1 (s1 (s1 .nil)))))) ⟨foll hR rfl, by exact omA⟩ ?_
      clear hR
      rintro i ⟨hR, hj⟩
      try dsimp only at hR hj
      conv => whnf
      refine And.intro (fun h1 => ?_) (fun h2 => ?_)
      · have hlt : i < l.length := by have := of_decide_eq_true h1; omega
        rw [drop_getD Node.zero hlt] at hR
        conv => whnf
        refine And.intro gkA ?_
        conv => whnf
        refine ACalls.use (mv [] (cl1 (l.getD i Node.zero)) .nil (dl (Node.low _ _) .nil) .nil rx) ?_
        conv => whnf
        refine And.intro (fun h3 => ?_) (fun h4 => ?_)
        · conv => whnf
          refine ret_moves (fun r : Int => I r) (fun r : Int => []) (leaf := (i : Int)) (foll hR (ct h3 rfl)) ?_
          exact tt [] .nil t1
        · conv => whnf
          exact loop_next1 (i + 1) (wk [] .nil (sl lw (sv (turn_low (Low.fn _ _ _ LowL.nil LowL.nil)) (s1 (s1 (sv (turn_eq (I_eq (wr omA)) lx) .nil)))))) omA ⟨foll hR (cf h4 rfl), by exact omA⟩
      · rw [drop_none (l := l) (j := i) (by have := of_decide_eq_false h2; omega)] at hR
        conv => whnf
        refine ret_moves (fun r : Int => I r) (fun r : Int => []) (leaf := (-1)) (foll hR rfl) ?_
        exact tt [] .nil t1
    refine ACalls.use (mv [] (hof2) .nil (dl lw (dv (dn_low (Low.fn _ _ _ LowL.nil LowL.nil)) .nil)) .nil rx) ?_
    conv => whnf
    refine ret_moves (fun r : Bool => Bo r) (fun r : Bool => []) (leaf := (decide ((slices_IndexFunc_Node l (fun (y : Node) => (!(fleet_fine y)))) ≥ 0))) (foll hR rfl) ?_
    exact tt [] .nil t1
  (first | apply u2 | apply u3 | apply u4 | apply ACalls.use); exact mv [] (hof1) .nil (dl lw (dv (dn_low (Low.fn _ _ _ LowL.nil LowL.nil)) .nil)) .nil rx
  conv => whnf
  refine And.intro (fun h5 => ?_) (fun h6 => ?_)
  · conv => whnf
    obtain rfl := foll hR (ct h5 rfl)
    exact ret_seen lx sr
  · conv => whnf
    obtain rfl := foll hR (cf h6 rfl)
    exact ret_seen lx sr

-- F muster/ledger.Check
def ledger_Check_g1 (l : List Usage) : List Usage → Nat → Int
  | [], _ =>
    0
  | x_ :: r, i =>
    bif ((((((!(ledger_name x_.user)) || (!(ledger_name x_.account))) || (x_.used != (sat_Usage x_.used))) || (decide (x_.share < 0))) || (decide (x_.share > x_.used))) || ((decide ((i : Int) > 0)) && (decide ((ledger_order (l.getD (Int.toNat (w64 ((i : Int) - 1))) Usage.zero) x_) ≥ 0)))) then
      2
    else
      ledger_Check_g1 l r (i + 1)

def ledger_Check (l : List Usage) : Int :=
  bif (decide ((l.length : Int) > 200)) then
    2
  else
    ledger_Check_g1 l l 0

theorem ledger_Check_c (l : List Usage) (hs0 : l.length ≤ 4294967296 ∧ (∀ y ∈ l, y.sz)) : ∀ objs, AGives Tryz.prog 71 [usageL l] objs (I (ledger_Check l)) := by
  generalize hR : ledger_Check l = R
  refine AGives.any' (.cons lw .nil) lx (ACalls.of_cwp (kp 5 [7, 8, 9, 10, 11, 58]) Tryz.func71 rfl rfl ?_)
  have hk0 := hs0
  obtain ⟨z9, z10⟩ : l.length ≤ 4294967296 ∧ (∀ y ∈ l, y.sz) := hs0
  conv => whnf
  refine And.intro (fun h1 => ?_) (fun h2 => ?_)
  · conv => whnf
    have qh1 := of_decide_eq_true h1
    obtain rfl := foll hR (ct h1 rfl)
    exact ret_seen lx sr
  · conv => whnf
    have qh2 := of_decide_eq_false h2
    refine loop_start1 (fun (i : Nat) => ledger_Check_g1 l (List.drop i l) i = R ∧ i ≤ l.length) (fun i => l.length - i) (fun i => [(0, usageL l), (2, I 0), (8, usageL l), (9, I (l.length : Int)), (10, I (i : Int))]) (fun i => []) 0 (wk [] .nil (sl lw (s1 (sl lw (s1 (s1 .nil)))))) ⟨foll hR (cf h2 rfl), by exact omA⟩ ?_
    clear hR
    rintro i ⟨hR, hj⟩
    try dsimp only at hR hj
    conv => whnf
    refine And.intro (fun h3 => ?_) (fun h4 => ?_)
    · have hlt : i < l.length := by have := of_decide_eq_true h3; omega
      rw [drop_getD Usage.zero hlt] at hR
      have hxz : (l.getD i Usage.zero).sz := getD_sz (by first | assumption | grind) (Usage.szz _)
      have hkz := hxz
      obtain ⟨z5, z6⟩ : ((l.getD i Usage.zero).user).size ≤ 4294967296 ∧ ((l.getD i Usage.zero).account).size ≤ 4294967296 := hxz
      conv => whnf
      refine And.intro gkA ?_
      conv => whnf
      refine dchk (by kernel_rfl) ?_
      conv => whnf
      (first | apply u2 | apply u3 | apply u4 | apply ACalls.use); exact ledger_name_c ((l.getD i Usage.zero).user) _
      conv => whnf
      (first | apply u2 | apply u3 | apply u4 | apply ACalls.use); exact ledger_name_c ((l.getD i Usage.zero).account) _
      conv => whnf
      (first | apply u2 | apply u3 | apply u4 | apply ACalls.use); exact sat_Usage_c ((l.getD i Usage.zero).used) _
      conv => whnf
      refine And.intro gkA ?_
      conv => whnf
      (first | apply u2 | apply u3 | apply u4 | apply ACalls.use); exact ledger_order_c (l.getD (Int.toNat (w64 ((i : Int) - 1))) Usage.zero) (l.getD i Usage.zero) szA szA _
      conv => whnf
      repeat ((first | refine And.intro rfl ?_ | refine And.intro (fun _ => rfl) ?_ | refine And.intro (fun _ => ledger_name_c ((l.getD i Usage.zero).user) _) ?_ | refine And.intro (fun _ => ledger_name_c ((l.getD i Usage.zero).account) _) ?_ | refine And.intro (fun _ => sat_Usage_c ((l.getD i Usage.zero).used) _) ?_ | refine And.intro (fun _ => ledger_order_c (l.getD (Int.toNat (w64 ((i : Int) - 1))) Usage.zero) (l.getD i Usage.zero) szA szA _) ?_); conv => whnf)
      refine And.intro (fun h7 => ?_) (fun h8 => ?_)
      · conv => whnf
        obtain rfl := foll hR (ct h7 rfl)
        exact ret_seen lx sr
      · conv => whnf
        exact loop_next1 (i + 1) (wk [] .nil (sl lw (s1 (sl lw (s1 (sv (turn_eq (I_eq (wr omA)) lx) .nil)))))) omA ⟨foll hR (cf h8 rfl), by exact omA⟩
    · rw [drop_none (l := l) (j := i) (by have := of_decide_eq_false h4; omega)] at hR
      conv => whnf
      obtain rfl := foll hR rfl
      exact ret_seen lx sr

-- F muster/table.Same
def table_Same (a : List Job) (b : List Job) : Bool :=
  (slices_EqualFunc_Job a b (fun (y : Job) (y1 : Job) => (bif ((!(shape_Same y.shape y1.shape)) || (!(slices_Equal_Dep y.after y1.after))) then false else ((((((((((((((ByteArray.toList y.name == ByteArray.toList y1.name) && (ByteArray.toList y.user == ByteArray.toList y1.user)) && (ByteArray.toList y.account == ByteArray.toList y1.account)) && (y.id == y1.id)) && (y.prio == y1.prio)) && (y.state == y1.state)) && (y.held == y1.held)) && (y.born == y1.born)) && (y.promise == y1.promise)) && (y.choice == y1.choice)) && (y.start == y1.start)) && (y.limit == y1.limit)) && (y.nodes == y1.nodes)) && (y.used == y1.used)))))

theorem table_Same_c (a : List Job) (b : List Job) (hs0 : a.length ≤ 4294967296 ∧ (∀ y ∈ a, y.sz)) (hs1 : b.length ≤ 4294967296 ∧ (∀ y ∈ b, y.sz)) : ∀ objs, AGives Tryz.prog 54 [jobL a, jobL b] objs (Bo (table_Same a b)) := by
  generalize hR : table_Same a b = R
  refine AGives.any' (.cons lw (.cons lw .nil)) lx (ACalls.of_cwp (kp 5 []) Tryz.func54 rfl rfl ?_)
  have hk0 := hs0
  obtain ⟨z24, z25⟩ : a.length ≤ 4294967296 ∧ (∀ y ∈ a, y.sz) := hs0
  have hk1 := hs1
  obtain ⟨z26, z27⟩ : b.length ≤ 4294967296 ∧ (∀ y ∈ b, y.sz) := hs1
  conv => whnf
  have cl1 : ∀ (y1 : Job) (y2 : Job) (hzy1 : y1.sz) (hzy2 : y2.sz), AMoves Tryz.prog 90 [Job.a y1, Job.a y2] [] 0 (Bo ((fun (y : Job) (y1 : Job) => (bif ((!(shape_Same y.shape y1.shape)) || (!(slices_Equal_Dep y.after y1.after))) then false else ((((((((((((((ByteArray.toList y.name == ByteArray.toList y1.name) && (ByteArray.toList y.user == ByteArray.toList y1.user)) && (ByteArray.toList y.account == ByteArray.toList y1.account)) && (y.id == y1.id)) && (y.prio == y1.prio)) && (y.state == y1.state)) && (y.held == y1.held)) && (y.born == y1.born)) && (y.promise == y1.promise)) && (y.choice == y1.choice)) && (y.start == y1.start)) && (y.limit == y1.limit)) && (y.nodes == y1.nodes)) && (y.used == y1.used)))) y1 y2)) [] := by
    intro y1 y2 hzy1 hzy2
    have hky1 := hzy1
    obtain ⟨z1, z2, z3, z4, z5⟩ : y1.name.size ≤ 4294967296 ∧ y1.user.size ≤ 4294967296 ∧ y1.account.size ≤ 4294967296 ∧ (y1.shape.alts.length ≤ 4294967296) ∧ y1.after.length ≤ 4294967296 := hzy1
    have hky2 := hzy2
    obtain ⟨z6, z7, z8, z9, z10⟩ : y2.name.size ≤ 4294967296 ∧ y2.user.size ≤ 4294967296 ∧ y2.account.size ≤ 4294967296 ∧ (y2.shape.alts.length ≤ 4294967296) ∧ y2.after.length ≤ 4294967296 := hzy2
    have hR : (fun (y : Job) (y1 : Job) => (bif ((!(shape_Same y.shape y1.shape)) || (!(slices_Equal_Dep y.after y1.after))) then false else ((((((((((((((ByteArray.toList y.name == ByteArray.toList y1.name) && (ByteArray.toList y.user == ByteArray.toList y1.user)) && (ByteArray.toList y.account == ByteArray.toList y1.account)) && (y.id == y1.id)) && (y.prio == y1.prio)) && (y.state == y1.state)) && (y.held == y1.held)) && (y.born == y1.born)) && (y.promise == y1.promise)) && (y.choice == y1.choice)) && (y.start == y1.start)) && (y.limit == y1.limit)) && (y.nodes == y1.nodes)) && (y.used == y1.used)))) y1 y2 = (fun (y : Job) (y1 : Job) => (bif ((!(shape_Same y.shape y1.shape)) || (!(slices_Equal_Dep y.after y1.after))) then false else ((((((((((((((ByteArray.toList y.name == ByteArray.toList y1.name) && (ByteArray.toList y.user == ByteArray.toList y1.user)) && (ByteArray.toList y.account == ByteArray.toList y1.account)) && (y.id == y1.id)) && (y.prio == y1.prio)) && (y.state == y1.state)) && (y.held == y1.held)) && (y.born == y1.born)) && (y.promise == y1.promise)) && (y.choice == y1.choice)) && (y.start == y1.start)) && (y.limit == y1.limit)) && (y.nodes == y1.nodes)) && (y.used == y1.used)))) y1 y2 := rfl
    refine AMoves.of_cwp (kp 6 [19]) Tryz.func90 rfl rfl rfl ?_
    conv => whnf
    refine ACalls.use (shape_Same_c y1.shape y2.shape szA szA _) ?_
    conv => whnf
    (first | apply u2 | apply u3 | apply u4 | apply ACalls.use); exact slices_Equal_Dep_c y1.after y2.after szA szA _
    conv => whnf
    refine And.intro (fun h11 => ?_) (fun h12 => ?_)
    · conv => whnf
      refine ret_moves (fun r : Bool => Bo r) (fun _ => []) (leaf := false) (foll hR (ct h11 rfl)) ?_
      exact tt [] .nil t1
    · conv => whnf
      refine ret_moves (fun r : Bool => Bo r) (fun _ => []) (leaf := ((((((((((((((ByteArray.toList y1.name == ByteArray.toList y2.name) && (ByteArray.toList y1.user == ByteArray.toList y2.user)) && (ByteArray.toList y1.account == ByteArray.toList y2.account)) && (y1.id == y2.id)) && (y1.prio == y2.prio)) && (y1.state == y2.state)) && (y1.held == y2.held)) && (y1.born == y2.born)) && (y1.promise == y2.promise)) && (y1.choice == y2.choice)) && (y1.start == y2.start)) && (y1.limit == y2.limit)) && (y1.nodes == y2.nodes)) && (y1.used == y2.used))) (foll hR (cf h12 rfl)) ?_
      exact tt [] .nil t1
  have hof1 : AMoves Tryz.prog 89 [jobL a, jobL b, AVal.fn (.func 90) [] []] [] 0 (Bo (slices_EqualFunc_Job a b (fun (y : Job) (y1 : Job) => (bif ((!(shape_Same y.shape y1.shape)) || (!(slices_Equal_Dep y.after y1.after))) then false else ((((((((((((((ByteArray.toList y.name == ByteArray.toList y1.name) && (ByteArray.toList y.user == ByteArray.toList y1.user)) && (ByteArray.toList y.account == ByteArray.toList y1.account)) && (y.id == y1.id)) && (y.prio == y1.prio)) && (y.state == y1.state)) && (y.held == y1.held)) && (y.born == y1.born)) && (y.promise == y1.promise)) && (y.choice == y1.choice)) && (y.start == y1.start)) && (y.limit == y1.limit)) && (y.nodes == y1.nodes)) && (y.used == y1.used)))))) [] := by
    have hR : slices_EqualFunc_Job a b (fun (y : Job) (y1 : Job) => (bif ((!(shape_Same y.shape y1.shape)) || (!(slices_Equal_Dep y.after y1.after))) then false else ((((((((((((((ByteArray.toList y.name == ByteArray.toList y1.name) && (ByteArray.toList y.user == ByteArray.toList y1.user)) && (ByteArray.toList y.account == ByteArray.toList y1.account)) && (y.id == y1.id)) && (y.prio == y1.prio)) && (y.state == y1.state)) && (y.held == y1.held)) && (y.born == y1.born)) && (y.promise == y1.promise)) && (y.choice == y1.choice)) && (y.start == y1.start)) && (y.limit == y1.limit)) && (y.nodes == y1.nodes)) && (y.used == y1.used)))) = slices_EqualFunc_Job a b (fun (y : Job) (y1 : Job) => (bif ((!(shape_Same y.shape y1.shape)) || (!(slices_Equal_Dep y.after y1.after))) then false else ((((((((((((((ByteArray.toList y.name == ByteArray.toList y1.name) && (ByteArray.toList y.user == ByteArray.toList y1.user)) && (ByteArray.toList y.account == ByteArray.toList y1.account)) && (y.id == y1.id)) && (y.prio == y1.prio)) && (y.state == y1.state)) && (y.held == y1.held)) && (y.born == y1.born)) && (y.promise == y1.promise)) && (y.choice == y1.choice)) && (y.start == y1.start)) && (y.limit == y1.limit)) && (y.nodes == y1.nodes)) && (y.used == y1.used)))) := rfl
    refine AMoves.of_cwp (kp 10 [14, 15, 16, 17, 18, 30]) Tryz.func89 rfl rfl rfl ?_
    conv => whnf
    refine And.intro (fun h13 => ?_) (fun h14 => ?_)
    · conv => whnf
      refine ret_moves (fun r : Bool => Bo r) (fun r : Bool => []) (leaf := false) (foll hR (ct h13 rfl)) ?_
      exact tt [] .nil t1
    · conv => whnf
      refine loop_start1 (fun (i : Nat) => slices_EqualFunc_Job_g1 b (fun (y : Job) (y1 : Job) => (bif ((!(shape_Same y.shape y1.shape)) || (!(slices_Equal_Dep y.after y1.after))) then false else ((((((((((((((ByteArray.toList y.name == ByteArray.toList y1.name) && (ByteArray.toList y.user == ByteArray.toList y1.user)) && (ByteArray.toList y.account == ByteArray.toList y1.account)) && (y.id == y1.id)) && (y.prio == y1.prio)) && (y.state == y1.state)) && (y.held == y1.held)) && (y.born == y1.born)) && (y.promise == y1.promise)) && (y.choice == y1.choice)) && (y.start == y1.start)) && (y.limit == y1.limit)) && (y.nodes == y1.nodes)) && (y.used == y1.used)))) (List.drop i a) i = slices_EqualFunc_Job a b (fun (y : Job) (y1 : Job) => (bif ((!(shape_Same y.shape y1.shape)) || (!(slices_Equal_Dep y.after y1.after))) then false else ((((((((((((((ByteArray.toList y.name == ByteArray.toList y1.name) && (ByteArray.toList y.user == ByteArray.toList y1.user)) && (ByteArray.toList y.account == ByteArray.toList y1.account)) && (y.id == y1.id)) && (y.prio == y1.prio)) && (y.state == y1.state)) && (y.held == y1.held)) && (y.born == y1.born)) && (y.promise == y1.promise)) && (y.choice == y1.choice)) && (y.start == y1.start)) && (y.limit == y1.limit)) && (y.nodes == y1.nodes)) && (y.used == y1.used)))) ∧ i ≤ a.length) (fun i => a.length - i) (fun i => [(1, jobL b), (2, AVal.fn (.func 90) [] []), (6, Bo false), (15, jobL a), (16, I (a.length : Int)), (17, I (i : Int))]) (fun i => []) 0 (wk [] .nil (sl lw (sv (turn_low (Low.fn _ _ _ LowL.nil LowL.nil)) (s1 (sl lw (s1 (s1 .nil))))))) ⟨foll hR (cf h14 rfl), by exact omA⟩ ?_
      clear hR
      rintro i ⟨hR, hj⟩
      try dsimp only at hR hj
      conv => whnf
      refine And.intro (fun h15 => ?_) (fun h16 => ?_)
      · have hlt : i < a.length := by have := of_decide_eq_true h15; omega
        rw [drop_getD Job.zero hlt] at hR
        have hxz : (a.getD i Job.zero).sz := getD_sz (by first | assumption | grind) (Job.szz _)
        have hkz := hxz
        obtain ⟨z17, z18, z19, z20, z21⟩ : ((a.getD i Job.zero).name).size ≤ 4294967296 ∧ ((a.getD i Job.zero).user).size ≤ 4294967296 ∧ ((a.getD i Job.zero).account).size ≤ 4294967296 ∧ ((((a.getD i Job.zero).shape).alts).length ≤ 4294967296) ∧ ((a.getD i Job.zero).after).length ≤ 4294967296 := hxz
        conv => whnf
        refine And.intro gkA ?_
        conv => whnf
        refine And.intro gkA ?_
        conv => whnf
        refine ACalls.use (mv [] (cl1 (a.getD i Job.zero) (b.getD i Job.zero) szA szA) .nil (dl (Job.low _ _) (dl (Job.low _ _) .nil)) .nil rx) ?_
        conv => whnf
        refine And.intro (fun h22 => ?_) (fun h23 => ?_)
        · conv => whnf
          refine ret_moves (fun r : Bool => Bo r) (fun r : Bool => []) (leaf := false) (foll hR (ct h22 rfl)) ?_
          exact tt [] .nil t1
        · conv => whnf
          exact loop_next1 (i + 1) (wk [] .nil (sl lw (sv (turn_low (Low.fn _ _ _ LowL.nil LowL.nil)) (s1 (sl lw (s1 (sv (turn_eq (I_eq (wr omA)) lx) .nil))))))) omA ⟨foll hR (cf h23 rfl), by exact omA⟩
      · rw [drop_none (l := a) (j := i) (by have := of_decide_eq_false h16; omega)] at hR
        conv => whnf
        refine ret_moves (fun r : Bool => Bo r) (fun r : Bool => []) (leaf := true) (foll hR rfl) ?_
        exact tt [] .nil t1
  refine ACalls.use (mv [] (hof1) .nil (dl lw (dl lw (dv (dn_low (Low.fn _ _ _ LowL.nil LowL.nil)) .nil))) .nil rx) ?_
  conv => whnf
  obtain rfl := foll hR rfl
  exact ret_seen lx sr

end Go.Proofs.YtoionleakeemlaaGreatDoor
namespace Go.Proofs.YtoionleakeemlaaGreatDoor
set_option linter.unusedSimpArgs false
set_option linter.unusedVariables false
open Go.Fw

set_option maxRecDepth 20000
set_option maxHeartbeats 4000000
attribute [local irreducible] ACalls AMoves


-- F (*muster/lex.reader).text
def lex_reader_text_g1  : Nat → LexReader → Bool → LexReader × Bool
  | 0, _, _ => (LexReader.zero, false)
  | m + 1, c, c2 =>
    bif ((decide (c.at_ < (c.line.length : Int))) && (lex_reader_text_c1 (c.line.getD (Int.toNat c.at_) 0) c2).1) then
      lex_reader_text_g1 m { c with at_ := (w64 (c.at_ + 1)) } (bif (decide (c.at_ < (c.line.length : Int))) then (lex_reader_text_c1 (c.line.getD (Int.toNat c.at_) 0) c2).2 else c2)
    else
      (c, (bif (decide (c.at_ < (c.line.length : Int))) then (lex_reader_text_c1 (c.line.getD (Int.toNat c.at_) 0) c2).2 else c2))

def lex_reader_text_k1 (r_ : LexReader) (c : LexReader) (c2 : Bool) : Token × LexReader :=
  bif (c.at_ == (c.line.length : Int)) then
    (Token.zero, (lex_reader_fail c r_.at_ 50))
  else
    bif ((c.line.getD (Int.toNat c.at_) 0) != 34) then
      (Token.zero, (lex_reader_fail c c.at_ 40))
    else
      bif ((runes_Unquote (runesBytes (List.drop (Int.toNat r_.at_) (List.take (Int.toNat (w64 (c.at_ + 1))) c.line)))).2 != 0) then
        ((⟨4, (runes_Unquote (runesBytes (List.drop (Int.toNat r_.at_) (List.take (Int.toNat (w64 (c.at_ + 1))) c.line)))).1, 0, 0⟩ : Token), (lex_reader_fail { c with at_ := (w64 (c.at_ + 1)) } r_.at_ ((runes_Unquote (runesBytes (List.drop (Int.toNat r_.at_) (List.take (Int.toNat (w64 (c.at_ + 1))) c.line)))).2)))
      else
        ((⟨4, (runes_Unquote (runesBytes (List.drop (Int.toNat r_.at_) (List.take (Int.toNat (w64 (c.at_ + 1))) c.line)))).1, 0, 0⟩ : Token), { c with at_ := (w64 (c.at_ + 1)) })

def lex_reader_text (r_ : LexReader) : Token × LexReader :=
  lex_reader_text_k1 r_ ((lex_reader_text_g1 ((Int.toNat ((r_.line.length : Int) - r_.at_)) + 1) r_ true).1) ((lex_reader_text_g1 ((Int.toNat ((r_.line.length : Int) - r_.at_)) + 1) r_ true).2)

theorem lex_reader_text_c (r_ : LexReader) (hs0 : r_.sz) (hp0 : 0 ≤ r_.at_ ∧ r_.at_ < (r_.line.length : Int) ∧ r_.line.length ≤ 400) : AMoves Tryz.prog 211 [AVal.ptr 0 0 4 0 0] [(0, AObj.row 206 4 [[runes r_.line, I r_.at_, I r_.bad, I r_.error]])] 1 (Token.a ((lex_reader_text r_).1)) [(0, AObj.row 206 4 [[runes ((lex_reader_text r_).2.line), I ((lex_reader_text r_).2.at_), I ((lex_reader_text r_).2.bad), I ((lex_reader_text r_).2.error)]])] := by
  generalize hR : lex_reader_text r_ = R
  refine AMoves.of_cwp (kp 7 [23, 38, 69]) Tryz.func211 rfl rfl rfl ?_
  have hk0 := hs0
  obtain z9 : r_.line.length ≤ 4294967296 := hs0
  conv => whnf
  refine ACalls.of_cwp (fun _ => true) Tryz.func199 rfl rfl ?_
  conv => whnf
  refine loop_start2 (fun (c : LexReader) (c2 : Bool) => ∃ m, (Int.toNat ((c.line.length : Int) - c.at_)) < m ∧ lex_reader_text_k1 r_ (lex_reader_text_g1 m c c2).1 (lex_reader_text_g1 m c c2).2 = R ∧ 0 ≤ c.at_ ∧ c.at_ ≤ (c.line.length : Int) ∧ c.line.length ≤ 400 ∧ r_.at_ ≤ c.at_ ∧ 0 ≤ r_.at_) (fun c c2 => (Int.toNat ((c.line.length : Int) - c.at_))) (fun c c2 => [(0, AVal.ptr 0 0 4 0 0), (1, AVal.fn (.func 225) [] [AVal.ptr 2 0 1 0 0]), (4, Sg ⟨#[]⟩), (5, I r_.at_)]) (fun c c2 => [(0, AObj.row 206 4 [[runes c.line, I c.at_, I c.bad, I c.error]]), (0, AObj.row 186 4 [[I 0, Sg ⟨#[]⟩, I 0, I 0]]), (0, AObj.row 4 1 [[Bo c2]])]) r_ true (wk [0, 1, 2] (tO rfl (ts LexReader.lo) (tO rfl (ts Token.lo) (tO rfl (ts (l1 LowL.nil)) .nil))) (sv (turn_ptr 0 rfl rfl) (sv (turn_fn .nil (cv (turn_ptr 2 rfl rfl) .nil)) (s1 (s1 .nil))))) ⟨_, Nat.lt_succ_self _, foll hR rfl, by exact exA⟩ ?_
  clear hR
  rintro c c2 ⟨m, hm, hR, hx⟩
  try dsimp only at hR hm hx
  obtain ⟨m, rfl⟩ : ∃ k, m = k + 1 := ⟨m - 1, by omega⟩
  conv => whnf
  refine dchk (by kernel_rfl) ?_
  conv => whnf
  refine And.intro gkA ?_
  conv => whnf
  refine ⟨_, [(0, AObj.row 206 4 [[runes c.line, I c.at_, I c.bad, I c.error]]), (0, AObj.row 186 4 [[I 0, Sg ⟨#[]⟩, I 0, I 0]]), (0, AObj.row 4 1 [[Bo (bif (decide (c.at_ < (c.line.length : Int))) then (lex_reader_text_c1 (c.line.getD (Int.toNat c.at_) 0) c2).2 else c2)]])], fun hg => (by rw [show (decide (c.at_ < (c.line.length : Int))) = true from hg]; exact mv [2] (lex_reader_text_c1_c (c.line.getD (Int.toNat c.at_) 0) c2) (dO (ds (l1 LowL.nil)) .nil) (d1 (dp .nil)) (rO (re (l1 LowL.nil)) .nil) rx), fun hg => (by rw [show (decide (c.at_ < (c.line.length : Int))) = false from hg]; rfl), ?_⟩
  conv => whnf
  repeat ((first | refine And.intro rfl ?_ | refine And.intro (fun _ => rfl) ?_); conv => whnf)
  refine And.intro (fun h1 => ?_) (fun h2 => ?_)
  · conv => whnf
    have hq1 := of_decide_eq_true ((Bool.and_eq_true _ _).mp h1).1; have hwr : w64 (c.at_ + 1) = c.at_ + 1 := wr (by omega)
    exact loop_next2 { c with at_ := (w64 (c.at_ + 1)) } (bif (decide (c.at_ < (c.line.length : Int))) then (lex_reader_text_c1 (c.line.getD (Int.toNat c.at_) 0) c2).2 else c2) (wk [0, 1, 2] (tO rfl (ts LexReader.lo) (tO rfl (ts Token.lo) (tO rfl (ts (l1 LowL.nil)) .nil))) (sv (turn_ptr 0 rfl rfl) (sv (turn_fn .nil (cv (turn_ptr 2 rfl rfl) .nil)) (s1 (s1 .nil))))) omA ⟨m, by exact omA, foll hR (congrArg (fun p : LexReader × Bool => lex_reader_text_k1 r_ p.1 p.2) (ct h1 rfl)), by exact exA⟩
  · conv => whnf
    replace hR : lex_reader_text_k1 r_ c (bif (decide (c.at_ < (c.line.length : Int))) then (lex_reader_text_c1 (c.line.getD (Int.toNat c.at_) 0) c2).2 else c2) = R := fo2 (fun p : LexReader × Bool => lex_reader_text_k1 r_ p.1 p.2) (c, (bif (decide (c.at_ < (c.line.length : Int))) then (lex_reader_text_c1 (c.line.getD (Int.toNat c.at_) 0) c2).2 else c2)) hR (cf h2 rfl)
    refine dchk (by kernel_rfl) ?_
    conv => whnf
    refine And.intro gkA ?_
    conv => whnf
    first | refine ⟨(List.drop (Int.toNat r_.at_) (List.take (Int.toNat c.at_) c.line)), by exact cvA, ?_⟩ | refine ⟨_, fun _ => ⟨(List.drop (Int.toNat r_.at_) (List.take (Int.toNat c.at_) c.line)), by exact cvA, rfl, rfl⟩, ?_⟩ | refine ⟨_, rfl, ⟨(List.drop (Int.toNat r_.at_) (List.take (Int.toNat c.at_) c.line)), by exact cvA, Sub.refl _, rfl⟩, ?_⟩
    conv => whnf
    repeat ((first | refine And.intro rfl ?_ | refine And.intro (fun _ => rfl) ?_); conv => whnf)
    refine ⟨_, _, Told.refl, ?_⟩
    conv => whnf
    refine dchk (by kernel_rfl) ?_
    conv => whnf
    repeat ((first | refine And.intro rfl ?_ | refine And.intro (fun _ => rfl) ?_); conv => whnf)
    refine And.intro (fun h3 => ?_) (fun h4 => ?_)
    · conv => whnf
      refine ACalls.use (mv [0] (lex_reader_fail_c c r_.at_ 50) (dO (ds LexReader.lo) .nil) (dp (d1 (d1 .nil))) (rO (re LexReader.lo) .nil) rx) ?_
      conv => whnf
      obtain rfl := foll hR (ct h3 rfl)
      exact rq (tt [0] (tO rfl (ts LexReader.lo) .nil) (turn_low (Low.agg' (Token.lo))))
    · conv => whnf
      refine dchk (by kernel_rfl) ?_
      conv => whnf
      refine And.intro gkA ?_
      conv => whnf
      repeat ((first | refine And.intro rfl ?_ | refine And.intro (fun _ => rfl) ?_); conv => whnf)
      refine And.intro (fun h5 => ?_) (fun h6 => ?_)
      · conv => whnf
        refine ACalls.use (mv [0] (lex_reader_fail_c c c.at_ 40) (dO (ds LexReader.lo) .nil) (dp (d1 (d1 .nil))) (rO (re LexReader.lo) .nil) rx) ?_
        conv => whnf
        obtain rfl := foll hR (cf h4 (ct h5 rfl))
        exact rq (tt [0] (tO rfl (ts LexReader.lo) .nil) (turn_low (Low.agg' (Token.lo))))
      · conv => whnf
        refine dchk (by kernel_rfl) ?_
        conv => whnf
        refine And.intro gkA ?_
        conv => whnf
        first | refine ⟨(List.drop (Int.toNat r_.at_) (List.take (Int.toNat (w64 (c.at_ + 1))) c.line)), by exact cvA, ?_⟩ | refine ⟨_, fun _ => ⟨(List.drop (Int.toNat r_.at_) (List.take (Int.toNat (w64 (c.at_ + 1))) c.line)), by exact cvA, rfl, rfl⟩, ?_⟩ | refine ⟨_, rfl, ⟨(List.drop (Int.toNat r_.at_) (List.take (Int.toNat (w64 (c.at_ + 1))) c.line)), by exact cvA, Sub.refl _, rfl⟩, ?_⟩
        conv => whnf
        (first | apply u2 | apply u3 | apply u4 | apply ACalls.use); exact runes_Unquote_c (runesBytes (List.drop (Int.toNat r_.at_) (List.take (Int.toNat (w64 (c.at_ + 1))) c.line))) szA (by refine Nat.le_trans (runesBytes_size _) ?_; simp only [List.length_drop, List.length_take]; omega) _
        conv => whnf
        repeat ((first | refine And.intro rfl ?_ | refine And.intro (fun _ => rfl) ?_ | refine And.intro (fun _ => runes_Unquote_c (runesBytes (List.drop (Int.toNat r_.at_) (List.take (Int.toNat (w64 (c.at_ + 1))) c.line))) szA (by refine Nat.le_trans (runesBytes_size _) ?_; simp only [List.length_drop, List.length_take]; omega) _) ?_); conv => whnf)
        refine And.intro (fun h7 => ?_) (fun h8 => ?_)
        · conv => whnf
          refine ACalls.use (mv [0] (lex_reader_fail_c { c with at_ := (w64 (c.at_ + 1)) } r_.at_ ((runes_Unquote (runesBytes (List.drop (Int.toNat r_.at_) (List.take (Int.toNat (w64 (c.at_ + 1))) c.line)))).2)) (dO (ds LexReader.lo) .nil) (dp (d1 (d1 .nil))) (rO (re LexReader.lo) .nil) rx) ?_
          conv => whnf
          obtain rfl := foll hR (cf h4 (cf h6 (ct h7 rfl)))
          exact rq (tt [0] (tO rfl (ts LexReader.lo) .nil) (turn_low (Low.agg' (Token.lo))))
        · conv => whnf
          obtain rfl := foll hR (cf h4 (cf h6 (cf h8 rfl)))
          exact rq (tt [0] (tO rfl (ts LexReader.lo) .nil) (turn_low (Low.agg' (Token.lo))))

-- F muster/shape.Options
def shape_sizes (min max wall : Int) : List Alt := (List.range (max - min + 1).toNat).map fun (i : Nat) => (⟨max - (i : Int), wall⟩ : Alt)

def shape_Options (s : Shape) : List Alt :=
  bif shape_Check s != 0 then [] else bif s.kind == 3 then s.alts ++ shape_sizes s.min s.max s.wall else s.alts

theorem shape_Check_mal {s : Shape} (h : (shape_Check s != 0) = false) (hk : (s.kind == 3) = true) : 1 ≤ s.min ∧ s.min ≤ s.max ∧ s.max ≤ 48 := by
  have hk' : s.kind = 3 := by simpa using hk
  simp only [shape_Check, hk'] at h
  revert h
  cases h2 : (((((s.alts.length : Int) == 0) && (decide (s.min ≤ s.max))) && (shape_fine (⟨s.min, s.wall⟩ : Alt))) && (decide (s.max ≤ 48))) with
  | false => simp [h2, shape_Check_k1]
  | true =>
    intro _
    simp [shape_fine] at h2
    omega

theorem shape_sizes_len (lo hi wall : Int) : ((downFrom hi (hi - lo + 1).toNat).map fun (n : Int) => (⟨n, wall⟩ : Alt)) = shape_sizes lo hi wall := by
  simp [downFrom, shape_sizes, List.map_map, Function.comp_def]

theorem shape_Options_c (s : Shape) (hs0 : s.sz) : ∀ objs, AGives Tryz.prog 65 [Shape.a s] objs (altL (shape_Options s)) := by
  generalize hR : shape_Options s = R
  refine AGives.any' (.cons (Shape.low _ _) .nil) lw (ACalls.of_cwp (kp 4 [7, 13, 18]) Tryz.func65 rfl rfl ?_)
  have hk0 := hs0
  obtain z7 : s.alts.length ≤ 4294967296 := hs0
  conv => whnf
  refine ACalls.use (shape_Check_c s szA _) ?_
  conv => whnf
  refine And.intro (fun h1 => ?_) (fun h2 => ?_)
  · conv => whnf
    obtain rfl := foll hR (ct h1 rfl)
    exact ret_seen lw seen_nil
  · conv => whnf
    refine ACalls.use (mv [] (slices_Clone_Alt_o s.alts szA) .nil (dv (dn_low (Alt.lows _ _)) .nil) (rO rr .nil) (rw_ 1 0 rfl)) ?_
    conv => whnf
    refine And.intro (fun h3 => ?_) (fun h4 => ?_)
    · conv => whnf
      refine ACalls.use (r := .fn (.func 127) [] [.ptr 4 0 1 0 0, .ptr 3 0 1 0 0]) (o := [(0, .row 51 5 [[I s.kind, altL s.alts, I s.min, I s.max, I s.wall]]), (0, .row 56 2 (s.alts.map Alt.cells)), (0, .row 49 1 [[.own 1 0 2 0 s.alts.length]]), (0, .row 3 1 [[I s.min]]), (0, .row 3 1 [[I s.max]])]) (ACalls.of_cwp (fun _ => true) Tryz.func95 rfl rfl ?_) ?_
      · conv => whnf
        exact ⟨_, _, told_same, rfl, rfl⟩
      conv => whnf
      obtain ⟨q1, q2, q3⟩ := shape_Check_mal h2 h3
      refine range_next (α := Int) (fun n => .int .i64 n) (downFrom s.max (s.max - s.min + 1).toNat) (fun xs => [(0, .row 51 5 [[I s.kind, altL s.alts, I s.min, I s.max, I s.wall]]), (0, .row 56 2 ((s.alts ++ xs.map fun (n : Int) => (⟨n, s.wall⟩ : Alt)).map Alt.cells)), (0, .row 49 1 [[.own 1 0 2 0 (s.alts ++ xs.map fun (n : Int) => (⟨n, s.wall⟩ : Alt)).length]]), (0, .row 3 1 [[I s.min]]), (0, .row 3 1 [[I s.max]])])
        (by simp) (by decide) (by decide) rfl rfl rfl rfl ?_ ?_ (by decide) ?_ ?_
      · intro xs q hq _
        simp only [List.mem_cons, List.not_mem_nil, or_false] at hq
        rcases hq with rfl | rfl | rfl | rfl | rfl <;> exact ⟨_, _, _, rfl⟩
      · intro K a w hs
        have hv := rep_fn_ptrs (hs.slot 18)
        obtain ⟨c1, c2⟩ := box_cell (o := 4) hs.mem rfl
        obtain ⟨c3, c4⟩ := box_cell (o := 3) hs.mem rfl
        refine ⟨127, #[.pointer (some ⟨K.ρ 4 0, 0, none⟩), .pointer (some ⟨K.ρ 3 0, 0, none⟩)], ⟨K.ρ 3 0, 0, none⟩, .int .i64 s.min, hv, ?_, c4, ?_, ?_⟩
        · intro args w
          simp [go_sem]
        · intro K1 xs W hs1
          have hv1 := rep_fn_ptrs (hs1.slot 18)
          have e : K1.ρ 3 0 = K.ρ 3 0 := by
            have := hv1.symm.trans hv
            exact (by simpa using this : K1.ρ 4 0 = K.ρ 4 0 ∧ K1.ρ 3 0 = K.ρ 3 0).2
          rw [← e]
          exact (box_cell (o := 3) hs1.mem rfl).1
        · rw [downFrom_length]
          exact sizes_stops 2 (by decide) _ _ s.min s.max w q1 q2 q3 c2 c4 c1 c3
      · intro xs x hlen
        rw [downFrom_length] at hlen
        conv => whnf
        refine Or.inl ?_
        conv => whnf
        refine ⟨app_ok 16 rfl lnA (by simp; omega), ?_⟩
        conv => whnf
        exact wk [0, 1, 2, 3, 4] (tO rfl (ts Shape.lo) (tO rfl (turn_same (by simp only [List.map_append, List.append_assoc]; rfl) (low_map fun _ => Alt.lowc _ _)) (tO rfl (turn_row1 (.cons _ _ _ _ (to 1 (by simp [List.length_append]; omega)) .nil)) (tO rfl (ts (l1 .nil)) (tO rfl (ts (l1 .nil)) .nil)))))
          (sv (turn_fn .nil (.cons _ _ _ _ (turn_ptr 4 rfl rfl) (.cons _ _ _ _ (turn_ptr 3 rfl rfl) .nil))) (s1 (sv (turn_ptr 2 rfl rfl) (s1 (s1 (sv (turn_ptr 0 rfl rfl) (sl (Shape.low _ _) .nil)))))))
      · conv => whnf
        have e : shape_Options s = s.alts ++ (downFrom s.max (s.max - s.min + 1).toNat).map fun (n : Int) => (⟨n, s.wall⟩ : Alt) := by
          rw [shape_sizes_len]
          exact cf h2 (ct h3 rfl)
        obtain rfl := foll hR e
        exact ret_seen lw (seen_list Alt.zero _ rfl rfl rfl)
    · conv => whnf
      obtain rfl := foll hR (cf h2 (cf h4 rfl))
      exact ret_seen lw (seen_list Alt.zero _ rfl eqA lnA)

-- F muster/fleet.where
def fleet_where_g1 (is : Node → Bool) : List Node → List Int → Nat → (List Int)
  | [], out, _ =>
    out
  | x_ :: r, out, i =>
    bif (is x_) then
      fleet_where_g1 is r (out ++ ([(i : Int)] : List Int)) (i + 1)
    else
      fleet_where_g1 is r out (i + 1)

def fleet_where_k1 (out : List Int) : Int :=
  (nodeset_Of out).1

def fleet_where (l : List Node) (is : Node → Bool) : Int :=
  bif ((fleet_Check l) != 0) then
    0
  else
    fleet_where_k1 (fleet_where_g1 is l [] 0)

-- F muster/alloc.Quiet
def alloc_Quiet_g1 (l : List Node) : List Int → Nat → Bool
  | [], _ =>
    true
  | x_ :: r, i =>
    bif ((decide (x_ < (l.length : Int))) && ((l.getD (Int.toNat x_) Node.zero).want == 0)) then
      alloc_Quiet_g1 l r (i + 1)
    else
      false

def alloc_Quiet (l : List Node) (set_ : Int) : Bool :=
  bif ((fleet_Check l) != 0) then
    false
  else
    alloc_Quiet_g1 l (nodeset_List set_) 0

theorem alloc_Quiet_c (l : List Node) (set_ : Int) (hs0 : l.length ≤ 4294967296) : ∀ objs, AGives Tryz.prog 105 [nodeL l, U set_] objs (Bo (alloc_Quiet l set_)) := by
  generalize hR : alloc_Quiet l set_ = R
  refine AGives.any' (.cons lw (l1 .nil)) lx (ACalls.of_cwp (kp 7 [9, 11, 12, 13, 14, 28]) Tryz.func105 rfl rfl ?_)
  have hk0 := hs0
  obtain z7 : l.length ≤ 4294967296 := hs0
  conv => whnf
  refine ACalls.use (fleet_Check_c l szA _) ?_
  conv => whnf
  refine And.intro (fun h1 => ?_) (fun h2 => ?_)
  · conv => whnf
    obtain rfl := foll hR (ct h1 rfl)
    exact ret_seen lx sr
  · conv => whnf
    refine ACalls.use (nodeset_List_c set_ _) ?_
    conv => whnf
    refine loop_start1 (fun (i : Nat) => alloc_Quiet_g1 l (List.drop i (nodeset_List set_)) i = R ∧ i ≤ (nodeset_List set_).length) (fun i => (nodeset_List set_).length - i) (fun i => [(0, nodeL l), (4, Bo false), (11, ints (nodeset_List set_)), (12, I ((nodeset_List set_).length : Int)), (13, I (i : Int))]) (fun i => []) 0 (wk [] .nil (sl lw (s1 (sl lw (s1 (s1 .nil)))))) ⟨foll hR (cf h2 rfl), by exact omA⟩ ?_
    clear hR
    rintro i ⟨hR, hj⟩
    try dsimp only at hR hj
    conv => whnf
    refine And.intro (fun h3 => ?_) (fun h4 => ?_)
    · have hlt : i < (nodeset_List set_).length := by have := of_decide_eq_true h3; omega
      rw [drop_getD 0 hlt] at hR
      have hq := nodeset_List_get set_ hlt; have hq2 := nodeset_List_len set_
      conv => whnf
      refine And.intro gkA ?_
      conv => whnf
      refine And.intro gkA ?_
      conv => whnf
      refine And.intro (fun h5 => ?_) (fun h6 => ?_)
      · conv => whnf
        exact loop_next1 (i + 1) (wk [] .nil (sl lw (s1 (sl lw (s1 (sv (turn_eq (I_eq (wr omA)) lx) .nil)))))) omA ⟨foll hR (ct h5 rfl), by exact omA⟩
      · conv => whnf
        obtain rfl := foll hR (cf h6 rfl)
        exact ret_seen lx sr
    · rw [drop_none (l := (nodeset_List set_)) (j := i) (by have := of_decide_eq_false h4; omega)] at hR
      conv => whnf
      obtain rfl := foll hR rfl
      exact ret_seen lx sr

-- F muster/state.Same
def state_Same (a : State) (b : State) : Bool :=
  bif ((((a.now != b.now) || (a.nextJob != b.nextJob)) || (a.nextBook != b.nextBook)) || (!(slices_Equal_Resize a.resizes b.resizes))) then
    false
  else
    ((((fleet_Same a.nodes b.nodes) && (table_Same a.jobs b.jobs)) && (book_Same a.books b.books)) && (ledger_Same a.ledger b.ledger))

theorem state_Same_c (a : State) (b : State) (hs0 : a.sz) (hs1 : b.sz) : ∀ objs, AGives Tryz.prog 18 [State.a a, State.a b] objs (Bo (state_Same a b)) := by
  generalize hR : state_Same a b = R
  refine AGives.any' (.cons (State.low _ _) (.cons (State.low _ _) .nil)) lx (ACalls.of_cwp (kp 5 [31]) Tryz.func18 rfl rfl ?_)
  have hk0 := hs0
  obtain ⟨z3, z4, z5, z6, z7, z8, z9⟩ : a.nodes.length ≤ 4294967296 ∧ a.jobs.length ≤ 4294967296 ∧ (∀ y ∈ a.jobs, y.sz) ∧ a.resizes.length ≤ 4294967296 ∧ a.books.length ≤ 4294967296 ∧ a.ledger.length ≤ 4294967296 ∧ (∀ y ∈ a.ledger, y.sz) := hs0
  have hk1 := hs1
  obtain ⟨z10, z11, z12, z13, z14, z15, z16⟩ : b.nodes.length ≤ 4294967296 ∧ b.jobs.length ≤ 4294967296 ∧ (∀ y ∈ b.jobs, y.sz) ∧ b.resizes.length ≤ 4294967296 ∧ b.books.length ≤ 4294967296 ∧ b.ledger.length ≤ 4294967296 ∧ (∀ y ∈ b.ledger, y.sz) := hs1
  conv => whnf
  (first | apply u2 | apply u3 | apply u4 | apply ACalls.use); exact slices_Equal_Resize_c a.resizes b.resizes szA szA _
  conv => whnf
  refine And.intro (fun h1 => ?_) (fun h2 => ?_)
  · conv => whnf
    obtain rfl := foll hR (ct h1 rfl)
    exact ret_seen lx sr
  · conv => whnf
    refine ACalls.use (fleet_Same_c a.nodes b.nodes szA szA _) ?_
    conv => whnf
    (first | apply u2 | apply u3 | apply u4 | apply ACalls.use); exact table_Same_c a.jobs b.jobs szA szA _
    conv => whnf
    (first | apply u2 | apply u3 | apply u4 | apply ACalls.use); exact book_Same_c a.books b.books szA szA _
    conv => whnf
    (first | apply u2 | apply u3 | apply u4 | apply ACalls.use); exact ledger_Same_c a.ledger b.ledger szA szA _
    conv => whnf
    obtain rfl := foll hR (cf h2 rfl)
    exact ret_seen lx sr

end Go.Proofs.YtoionleakeemlaaGreatDoor
namespace Go.Proofs.YtoionleakeemlaaGreatDoor
set_option linter.unusedSimpArgs false
set_option linter.unusedVariables false
open Go.Fw

set_option maxRecDepth 20000
set_option maxHeartbeats 4000000
attribute [local irreducible] ACalls AMoves


-- F (*muster/lex.reader).next
def lex_reader_next (r_ : LexReader) : Token × LexReader :=
  bif ((runes_Class (r_.line.getD (Int.toNat r_.at_) 0)) == 2) then
    ((lex_reader_word r_).1, (lex_reader_word r_).2)
  else
    bif ((runes_Class (r_.line.getD (Int.toNat r_.at_) 0)) == 3) then
      ((lex_reader_count r_).1, (lex_reader_count r_).2)
    else
      bif ((r_.line.getD (Int.toNat r_.at_) 0) == 34) then
        ((lex_reader_text r_).1, (lex_reader_text r_).2)
      else
        bif ((decide ((strings_IndexByte ⟨#[61, 58, 44, 45]⟩ (wu8 (r_.line.getD (Int.toNat r_.at_) 0))) ≥ 0)) && (decide ((r_.line.getD (Int.toNat r_.at_) 0) < 128))) then
          ((⟨5, (runeStr (r_.line.getD (Int.toNat r_.at_) 0)), 0, 0⟩ : Token), { r_ with at_ := (w64 (r_.at_ + 1)) })
        else
          bif ((runes_Class (r_.line.getD (Int.toNat r_.at_) 0)) == 0) then
            (Token.zero, (lex_reader_fail r_ r_.at_ 40))
          else
            (Token.zero, (lex_reader_fail r_ r_.at_ 50))

theorem lex_reader_next_c (r_ : LexReader) (hs0 : r_.sz) (hp0 : 0 ≤ r_.at_ ∧ r_.at_ < (r_.line.length : Int) ∧ r_.line.length ≤ 400) : AMoves Tryz.prog 200 [AVal.ptr 0 0 4 0 0] [(0, AObj.row 206 4 [[runes r_.line, I r_.at_, I r_.bad, I r_.error]])] 1 (Token.a ((lex_reader_next r_).1)) [(0, AObj.row 206 4 [[runes ((lex_reader_next r_).2.line), I ((lex_reader_next r_).2.at_), I ((lex_reader_next r_).2.bad), I ((lex_reader_next r_).2.error)]])] := by
  generalize hR : lex_reader_next r_ = R
  refine AMoves.of_cwp (kp 4 [20, 26, 32, 37, 56]) Tryz.func200 rfl rfl rfl ?_
  have hk0 := hs0
  obtain z11 : r_.line.length ≤ 4294967296 := hs0
  conv => whnf
  refine dchk (by kernel_rfl) ?_
  conv => whnf
  refine And.intro gkA ?_
  conv => whnf
  repeat ((first | refine And.intro rfl ?_ | refine And.intro (fun _ => rfl) ?_); conv => whnf)
  refine ACalls.use (runes_Class_c (r_.line.getD (Int.toNat r_.at_) 0) _) ?_
  conv => whnf
  refine And.intro (fun h1 => ?_) (fun h2 => ?_)
  · conv => whnf
    refine ACalls.use (mv [0] (lex_reader_word_c r_ szA ckA) (dO (ds LexReader.lo) .nil) (dp .nil) (rO (re LexReader.lo) .nil) (Ren.low _ (Low.agg' (Token.lo)))) ?_
    conv => whnf
    obtain rfl := foll hR (ct h1 rfl)
    exact rq (tt [0] (tO rfl (ts LexReader.lo) .nil) (turn_low (Low.agg' (Token.lo))))
  · conv => whnf
    refine ACalls.use (runes_Class_c (r_.line.getD (Int.toNat r_.at_) 0) _) ?_
    conv => whnf
    refine And.intro (fun h3 => ?_) (fun h4 => ?_)
    · conv => whnf
      refine ACalls.use (mv [0] (lex_reader_count_c r_ szA ckA) (dO (ds LexReader.lo) .nil) (dp .nil) (rO (re LexReader.lo) .nil) (Ren.low _ (Low.agg' (Token.lo)))) ?_
      conv => whnf
      obtain rfl := foll hR (cf h2 (ct h3 rfl))
      exact rq (tt [0] (tO rfl (ts LexReader.lo) .nil) (turn_low (Low.agg' (Token.lo))))
    · conv => whnf
      refine And.intro (fun h5 => ?_) (fun h6 => ?_)
      · conv => whnf
        refine ACalls.use (mv [0] (lex_reader_text_c r_ szA ckA) (dO (ds LexReader.lo) .nil) (dp .nil) (rO (re LexReader.lo) .nil) (Ren.low _ (Low.agg' (Token.lo)))) ?_
        conv => whnf
        obtain rfl := foll hR (cf h2 (cf h4 (ct h5 rfl)))
        exact rq (tt [0] (tO rfl (ts LexReader.lo) .nil) (turn_low (Low.agg' (Token.lo))))
      · conv => whnf
        refine ACalls.use (strings_IndexByte_c ⟨#[61, 58, 44, 45]⟩ (wu8 (r_.line.getD (Int.toNat r_.at_) 0)) _) ?_
        conv => whnf
        refine And.intro (fun h7 => ?_) (fun h8 => ?_)
        · conv => whnf
          obtain rfl := foll hR (cf h2 (cf h4 (cf h6 (ct h7 rfl))))
          exact rq (tt [0] (tO rfl (ts LexReader.lo) .nil) (turn_low (Low.agg' (Token.lo))))
        · conv => whnf
          refine ACalls.use (runes_Class_c (r_.line.getD (Int.toNat r_.at_) 0) _) ?_
          conv => whnf
          refine And.intro (fun h9 => ?_) (fun h10 => ?_)
          · conv => whnf
            refine ACalls.use (mv [0] (lex_reader_fail_c r_ r_.at_ 40) (dO (ds LexReader.lo) .nil) (dp (d1 (d1 .nil))) (rO (re LexReader.lo) .nil) rx) ?_
            conv => whnf
            obtain rfl := foll hR (cf h2 (cf h4 (cf h6 (cf h8 (ct h9 rfl)))))
            exact rq (tt [0] (tO rfl (ts LexReader.lo) .nil) (turn_low (Low.agg' (Token.lo))))
          · conv => whnf
            refine ACalls.use (mv [0] (lex_reader_fail_c r_ r_.at_ 50) (dO (ds LexReader.lo) .nil) (dp (d1 (d1 .nil))) (rO (re LexReader.lo) .nil) rx) ?_
            conv => whnf
            obtain rfl := foll hR (cf h2 (cf h4 (cf h6 (cf h8 (cf h10 rfl)))))
            exact rq (tt [0] (tO rfl (ts LexReader.lo) .nil) (turn_low (Low.agg' (Token.lo))))

/-- What a reader is behind taking runes. -/
def Adv (a b : LexReader) : Prop := b.line = a.line ∧ a.at_ ≤ b.at_ ∧ b.at_ ≤ (a.line.length : Int) ∧ b.error = a.error ∧ b.bad = a.bad

theorem lex_while_adv (is : Int → Bool) : ∀ (m : Nat) (c : LexReader), 0 ≤ c.at_ → c.at_ ≤ (c.line.length : Int) → c.line.length ≤ 400 → (Int.toNat ((c.line.length : Int) - c.at_)) < m → Adv c (lex_reader_while_g1 is m c)
  | 0, c, _, _, _, h => absurd h (by omega)
  | m + 1, c, h0, h1, h2, h => by
    rw [lex_reader_while_g1]
    cases hc : ((decide (c.at_ < (c.line.length : Int))) && (is (c.line.getD (Int.toNat c.at_) 0))) with
    | false => exact ⟨rfl, Int.le_refl _, h1, rfl, rfl⟩
    | true =>
      have hlt := of_decide_eq_true ((Bool.and_eq_true _ _).mp hc).1
      have hw : w64 (c.at_ + 1) = c.at_ + 1 := wr (by omega)
      rw [hw]
      obtain ⟨a, b, d, e, f⟩ := lex_while_adv is m { c with at_ := c.at_ + 1 } (by dsimp only; omega) (by dsimp only; omega) h2 (by dsimp only; omega)
      dsimp only at a b d e f
      exact ⟨a, by simp only [cond_true]; omega, d, e, f⟩

theorem lex_reader_while_adv (r : LexReader) (is : Int → Bool) (h0 : 0 ≤ r.at_) (h1 : r.at_ ≤ (r.line.length : Int)) (h2 : r.line.length ≤ 400) : Adv r (lex_reader_while r is).2 :=
  lex_while_adv is _ r h0 h1 h2 (Nat.lt_succ_self _)

/-- .. and at least one, if it fits. -/
theorem lex_reader_while_lt (r : LexReader) (is : Int → Bool) (h0 : 0 ≤ r.at_) (h1 : r.at_ < (r.line.length : Int)) (h2 : r.line.length ≤ 400) (h : is (r.line.getD (Int.toNat r.at_) 0) = true) : r.at_ < (lex_reader_while r is).2.at_ := by
  have hw : w64 (r.at_ + 1) = r.at_ + 1 := wr (by omega)
  have e : (lex_reader_while r is).2 = lex_reader_while_g1 is (Int.toNat ((r.line.length : Int) - r.at_)) { r with at_ := r.at_ + 1 } := by
    show lex_reader_while_g1 is ((Int.toNat ((r.line.length : Int) - r.at_)) + 1) r = _
    rw [lex_reader_while_g1, show ((decide (r.at_ < (r.line.length : Int))) && (is (r.line.getD (Int.toNat r.at_) 0))) = true by rw [h, Bool.and_true]; exact decide_eq_true h1, hw]
    rfl
  rw [e]
  have := (lex_while_adv is (Int.toNat ((r.line.length : Int) - r.at_)) { r with at_ := r.at_ + 1 } (by dsimp only; omega) (by dsimp only; omega) h2 (by dsimp only; omega)).2.1
  dsimp only at this
  omega

theorem lex_fail_adv (r : LexReader) (p e : Int) (he : e ≠ 0) : (lex_reader_fail r p e).line = r.line ∧ (lex_reader_fail r p e).at_ = r.at_ ∧ (lex_reader_fail r p e).error ≠ 0 := by
  unfold lex_reader_fail
  cases h : (r.error == 0) with
  | true => exact ⟨rfl, rfl, he⟩
  | false => exact ⟨rfl, rfl, by simpa using h⟩

/-- What a reader is behind a token. -/
def Nxt (a b : LexReader) : Prop := b.line = a.line ∧ a.at_ ≤ b.at_ ∧ b.at_ ≤ (a.line.length : Int) ∧ (b.error ≠ 0 ∨ a.at_ < b.at_)

theorem lex_word_nxt (r : LexReader) (h0 : 0 ≤ r.at_) (h1 : r.at_ < (r.line.length : Int)) (h2 : r.line.length ≤ 400) (hc : ((runes_Class (r.line.getD (Int.toNat r.at_) 0)) == 2) = true) : Nxt r (lex_reader_word r).2 := by
  obtain ⟨a, b, c, _, _⟩ := lex_reader_while_adv r (fun (y : Int) => lex_reader_word_g1 y ([2, 3] : List Int) 0) h0 (by omega) h2
  exact ⟨a, b, c, Or.inr (lex_reader_while_lt r _ h0 h1 h2 (by simp only [lex_reader_word_g1, hc]; rfl))⟩

theorem class_digit (x : Int) (h : (runes_Class x == 3) = true) : 48 ≤ x ∧ x ≤ 57 := by
  unfold runes_Class at h
  revert h
  cases ((x == 9) || (x == 32)) with
  | true => simp
  | false =>
    simp only [cond_false]
    cases (((((decide (x < 32)) || ((decide (x ≥ 127)) && (decide (x ≤ 160)))) || ((decide (x ≥ 55296)) && (decide (x ≤ 57343)))) || (x == 65533)) || (decide (x > 1114111))) with
    | true => simp
    | false =>
      simp only [cond_false]
      cases hd : ((decide (x ≥ 48)) && (decide (x ≤ 57))) with
      | true => intro _; simp at hd; omega
      | false =>
        simp only [cond_false]
        cases ((((decide (x ≥ 97)) && (decide (x ≤ 122))) || ((decide (x ≥ 65)) && (decide (x ≤ 90)))) || (decide (x > 160))) <;> simp

theorem lex_count_nxt (r : LexReader) (h0 : 0 ≤ r.at_) (h1 : r.at_ < (r.line.length : Int)) (h2 : r.line.length ≤ 400) (hc : ((runes_Class (r.line.getD (Int.toNat r.at_) 0)) == 3) = true) : Nxt r (lex_reader_count r).2 := by
  obtain ⟨a, b, c, _, _⟩ := lex_reader_while_adv r (fun (y : Int) => (((decide (y ≥ 48)) && (decide (y ≤ 57))) || ((decide (y ≥ 97)) && (decide (y ≤ 122))))) h0 (by omega) h2
  have hd := class_digit _ hc
  have l := lex_reader_while_lt r (fun (y : Int) => (((decide (y ≥ 48)) && (decide (y ≤ 57))) || ((decide (y ≥ 97)) && (decide (y ≤ 122))))) h0 h1 h2 (by simp only [decide_eq_true hd.1, decide_eq_true hd.2]; rfl)
  unfold lex_reader_count
  cases (!(lex_digits ((lex_reader_while r (fun (y : Int) => (((decide (y ≥ 48)) && (decide (y ≤ 57))) || ((decide (y ≥ 97)) && (decide (y ≤ 122)))))).1))) with
  | true => exact ⟨a, b, c, Or.inr l⟩
  | false =>
    simp only [cond_false]
    cases (!(lex_number ((lex_reader_while r (fun (y : Int) => (((decide (y ≥ 48)) && (decide (y ≤ 57))) || ((decide (y ≥ 97)) && (decide (y ≤ 122)))))).1)).2) with
    | false => exact ⟨a, b, c, Or.inr l⟩
    | true =>
      obtain ⟨f1, f2, f3⟩ := lex_fail_adv (lex_reader_while r (fun (y : Int) => (((decide (y ≥ 48)) && (decide (y ≤ 57))) || ((decide (y ≥ 97)) && (decide (y ≤ 122)))))).2 r.at_ 50 (by decide)
      exact ⟨f1.trans a, by simp only [cond_true]; rw [f2]; exact b, by simp only [cond_true]; rw [f2]; exact c, Or.inl f3⟩

theorem lex_text_adv : ∀ (m : Nat) (c : LexReader) (b : Bool), 0 ≤ c.at_ → c.at_ ≤ (c.line.length : Int) → c.line.length ≤ 400 → (Int.toNat ((c.line.length : Int) - c.at_)) < m → Adv c (lex_reader_text_g1 m c b).1
  | 0, c, _, _, _, _, h => absurd h (by omega)
  | m + 1, c, b, h0, h1, h2, h => by
    rw [lex_reader_text_g1]
    cases hc : ((decide (c.at_ < (c.line.length : Int))) && (lex_reader_text_c1 (c.line.getD (Int.toNat c.at_) 0) b).1) with
    | false => exact ⟨rfl, Int.le_refl _, h1, rfl, rfl⟩
    | true =>
      have hlt := of_decide_eq_true ((Bool.and_eq_true _ _).mp hc).1
      have hw : w64 (c.at_ + 1) = c.at_ + 1 := wr (by omega)
      rw [hw]
      obtain ⟨a, b, d, e, f⟩ := lex_text_adv m { c with at_ := c.at_ + 1 } _ (by dsimp only; omega) (by dsimp only; omega) h2 (by dsimp only; omega)
      dsimp only at a b d e f
      exact ⟨a, by simp only [cond_true]; omega, d, e, f⟩

theorem lex_text_nxt (r : LexReader) (h0 : 0 ≤ r.at_) (h1 : r.at_ < (r.line.length : Int)) (h2 : r.line.length ≤ 400) : Nxt r (lex_reader_text r).2 := by
  obtain ⟨a, b, c, _, _⟩ := lex_text_adv _ r true h0 (by omega) h2 (Nat.lt_succ_self _)
  unfold lex_reader_text
  generalize (lex_reader_text_g1 ((Int.toNat ((r.line.length : Int) - r.at_)) + 1) r true).1 = q at a b c
  unfold lex_reader_text_k1
  have ff : ∀ (x : LexReader) (p e : Int), e ≠ 0 → x.line = r.line → r.at_ ≤ x.at_ → x.at_ ≤ (r.line.length : Int) → Nxt r (lex_reader_fail x p e) := by
    intro x p e he hx hp hq
    obtain ⟨f1, f2, f3⟩ := lex_fail_adv x p e he
    exact ⟨f1.trans hx, by rw [f2]; exact hp, by rw [f2]; exact hq, Or.inl f3⟩
  cases h3 : (q.at_ == (q.line.length : Int)) with
  | true => exact ff q _ _ (by decide) a b c
  | false =>
    simp only [cond_false]
    have h3' : q.at_ ≠ (r.line.length : Int) := by rw [a] at h3; simpa using h3
    have hw : w64 (q.at_ + 1) = q.at_ + 1 := wr (by omega)
    cases ((q.line.getD (Int.toNat q.at_) 0) != 34) with
    | true => exact ff q _ _ (by decide) a b c
    | false =>
      simp only [cond_false]
      rw [hw]
      cases h4 : ((runes_Unquote (runesBytes (List.drop (Int.toNat r.at_) (List.take (Int.toNat (q.at_ + 1)) q.line)))).2 != 0) with
      | true => exact ff { q with at_ := q.at_ + 1 } _ _ (by simpa using h4) a (by show r.at_ ≤ q.at_ + 1; omega) (by show q.at_ + 1 ≤ _; omega)
      | false => exact ⟨a, by show r.at_ ≤ q.at_ + 1; omega, by show q.at_ + 1 ≤ _; omega, Or.inr (by show r.at_ < q.at_ + 1; omega)⟩

theorem lex_next_nxt (r : LexReader) (h0 : 0 ≤ r.at_) (h1 : r.at_ < (r.line.length : Int)) (h2 : r.line.length ≤ 400) : Nxt r (lex_reader_next r).2 := by
  have hw : w64 (r.at_ + 1) = r.at_ + 1 := wr (by omega)
  have ff : ∀ (e : Int), e ≠ 0 → Nxt r (lex_reader_fail r r.at_ e) := by
    intro e he
    obtain ⟨f1, f2, f3⟩ := lex_fail_adv r r.at_ e he
    exact ⟨f1, by rw [f2]; exact Int.le_refl _, by rw [f2]; omega, Or.inl f3⟩
  unfold lex_reader_next
  cases hc : ((runes_Class (r.line.getD (Int.toNat r.at_) 0)) == 2) with
  | true => exact lex_word_nxt r h0 h1 h2 hc
  | false =>
    simp only [cond_false]
    cases hd : ((runes_Class (r.line.getD (Int.toNat r.at_) 0)) == 3) with
    | true => exact lex_count_nxt r h0 h1 h2 hd
    | false =>
      simp only [cond_false]
      cases ((r.line.getD (Int.toNat r.at_) 0) == 34) with
      | true => exact lex_text_nxt r h0 h1 h2
      | false =>
        simp only [cond_false]
        cases ((decide ((strings_IndexByte ⟨#[61, 58, 44, 45]⟩ (wu8 (r.line.getD (Int.toNat r.at_) 0))) ≥ 0)) && (decide ((r.line.getD (Int.toNat r.at_) 0) < 128))) with
        | true => rw [hw]; exact ⟨rfl, by show r.at_ ≤ r.at_ + 1; omega, by show r.at_ + 1 ≤ _; omega, Or.inr (by show r.at_ < r.at_ + 1; omega)⟩
        | false =>
          simp only [cond_false]
          cases ((runes_Class (r.line.getD (Int.toNat r.at_) 0)) == 0) with
          | true => exact ff 40 (by decide)
          | false => exact ff 50 (by decide)

/-- A round of the reader: blanks, then a token. -/
theorem lex_round (r c : LexReader) (b : Int → Bool) (h0 : 0 ≤ r.at_) (h1 : r.at_ ≤ (r.line.length : Int)) (h2 : r.line.length ≤ 400) (he : (r.error == 0) = true) (e : c = (lex_reader_while r b).2) (hn : (c.at_ == (c.line.length : Int)) = false) :
    (0 ≤ c.at_ ∧ c.at_ < (c.line.length : Int) ∧ c.line.length ≤ 400) ∧ (0 ≤ (lex_reader_next c).2.at_ ∧ (lex_reader_next c).2.at_ ≤ ((lex_reader_next c).2.line.length : Int) ∧ (lex_reader_next c).2.line.length ≤ 400) ∧
    2 * Int.toNat (((lex_reader_next c).2.line.length : Int) - (lex_reader_next c).2.at_) + (bif (lex_reader_next c).2.error == 0 then 1 else 0) < 2 * Int.toNat ((r.line.length : Int) - r.at_) + (bif r.error == 0 then 1 else 0) ∧
    (((lex_reader_next c).2.error == 0) = true → r.at_ + 1 ≤ (lex_reader_next c).2.at_) := by
  obtain ⟨a1, a2, a3, a4, a5⟩ := lex_reader_while_adv r b h0 h1 h2
  rw [← e] at a1 a2 a3 a4 a5
  have hn' : c.at_ ≠ (r.line.length : Int) := by rw [a1] at hn; simpa using hn
  have hc : 0 ≤ c.at_ ∧ c.at_ < (c.line.length : Int) ∧ c.line.length ≤ 400 := by rw [a1]; omega
  obtain ⟨n1, n2, n3, n4⟩ := lex_next_nxt c hc.1 hc.2.1 hc.2.2
  rw [he]
  rw [a1] at n1 n3
  refine ⟨hc, by rw [n1]; omega, ?_⟩
  rw [n1]
  rcases n4 with n4 | n4
  · have : ((lex_reader_next c).2.error == 0) = false := by simpa using n4
    rw [this]
    simp only [cond_true, cond_false]
    exact ⟨by omega, fun h => nomatch h⟩
  · refine ⟨?_, fun _ => by omega⟩
    cases ((lex_reader_next c).2.error == 0) <;> simp only [cond_true, cond_false] <;> omega


-- F (muster/job.view).option
def job_view_option (v : Job) (choice : Int) : Alt × Bool :=
  bif ((decide (choice < 0)) || (decide (choice ≥ ((shape_Options v.shape).length : Int)))) then
    (Alt.zero, false)
  else
    (((shape_Options v.shape).getD (Int.toNat choice) Alt.zero), true)

theorem job_view_option_c (v : Job) (choice : Int) (hs0 : v.sz) : ∀ objs, AGives Tryz.prog 161 [Job.a v, I choice] objs (AVal.tup [Alt.a ((job_view_option v choice).1), Bo ((job_view_option v choice).2)]) := by
  generalize hR : job_view_option v choice = R
  refine AGives.any' (.cons (Job.low _ _) (l1 .nil)) (Low.tup' (.cons (Alt.low _ _) (l1 .nil))) (ACalls.of_cwp (kp 7 [18]) Tryz.func161 rfl rfl ?_)
  have hk0 := hs0
  obtain ⟨z3, z4, z5, z6, z7⟩ : v.name.size ≤ 4294967296 ∧ v.user.size ≤ 4294967296 ∧ v.account.size ≤ 4294967296 ∧ (v.shape.alts.length ≤ 4294967296) ∧ v.after.length ≤ 4294967296 := hs0
  conv => whnf
  refine ACalls.use (shape_Options_c v.shape szA _) ?_
  conv => whnf
  refine And.intro (fun h1 => ?_) (fun h2 => ?_)
  · conv => whnf
    obtain rfl := foll hR (ct h1 rfl)
    exact ret_seen (Low.tup' (.cons (Alt.low _ _) (l1 .nil))) (Seen.tup (e1 (e1 .nil)))
  · conv => whnf
    refine And.intro gkA ?_
    conv => whnf
    obtain rfl := foll hR (cf h2 rfl)
    exact ret_seen (Low.tup' (.cons (Alt.low _ _) (l1 .nil))) (Seen.tup (e1 (e1 .nil)))

-- F muster/shape.Allows
def shape_Allows (s : Shape) (choice : Int) (n : Int) : Bool :=
  bif ((decide (choice < 0)) || (decide (choice ≥ ((shape_Options s).length : Int)))) then
    false
  else
    bif (s.kind == 3) then
      ((decide (n ≥ s.min)) && (decide (n ≤ s.max)))
    else
      (((shape_Options s).getD (Int.toNat choice) Alt.zero).nodes == n)

theorem shape_Allows_c (s : Shape) (choice : Int) (n : Int) (hs0 : s.sz) : ∀ objs, AGives Tryz.prog 21 [Shape.a s, I choice, I n] objs (Bo (shape_Allows s choice n)) := by
  generalize hR : shape_Allows s choice n = R
  refine AGives.any' (.cons (Shape.low _ _) (l1 (l1 .nil))) lx (ACalls.of_cwp (kp 8 [17, 20]) Tryz.func21 rfl rfl ?_)
  have hk0 := hs0
  obtain z5 : s.alts.length ≤ 4294967296 := hs0
  conv => whnf
  refine ACalls.use (shape_Options_c s szA _) ?_
  conv => whnf
  refine And.intro (fun h1 => ?_) (fun h2 => ?_)
  · conv => whnf
    obtain rfl := foll hR (ct h1 rfl)
    exact ret_seen lx sr
  · conv => whnf
    refine And.intro (fun h3 => ?_) (fun h4 => ?_)
    · conv => whnf
      obtain rfl := foll hR (cf h2 (ct h3 rfl))
      exact ret_seen lx sr
    · conv => whnf
      refine And.intro gkA ?_
      conv => whnf
      obtain rfl := foll hR (cf h2 (cf h4 rfl))
      exact ret_seen lx sr

-- F muster/fleet.Of
def fleet_Of (l : List Node) (job : Int) (state : Int) : Int :=
  (fleet_where l (fun (y : Node) => ((y.job == job) && (y.state == state))))

theorem fleet_Of_c (l : List Node) (job : Int) (state : Int) (hs0 : l.length ≤ 4294967296) : ∀ objs, AGives Tryz.prog 74 [nodeL l, I job, I state] objs (U (fleet_Of l job state)) := by
  generalize hR : fleet_Of l job state = R
  refine AGives.any' (.cons lw (l1 (l1 .nil))) lx (ACalls.of_cwp (kp 7 []) Tryz.func74 rfl rfl ?_)
  have hk0 := hs0
  obtain z7 : l.length ≤ 4294967296 := hs0
  conv => whnf
  have cl1 : ∀ (y1 : Node), AMoves Tryz.prog 106 [Node.a y1, AVal.ptr 0 0 1 0 0, AVal.ptr 1 0 1 0 0] [(0, AObj.row 3 1 [[I job]]), (0, AObj.row 3 1 [[I state]])] 2 (Bo ((fun (y : Node) => ((y.job == job) && (y.state == state))) y1)) [(0, AObj.row 3 1 [[I job]]), (0, AObj.row 3 1 [[I state]])] := by
    intro y1
    have hR : (fun (y : Node) => ((y.job == job) && (y.state == state))) y1 = (fun (y : Node) => ((y.job == job) && (y.state == state))) y1 := rfl
    refine AMoves.of_cwp (kp 5 []) Tryz.func106 rfl rfl rfl ?_
    conv => whnf
    refine ret_moves (fun r : Bool => Bo r) (fun _ => [(0, AObj.row 3 1 [[I job]]), (0, AObj.row 3 1 [[I state]])]) (leaf := ((y1.job == job) && (y1.state == state))) (foll hR rfl) ?_
    exact tt [0, 1] (tO rfl (ts (l1 LowL.nil)) (tO rfl (ts (l1 LowL.nil)) .nil)) t1
  have hof1 : AMoves Tryz.prog 67 [nodeL l, AVal.fn (.func 106) [] [AVal.ptr 0 0 1 0 0, AVal.ptr 1 0 1 0 0]] [(0, AObj.row 3 1 [[I job]]), (0, AObj.row 3 1 [[I state]])] 2 (U (fleet_where l (fun (y : Node) => ((y.job == job) && (y.state == state))))) [(0, AObj.row 3 1 [[I job]]), (0, AObj.row 3 1 [[I state]])] := by
    have hR : fleet_where l (fun (y : Node) => ((y.job == job) && (y.state == state))) = fleet_where l (fun (y : Node) => ((y.job == job) && (y.state == state))) := rfl
    refine AMoves.of_cwp (kp 10 [12, 13, 14, 15, 16, 22]) Tryz.func67 rfl rfl rfl ?_
    conv => whnf
    refine ACalls.use (fleet_Check_c l szA _) ?_
    conv => whnf
    refine And.intro (fun h1 => ?_) (fun h2 => ?_)
    · conv => whnf
      refine ret_moves (fun r : Int => U r) (fun r : Int => [(0, AObj.row 3 1 [[I job]]), (0, AObj.row 3 1 [[I state]])]) (leaf := 0) (foll hR (ct h1 rfl)) ?_
      exact tt [0, 1] (tO rfl (ts (l1 LowL.nil)) (tO rfl (ts (l1 LowL.nil)) .nil)) t1
    · conv => whnf
      refine loop_start2 (fun (out : List Int) (i : Nat) => fleet_where_k1 (fleet_where_g1 (fun (y : Node) => ((y.job == job) && (y.state == state))) (List.drop i l) out i) = fleet_where l (fun (y : Node) => ((y.job == job) && (y.state == state))) ∧ i ≤ l.length ∧ out.length ≤ i) (fun out i => l.length - i) (fun out i => [(1, AVal.fn (.func 106) [] [AVal.ptr 0 0 1 0 0, AVal.ptr 1 0 1 0 0]), (4, U 0), (5, AVal.own 2 0 1 0 out.length), (13, nodeL l), (14, I (l.length : Int)), (15, I (i : Int))]) (fun out i => [(0, AObj.row 3 1 [[I job]]), (0, AObj.row 3 1 [[I state]]), (0, AObj.row 3 1 (out.map (fun q_ => [I q_])))]) [] 0 ((weaker_none 3 1).trans (wk [0, 1, 2] (tO rfl (ts (l1 LowL.nil)) (tO rfl (ts (l1 LowL.nil)) (tO rfl (tl eqA) .nil))) (sv (turn_fn .nil (cv (turn_ptr 0 rfl rfl) (cv (turn_ptr 1 rfl rfl) .nil))) (s1 (sv (turn_nilown 2 rfl) (sl lw (s1 (s1 .nil)))))))) ⟨foll hR (cf h2 rfl), by exact omA, by exact exA⟩ ?_
      clear hR
      rintro out i ⟨hR, hj, hx⟩
      try dsimp only at hR hj hx
      conv => whnf
      refine And.intro (fun h3 => ?_) (fun h4 => ?_)
      · have hlt : i < l.length := by have := of_decide_eq_true h3; omega
        rw [drop_getD Node.zero hlt] at hR
        conv => whnf
        refine And.intro gkA ?_
        conv => whnf
        refine ACalls.use (mv [0, 1] (cl1 (l.getD i Node.zero)) (dO (ds (l1 LowL.nil)) (dO (ds (l1 LowL.nil)) .nil)) (dl (Node.low _ _) (dp (dp .nil))) (rO (re (l1 LowL.nil)) (rO (re (l1 LowL.nil)) .nil)) rx) ?_
        conv => whnf
        refine And.intro (fun h5 => ?_) (fun h6 => ?_)
        · conv => whnf
          refine Or.inl ?_
          conv => whnf
          first | refine ⟨app_ok 8 rfl lnA (by first | (simp; omega) | grind), ?_⟩ | refine ⟨app_nil 8 rfl (by first | (simp; omega) | grind), ?_⟩
          conv => whnf
          exact loop_next2 (out ++ ([(i : Int)] : List Int)) (i + 1) (wk [0, 1, 2] (tO rfl (ts (l1 LowL.nil)) (tO rfl (ts (l1 LowL.nil)) (tO rfl (tl eqA) .nil))) (sv (turn_fn .nil (cv (turn_ptr 0 rfl rfl) (cv (turn_ptr 1 rfl rfl) .nil))) (s1 (sv (to 2 lnA) (sl lw (s1 (sv (turn_eq (I_eq (wr omA)) lx) .nil))))))) omA ⟨foll hR (congrArg (fun p : (List Int) => fleet_where_k1 p) (ct h5 rfl)), by exact omA, by exact exA⟩
        · conv => whnf
          exact loop_next2 out (i + 1) (wk [0, 1, 2] (tO rfl (ts (l1 LowL.nil)) (tO rfl (ts (l1 LowL.nil)) (tO rfl (tl eqA) .nil))) (sv (turn_fn .nil (cv (turn_ptr 0 rfl rfl) (cv (turn_ptr 1 rfl rfl) .nil))) (s1 (sv (to 2 lnA) (sl lw (s1 (sv (turn_eq (I_eq (wr omA)) lx) .nil))))))) omA ⟨foll hR (congrArg (fun p : (List Int) => fleet_where_k1 p) (cf h6 rfl)), by exact omA, by exact exA⟩
      · rw [drop_none (l := l) (j := i) (by have := of_decide_eq_false h4; omega)] at hR
        conv => whnf
        replace hR : fleet_where_k1 out = fleet_where l (fun (y : Node) => ((y.job == job) && (y.state == state))) := fo2 (fun p : (List Int) => fleet_where_k1 p) (out) hR rfl
        refine ACalls.use (AGives.lent (nodeset_Of_c out szA []) (ev (seen_list _ _ rfl eqA lnA) .nil) (.cons lw .nil) (bare2_sound rfl)) ?_
        conv => whnf
        refine ret_moves (fun r : Int => U r) (fun r : Int => [(0, AObj.row 3 1 [[I job]]), (0, AObj.row 3 1 [[I state]])]) (leaf := (nodeset_Of out).1) (foll hR rfl) ?_
        exact tt [0, 1] (tO rfl (ts (l1 LowL.nil)) (tO rfl (ts (l1 LowL.nil)) .nil)) t1
  refine ACalls.use (mv [0, 1] (hof1) (dO (ds (l1 LowL.nil)) (dO (ds (l1 LowL.nil)) .nil)) (dl lw (dv (dn_fn .nil (dp (dp .nil))) .nil)) (rO (re (l1 LowL.nil)) (rO (re (l1 LowL.nil)) .nil)) rx) ?_
  conv => whnf
  obtain rfl := foll hR rfl
  exact ret_seen lx sr

-- F muster/fleet.Free
def fleet_Free (l : List Node) : Int :=
  (fleet_where l (fun (y : Node) => ((y.state == 0) && (!y.drain))))

theorem fleet_Free_c (l : List Node) (hs0 : l.length ≤ 4294967296) : ∀ objs, AGives Tryz.prog 23 [nodeL l] objs (U (fleet_Free l)) := by
  generalize hR : fleet_Free l = R
  refine AGives.any' (.cons lw .nil) lx (ACalls.of_cwp (kp 3 []) Tryz.func23 rfl rfl ?_)
  have hk0 := hs0
  obtain z7 : l.length ≤ 4294967296 := hs0
  conv => whnf
  have cl1 : ∀ (y1 : Node), AMoves Tryz.prog 68 [Node.a y1] [] 0 (Bo ((fun (y : Node) => ((y.state == 0) && (!y.drain))) y1)) [] := by
    intro y1
    have hR : (fun (y : Node) => ((y.state == 0) && (!y.drain))) y1 = (fun (y : Node) => ((y.state == 0) && (!y.drain))) y1 := rfl
    refine AMoves.of_cwp (kp 3 []) Tryz.func68 rfl rfl rfl ?_
    conv => whnf
    refine ret_moves (fun r : Bool => Bo r) (fun _ => []) (leaf := ((y1.state == 0) && (!y1.drain))) (foll hR rfl) ?_
    exact tt [] .nil t1
  have hof1 : AMoves Tryz.prog 67 [nodeL l, AVal.fn (.func 68) [] []] [] 0 (U (fleet_where l (fun (y : Node) => ((y.state == 0) && (!y.drain))))) [] := by
    have hR : fleet_where l (fun (y : Node) => ((y.state == 0) && (!y.drain))) = fleet_where l (fun (y : Node) => ((y.state == 0) && (!y.drain))) := rfl
    refine AMoves.of_cwp (kp 10 [12, 13, 14, 15, 16, 22]) Tryz.func67 rfl rfl rfl ?_
    conv => whnf
    refine ACalls.use (fleet_Check_c l szA _) ?_
    conv => whnf
    refine And.intro (fun h1 => ?_) (fun h2 => ?_)
    · conv => whnf
      refine ret_moves (fun r : Int => U r) (fun r : Int => []) (leaf := 0) (foll hR (ct h1 rfl)) ?_
      exact tt [] .nil t1
    · conv => whnf
      refine loop_start2 (fun (out : List Int) (i : Nat) => fleet_where_k1 (fleet_where_g1 (fun (y : Node) => ((y.state == 0) && (!y.drain))) (List.drop i l) out i) = fleet_where l (fun (y : Node) => ((y.state == 0) && (!y.drain))) ∧ i ≤ l.length ∧ out.length ≤ i) (fun out i => l.length - i) (fun out i => [(1, AVal.fn (.func 68) [] []), (4, U 0), (5, AVal.own 0 0 1 0 out.length), (13, nodeL l), (14, I (l.length : Int)), (15, I (i : Int))]) (fun out i => [(0, AObj.row 3 1 (out.map (fun q_ => [I q_])))]) [] 0 ((weaker_none 3 1).trans (wk [0] (tO rfl (tl eqA) .nil) (sv (turn_low (Low.fn _ _ _ LowL.nil LowL.nil)) (s1 (sv (turn_nilown 0 rfl) (sl lw (s1 (s1 .nil)))))))) ⟨foll hR (cf h2 rfl), by exact omA, by exact exA⟩ ?_
      clear hR
      rintro out i ⟨hR, hj, hx⟩
      try dsimp only at hR hj hx
      conv => whnf
      refine And.intro (fun h3 => ?_) (fun h4 => ?_)
      · have hlt : i < l.length := by have := of_decide_eq_true h3; omega
        rw [drop_getD Node.zero hlt] at hR
        conv => whnf
        refine And.intro gkA ?_
        conv => whnf
        refine ACalls.use (mv [] (cl1 (l.getD i Node.zero)) .nil (dl (Node.low _ _) .nil) .nil rx) ?_
        conv => whnf
        refine And.intro (fun h5 => ?_) (fun h6 => ?_)
        · conv => whnf
          refine Or.inl ?_
          conv => whnf
          first | refine ⟨app_ok 8 rfl lnA (by first | (simp; omega) | grind), ?_⟩ | refine ⟨app_nil 8 rfl (by first | (simp; omega) | grind), ?_⟩
          conv => whnf
          exact loop_next2 (out ++ ([(i : Int)] : List Int)) (i + 1) (wk [0] (tO rfl (tl eqA) .nil) (sv (turn_low (Low.fn _ _ _ LowL.nil LowL.nil)) (s1 (sv (to 0 lnA) (sl lw (s1 (sv (turn_eq (I_eq (wr omA)) lx) .nil))))))) omA ⟨foll hR (congrArg (fun p : (List Int) => fleet_where_k1 p) (ct h5 rfl)), by exact omA, by exact exA⟩
        · conv => whnf
          exact loop_next2 out (i + 1) (wk [0] (tO rfl (tl eqA) .nil) (sv (turn_low (Low.fn _ _ _ LowL.nil LowL.nil)) (s1 (sv (to 0 lnA) (sl lw (s1 (sv (turn_eq (I_eq (wr omA)) lx) .nil))))))) omA ⟨foll hR (congrArg (fun p : (List Int) => fleet_where_k1 p) (cf h6 rfl)), by exact omA, by exact exA⟩
      · rw [drop_none (l := l) (j := i) (by have := of_decide_eq_false h4; omega)] at hR
        conv => whnf
        replace hR : fleet_where_k1 out = fleet_where l (fun (y : Node) => ((y.state == 0) && (!y.drain))) := fo2 (fun p : (List Int) => fleet_where_k1 p) (out) hR rfl
        refine ACalls.use (AGives.lent (nodeset_Of_c out szA []) (ev (seen_list _ _ rfl eqA lnA) .nil) (.cons lw .nil) (bare2_sound rfl)) ?_
        conv => whnf
        refine ret_moves (fun r : Int => U r) (fun r : Int => []) (leaf := (nodeset_Of out).1) (foll hR rfl) ?_
        exact tt [] .nil t1
  refine ACalls.use (mv [] (hof1) .nil (dl lw (dv (dn_low (Low.fn _ _ _ LowL.nil LowL.nil)) .nil)) .nil rx) ?_
  conv => whnf
  obtain rfl := foll hR rfl
  exact ret_seen lx sr

end Go.Proofs.YtoionleakeemlaaGreatDoor
