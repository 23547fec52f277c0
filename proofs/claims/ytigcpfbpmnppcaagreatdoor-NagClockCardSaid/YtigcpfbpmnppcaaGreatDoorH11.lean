/-
  Contracts of functions, printed by a program of this repo (wip/dec). No condition beyond those that stand in each.
-/
import Derived.Test.YtigcpfbpmnppcaaGreatDoorH10
import Derived.Test.YtigcpfbpmnppcaaGreatDoorProg
namespace Go.Proofs.YtigcpfbpmnppcaaGreatDoor
set_option linter.unusedSimpArgs false
set_option linter.unusedVariables false
open Go.Fw
set_option maxRecDepth 20000
set_option maxHeartbeats 4000000
attribute [local irreducible] ACalls AMoves
def lex_reader_next (r_ : LexReader) : Token × LexReader := bif ((runes_Class (r_.line.getD (Int.toNat r_.at_) 0)) == 2) then ((lex_reader_word r_).1, (lex_reader_word r_).2) else bif ((runes_Class (r_.line.getD (Int.toNat r_.at_) 0)) == 3) then ((lex_reader_count r_).1, (lex_reader_count r_).2) else bif ((r_.line.getD (Int.toNat r_.at_) 0) == 34) then ((lex_reader_text r_).1, (lex_reader_text r_).2) else bif ((decide ((strings_IndexByte ⟨#[61, 58, 44, 45]⟩ (wu8 (r_.line.getD (Int.toNat r_.at_) 0))) >= 0)) && (decide ((r_.line.getD (Int.toNat r_.at_) 0) < 128))) then ((⟨5, (runeStr (r_.line.getD (Int.toNat r_.at_) 0)), 0, 0⟩ : Token), { r_ with at_ := (w64 (r_.at_ + 1)) }) else bif ((runes_Class (r_.line.getD (Int.toNat r_.at_) 0)) == 0) then (Token.zero, (lex_reader_fail r_ r_.at_ 40)) else (Token.zero, (lex_reader_fail r_ r_.at_ 50))
theorem lex_reader_next_c (r_ : LexReader) (hs0 : r_.sz) (hp0 : 0 <= r_.at_ ∧ r_.at_ < (r_.line.length : Int) ∧ r_.line.length <= 400) : AMoves Tryz.prog 238 [AVal.ptr 0 0 4 0 0] [(0, AObj.row 235 4 [[runes r_.line, I r_.at_, I r_.bad, I r_.error]])] 1 (Token.a ((lex_reader_next r_).1)) [(0, AObj.row 235 4 [[runes ((lex_reader_next r_).2.line), I ((lex_reader_next r_).2.at_), I ((lex_reader_next r_).2.bad), I ((lex_reader_next r_).2.error)]])] := by
 generalize hR : lex_reader_next r_ = R; refine mo (kp 4 [20, 26, 32, 37, 56]) Tryz.func238 ?_; have hk0 := hs0; obtain z11 : r_.line.length <= 4294967296 := hs0; refine dchk (by kernel_rfl) ?_; refine ai gkA ?_; (repeat ((first | refine ai rfl ?_ | refine ai (fun _ => rfl) ?_))); refine us (runes_Class_c (r_.line.getD (Int.toNat r_.at_) 0) _) ?_; refine ai (fun h1 => ?_) (fun h2 => ?_)
 ·refine us (mv [0] (lex_reader_word_c r_ szA ckA) (dO (ds LexReader.lo) .nil) (dp .nil) (rO (re LexReader.lo) .nil) (Ren.low _ (Low.agg' (Token.lo)))) ?_; obtain rfl := foll hR (ct h1 rfl); exact rq (tt [0] (tO rfl (ts LexReader.lo) .nil) (turn_low (Low.agg' (Token.lo))))
 ·refine us (runes_Class_c (r_.line.getD (Int.toNat r_.at_) 0) _) ?_; refine ai (fun h3 => ?_) (fun h4 => ?_)
  ·refine us (mv [0] (lex_reader_count_c r_ szA ckA) (dO (ds LexReader.lo) .nil) (dp .nil) (rO (re LexReader.lo) .nil) (Ren.low _ (Low.agg' (Token.lo)))) ?_; obtain rfl := foll hR (cf h2 (ct h3 rfl)); exact rq (tt [0] (tO rfl (ts LexReader.lo) .nil) (turn_low (Low.agg' (Token.lo))))
  ·refine ai (fun h5 => ?_) (fun h6 => ?_)
   ·refine us (mv [0] (lex_reader_text_c r_ szA ckA) (dO (ds LexReader.lo) .nil) (dp .nil) (rO (re LexReader.lo) .nil) (Ren.low _ (Low.agg' (Token.lo)))) ?_; obtain rfl := foll hR (cf h2 (cf h4 (ct h5 rfl))); exact rq (tt [0] (tO rfl (ts LexReader.lo) .nil) (turn_low (Low.agg' (Token.lo))))
   ·refine us (strings_IndexByte_c ⟨#[61, 58, 44, 45]⟩ (wu8 (r_.line.getD (Int.toNat r_.at_) 0)) _) ?_; refine ai (fun h7 => ?_) (fun h8 => ?_)
    ·obtain rfl := foll hR (cf h2 (cf h4 (cf h6 (ct h7 rfl)))); exact rq (tt [0] (tO rfl (ts LexReader.lo) .nil) (turn_low (Low.agg' (Token.lo))))
    ·refine us (runes_Class_c (r_.line.getD (Int.toNat r_.at_) 0) _) ?_; refine ai (fun h9 => ?_) (fun h10 => ?_)
     ·refine us (mv [0] (lex_reader_fail_c r_ r_.at_ 40) (dO (ds LexReader.lo) .nil) (dp (d1 (d1 .nil))) (rO (re LexReader.lo) .nil) rx) ?_; obtain rfl := foll hR (cf h2 (cf h4 (cf h6 (cf h8 (ct h9 rfl))))); exact rq (tt [0] (tO rfl (ts LexReader.lo) .nil) (turn_low (Low.agg' (Token.lo))))
     ·refine us (mv [0] (lex_reader_fail_c r_ r_.at_ 50) (dO (ds LexReader.lo) .nil) (dp (d1 (d1 .nil))) (rO (re LexReader.lo) .nil) rx) ?_; obtain rfl := foll hR (cf h2 (cf h4 (cf h6 (cf h8 (cf h10 rfl))))); exact rq (tt [0] (tO rfl (ts LexReader.lo) .nil) (turn_low (Low.agg' (Token.lo))))
def Adv (a b : LexReader) : Prop := b.line = a.line ∧ a.at_ <= b.at_ ∧ b.at_ <= (a.line.length : Int) ∧ b.error = a.error ∧ b.bad = a.bad
theorem lex_while_adv (is : Int -> Bool) : ∀ (m : Nat) (c : LexReader), 0 <= c.at_ -> c.at_ <= (c.line.length : Int) -> c.line.length <= 400 -> (Int.toNat ((c.line.length : Int) - c.at_)) < m -> Adv c (lex_reader_while_g1 is m c)
 | 0, c, _, _, _, h => absurd h (by omega)
 | m + 1, c, h0, h1, h2, h => by
  rw [lex_reader_while_g1]
  cases hc : ((decide (c.at_ < (c.line.length : Int))) && (is (c.line.getD (Int.toNat c.at_) 0))) with
  | false => exact ⟨rfl, Int.le_refl _, h1, rfl, rfl⟩
  | true =>
   have hlt := of_decide_eq_true ((Bool.and_eq_true _ _).mp hc).1
   have hw : w64 (c.at_ + 1) = c.at_ + 1 := wr (by omega)
   rw [hw]
   obtain ⟨a, b, d, e, f⟩ := lex_while_adv is m { c with at_ := c.at_ + 1 } (by dsimp only; omega) (by dsimp only; omega) h2 (by dsimp only; omega)
   dsimp only at a b d e f
   exact ⟨a, by simp only [cond_true]; omega, d, e, f⟩
theorem lex_reader_while_adv (r : LexReader) (is : Int -> Bool) (h0 : 0 <= r.at_) (h1 : r.at_ <= (r.line.length : Int)) (h2 : r.line.length <= 400) : Adv r (lex_reader_while r is).2 :=
 lex_while_adv is _ r h0 h1 h2 (Nat.lt_succ_self _)
theorem lex_reader_while_lt (r : LexReader) (is : Int -> Bool) (h0 : 0 <= r.at_) (h1 : r.at_ < (r.line.length : Int)) (h2 : r.line.length <= 400) (h : is (r.line.getD (Int.toNat r.at_) 0) = true) : r.at_ < (lex_reader_while r is).2.at_ := by
 have hw : w64 (r.at_ + 1) = r.at_ + 1 := wr (by omega)
 have e : (lex_reader_while r is).2 = lex_reader_while_g1 is (Int.toNat ((r.line.length : Int) - r.at_)) { r with at_ := r.at_ + 1 } := by
  show lex_reader_while_g1 is ((Int.toNat ((r.line.length : Int) - r.at_)) + 1) r = _
  rw [lex_reader_while_g1, show ((decide (r.at_ < (r.line.length : Int))) && (is (r.line.getD (Int.toNat r.at_) 0))) = true by rw [h, Bool.and_true]; exact decide_eq_true h1, hw]
  rfl
 rw [e]
 have := (lex_while_adv is (Int.toNat ((r.line.length : Int) - r.at_)) { r with at_ := r.at_ + 1 } (by dsimp only; omega) (by dsimp only; omega) h2 (by dsimp only; omega)).2.1
 dsimp only at this
 omega
theorem lex_fail_adv (r : LexReader) (p e : Int) (he : e ≠ 0) : (lex_reader_fail r p e).line = r.line ∧ (lex_reader_fail r p e).at_ = r.at_ ∧ (lex_reader_fail r p e).error ≠ 0 := by
 unfold lex_reader_fail
 cases h : (r.error == 0) with
 | true => exact ⟨rfl, rfl, he⟩
 | false => exact ⟨rfl, rfl, by simpa using h⟩
def Nxt (a b : LexReader) : Prop := b.line = a.line ∧ a.at_ <= b.at_ ∧ b.at_ <= (a.line.length : Int) ∧ (b.error ≠ 0 ∨ a.at_ < b.at_)
theorem lex_word_nxt (r : LexReader) (h0 : 0 <= r.at_) (h1 : r.at_ < (r.line.length : Int)) (h2 : r.line.length <= 400) (hc : ((runes_Class (r.line.getD (Int.toNat r.at_) 0)) == 2) = true) : Nxt r (lex_reader_word r).2 := by
 obtain ⟨a, b, c, _, _⟩ := lex_reader_while_adv r (fun (y : Int) => lex_reader_word_g1 y ([2, 3] : List Int) 0) h0 (by omega) h2
 exact ⟨a, b, c, Or.inr (lex_reader_while_lt r _ h0 h1 h2 (by simp only [lex_reader_word_g1, hc]; rfl))⟩
theorem class_digit (x : Int) (h : (runes_Class x == 3) = true) : 48 <= x ∧ x <= 57 := by
 unfold runes_Class at h
 revert h
 cases ((x == 9) || (x == 32)) with
 | true => simp
 | false =>
  simp only [cond_false]
  cases (((((decide (x < 32)) || ((decide (x >= 127)) && (decide (x <= 160)))) || ((decide (x >= 55296)) && (decide (x <= 57343)))) || (x == 65533)) || (decide (x > 1114111))) with
  | true => simp
  | false =>
   simp only [cond_false]
   cases hd : ((decide (x >= 48)) && (decide (x <= 57))) with
   | true => intro _; simp at hd; omega
   | false =>
    simp only [cond_false]
    cases ((((decide (x >= 97)) && (decide (x <= 122))) || ((decide (x >= 65)) && (decide (x <= 90)))) || (decide (x > 160))) <;> simp
theorem lex_count_nxt (r : LexReader) (h0 : 0 <= r.at_) (h1 : r.at_ < (r.line.length : Int)) (h2 : r.line.length <= 400) (hc : ((runes_Class (r.line.getD (Int.toNat r.at_) 0)) == 3) = true) : Nxt r (lex_reader_count r).2 := by
 obtain ⟨a, b, c, _, _⟩ := lex_reader_while_adv r (fun (y : Int) => (((decide (y >= 48)) && (decide (y <= 57))) || ((decide (y >= 97)) && (decide (y <= 122))))) h0 (by omega) h2
 have hd := class_digit _ hc
 have l := lex_reader_while_lt r (fun (y : Int) => (((decide (y >= 48)) && (decide (y <= 57))) || ((decide (y >= 97)) && (decide (y <= 122))))) h0 h1 h2 (by simp only [decide_eq_true hd.1, decide_eq_true hd.2]; rfl)
 unfold lex_reader_count
 cases (!(lex_digits ((lex_reader_while r (fun (y : Int) => (((decide (y >= 48)) && (decide (y <= 57))) || ((decide (y >= 97)) && (decide (y <= 122)))))).1))) with
 | true => exact ⟨a, b, c, Or.inr l⟩
 | false =>
  simp only [cond_false]
  cases (!(lex_number ((lex_reader_while r (fun (y : Int) => (((decide (y >= 48)) && (decide (y <= 57))) || ((decide (y >= 97)) && (decide (y <= 122)))))).1)).2) with
  | false => exact ⟨a, b, c, Or.inr l⟩
  | true =>
   obtain ⟨f1, f2, f3⟩ := lex_fail_adv (lex_reader_while r (fun (y : Int) => (((decide (y >= 48)) && (decide (y <= 57))) || ((decide (y >= 97)) && (decide (y <= 122)))))).2 r.at_ 50 (by decide)
   exact ⟨f1.trans a, by simp only [cond_true]; rw [f2]; exact b, by simp only [cond_true]; rw [f2]; exact c, Or.inl f3⟩
theorem lex_text_adv : ∀ (m : Nat) (c : LexReader) (b : Bool), 0 <= c.at_ -> c.at_ <= (c.line.length : Int) -> c.line.length <= 400 -> (Int.toNat ((c.line.length : Int) - c.at_)) < m -> Adv c (lex_reader_text_g1 m c b).1
 | 0, c, _, _, _, _, h => absurd h (by omega)
 | m + 1, c, b, h0, h1, h2, h => by
  rw [lex_reader_text_g1]
  cases hc : ((decide (c.at_ < (c.line.length : Int))) && (lex_reader_text_c1 (c.line.getD (Int.toNat c.at_) 0) b).1) with
  | false => exact ⟨rfl, Int.le_refl _, h1, rfl, rfl⟩
  | true =>
   have hlt := of_decide_eq_true ((Bool.and_eq_true _ _).mp hc).1
   have hw : w64 (c.at_ + 1) = c.at_ + 1 := wr (by omega)
   rw [hw]
   obtain ⟨a, b, d, e, f⟩ := lex_text_adv m { c with at_ := c.at_ + 1 } _ (by dsimp only; omega) (by dsimp only; omega) h2 (by dsimp only; omega)
   dsimp only at a b d e f
   exact ⟨a, by simp only [cond_true]; omega, d, e, f⟩
theorem lex_text_nxt (r : LexReader) (h0 : 0 <= r.at_) (h1 : r.at_ < (r.line.length : Int)) (h2 : r.line.length <= 400) : Nxt r (lex_reader_text r).2 := by
 obtain ⟨a, b, c, _, _⟩ := lex_text_adv _ r true h0 (by omega) h2 (Nat.lt_succ_self _)
 unfold lex_reader_text
 generalize (lex_reader_text_g1 ((Int.toNat ((r.line.length : Int) - r.at_)) + 1) r true).1 = q at a b c
 unfold lex_reader_text_k1
 have ff : ∀ (x : LexReader) (p e : Int), e ≠ 0 -> x.line = r.line -> r.at_ <= x.at_ -> x.at_ <= (r.line.length : Int) -> Nxt r (lex_reader_fail x p e) := by
  intro x p e he hx hp hq
  obtain ⟨f1, f2, f3⟩ := lex_fail_adv x p e he
  exact ⟨f1.trans hx, by rw [f2]; exact hp, by rw [f2]; exact hq, Or.inl f3⟩
 cases h3 : (q.at_ == (q.line.length : Int)) with
 | true => exact ff q _ _ (by decide) a b c
 | false =>
  simp only [cond_false]
  have h3' : q.at_ ≠ (r.line.length : Int) := by rw [a] at h3; simpa using h3
  have hw : w64 (q.at_ + 1) = q.at_ + 1 := wr (by omega)
  cases ((q.line.getD (Int.toNat q.at_) 0) != 34) with
  | true => exact ff q _ _ (by decide) a b c
  | false =>
   simp only [cond_false]
   rw [hw]
   cases h4 : ((runes_Unquote (runesBytes (List.drop (Int.toNat r.at_) (List.take (Int.toNat (q.at_ + 1)) q.line)))).2 != 0) with
   | true => exact ff { q with at_ := q.at_ + 1 } _ _ (by simpa using h4) a (by show r.at_ <= q.at_ + 1; omega) (by show q.at_ + 1 <= _; omega)
   | false => exact ⟨a, by show r.at_ <= q.at_ + 1; omega, by show q.at_ + 1 <= _; omega, Or.inr (by show r.at_ < q.at_ + 1; omega)⟩
theorem lex_next_nxt (r : LexReader) (h0 : 0 <= r.at_) (h1 : r.at_ < (r.line.length : Int)) (h2 : r.line.length <= 400) : Nxt r (lex_reader_next r).2 := by
 have hw : w64 (r.at_ + 1) = r.at_ + 1 := wr (by omega)
 have ff : ∀ (e : Int), e ≠ 0 -> Nxt r (lex_reader_fail r r.at_ e) := by
  intro e he
  obtain ⟨f1, f2, f3⟩ := lex_fail_adv r r.at_ e he
  exact ⟨f1, by rw [f2]; exact Int.le_refl _, by rw [f2]; omega, Or.inl f3⟩
 unfold lex_reader_next
 cases hc : ((runes_Class (r.line.getD (Int.toNat r.at_) 0)) == 2) with
 | true => exact lex_word_nxt r h0 h1 h2 hc
 | false =>
  simp only [cond_false]
  cases hd : ((runes_Class (r.line.getD (Int.toNat r.at_) 0)) == 3) with
  | true => exact lex_count_nxt r h0 h1 h2 hd
  | false =>
   simp only [cond_false]
   cases ((r.line.getD (Int.toNat r.at_) 0) == 34) with
   | true => exact lex_text_nxt r h0 h1 h2
   | false =>
    simp only [cond_false]
    cases ((decide ((strings_IndexByte ⟨#[61, 58, 44, 45]⟩ (wu8 (r.line.getD (Int.toNat r.at_) 0))) >= 0)) && (decide ((r.line.getD (Int.toNat r.at_) 0) < 128))) with
    | true => rw [hw]; exact ⟨rfl, by show r.at_ <= r.at_ + 1; omega, by show r.at_ + 1 <= _; omega, Or.inr (by show r.at_ < r.at_ + 1; omega)⟩
    | false =>
     simp only [cond_false]
     cases ((runes_Class (r.line.getD (Int.toNat r.at_) 0)) == 0) with
     | true => exact ff 40 (by decide)
     | false => exact ff 50 (by decide)
theorem lex_round (r c : LexReader) (b : Int -> Bool) (h0 : 0 <= r.at_) (h1 : r.at_ <= (r.line.length : Int)) (h2 : r.line.length <= 400) (he : (r.error == 0) = true) (e : c = (lex_reader_while r b).2) (hn : (c.at_ == (c.line.length : Int)) = false) :
  (0 <= c.at_ ∧ c.at_ < (c.line.length : Int) ∧ c.line.length <= 400) ∧ (0 <= (lex_reader_next c).2.at_ ∧ (lex_reader_next c).2.at_ <= ((lex_reader_next c).2.line.length : Int) ∧ (lex_reader_next c).2.line.length <= 400) ∧
  2 * Int.toNat (((lex_reader_next c).2.line.length : Int) - (lex_reader_next c).2.at_) + (bif (lex_reader_next c).2.error == 0 then 1 else 0) < 2 * Int.toNat ((r.line.length : Int) - r.at_) + (bif r.error == 0 then 1 else 0) ∧
  (((lex_reader_next c).2.error == 0) = true -> r.at_ + 1 <= (lex_reader_next c).2.at_) := by
 obtain ⟨a1, a2, a3, a4, a5⟩ := lex_reader_while_adv r b h0 h1 h2
 rw [← e] at a1 a2 a3 a4 a5
 have hn' : c.at_ ≠ (r.line.length : Int) := by rw [a1] at hn; simpa using hn
 have hc : 0 <= c.at_ ∧ c.at_ < (c.line.length : Int) ∧ c.line.length <= 400 := by rw [a1]; omega
 obtain ⟨n1, n2, n3, n4⟩ := lex_next_nxt c hc.1 hc.2.1 hc.2.2
 rw [he]
 rw [a1] at n1 n3
 refine ⟨hc, by rw [n1]; omega, ?_⟩
 rw [n1]
 rcases n4 with n4 | n4
 ·have : ((lex_reader_next c).2.error == 0) = false := by simpa using n4
  rw [this]
  simp only [cond_true, cond_false]
  exact ⟨by omega, fun h => nomatch h⟩
 ·refine ⟨?_, fun _ => by omega⟩
  cases ((lex_reader_next c).2.error == 0) <;> simp only [cond_true, cond_false] <;> omega
def job_view_option (v : Job) (choice : Int) : Alt × Bool := bif ((decide (choice < 0)) || (decide (choice >= ((shape_Options v.shape).length : Int)))) then (Alt.zero, false) else (((shape_Options v.shape).getD (Int.toNat choice) Alt.zero), true)
theorem job_view_option_c (v : Job) (choice : Int) (hs0 : v.sz) : ∀ objs, AGives Tryz.prog 195 [Job.a v, I choice] objs (AVal.tup [Alt.a ((job_view_option v choice).1), Bo ((job_view_option v choice).2)]) := by
 generalize hR : job_view_option v choice = R; refine ga (.cons (Job.low _ _) (l1 .nil)) (Low.tup' (.cons (Alt.low _ _) (l1 .nil))) (kp 7 [18]) Tryz.func195 ?_; have hk0 := hs0; obtain ⟨z3, z4, z5, z6, z7⟩ : v.name.size <= 4294967296 ∧ v.user.size <= 4294967296 ∧ v.account.size <= 4294967296 ∧ (v.shape.alts.length <= 4294967296) ∧ v.after.length <= 4294967296 := hs0; refine us (shape_Options_c v.shape szA _) ?_; refine ai (fun h1 => ?_) (fun h2 => ?_)
 ·obtain rfl := foll hR (ct h1 rfl); exact ret_seen (Low.tup' (.cons (Alt.low _ _) (l1 .nil))) (Seen.tup (e1 (e1 .nil)))
 ·refine ai gkA ?_; obtain rfl := foll hR (cf h2 rfl); exact ret_seen (Low.tup' (.cons (Alt.low _ _) (l1 .nil))) (Seen.tup (e1 (e1 .nil)))
def shape_Allows (s : Shape) (choice : Int) (n : Int) : Bool := bif ((decide (choice < 0)) || (decide (choice >= ((shape_Options s).length : Int)))) then false else bif (s.kind == 3) then ((decide (n >= s.min)) && (decide (n <= s.max))) else (((shape_Options s).getD (Int.toNat choice) Alt.zero).nodes == n)
theorem shape_Allows_c (s : Shape) (choice : Int) (n : Int) (hs0 : s.sz) : ∀ objs, AGives Tryz.prog 197 [Shape.a s, I choice, I n] objs (Bo (shape_Allows s choice n)) := by
 generalize hR : shape_Allows s choice n = R; refine ga (.cons (Shape.low _ _) (l1 (l1 .nil))) lx (kp 8 [17, 20]) Tryz.func197 ?_; have hk0 := hs0; obtain z5 : s.alts.length <= 4294967296 := hs0; refine us (shape_Options_c s szA _) ?_; refine ai (fun h1 => ?_) (fun h2 => ?_)
 ·obtain rfl := foll hR (ct h1 rfl); exact ret_seen lx sr
 ·refine ai (fun h3 => ?_) (fun h4 => ?_)
  ·obtain rfl := foll hR (cf h2 (ct h3 rfl)); exact ret_seen lx sr
  ·refine ai gkA ?_; obtain rfl := foll hR (cf h2 (cf h4 rfl)); exact ret_seen lx sr
def fleet_Of (l : List Node) (job : Int) (state : Int) : Int := (fleet_where l (fun (y : Node) => ((y.job == job) && (y.state == state))))
theorem fleet_Of_c (l : List Node) (job : Int) (state : Int) (hs0 : l.length <= 4294967296) : ∀ objs, AGives Tryz.prog 100 [nodeL l, I job, I state] objs (U (fleet_Of l job state)) := by
 generalize hR : fleet_Of l job state = R; refine ga (.cons lw (l1 (l1 .nil))) lx (kp 7 []) Tryz.func100 ?_; have hk0 := hs0; obtain z7 : l.length <= 4294967296 := hs0; have cl1 : ∀ (y1 : Node), AMoves Tryz.prog 140 [Node.a y1, AVal.ptr 0 0 1 0 0, AVal.ptr 1 0 1 0 0] [(0, AObj.row 3 1 [[I job]]), (0, AObj.row 3 1 [[I state]])] 2 (Bo ((fun (y : Node) => ((y.job == job) && (y.state == state))) y1)) [(0, AObj.row 3 1 [[I job]]), (0, AObj.row 3 1 [[I state]])] := by
  intro y1; have hR : (fun (y : Node) => ((y.job == job) && (y.state == state))) y1 = (fun (y : Node) => ((y.job == job) && (y.state == state))) y1 := rfl; refine mo (kp 5 []) Tryz.func140 ?_; refine ret_moves (fun r : Bool => Bo r) (fun _ => [(0, AObj.row 3 1 [[I job]]), (0, AObj.row 3 1 [[I state]])]) (leaf := ((y1.job == job) && (y1.state == state))) (foll hR rfl) ?_; exact tt [0, 1] (tO rfl (ts (l1 LowL.nil)) (tO rfl (ts (l1 LowL.nil)) .nil)) t1
 have hof1 : AMoves Tryz.prog 139 [nodeL l, AVal.fn (.func 140) [] [AVal.ptr 0 0 1 0 0, AVal.ptr 1 0 1 0 0]] [(0, AObj.row 3 1 [[I job]]), (0, AObj.row 3 1 [[I state]])] 2 (U (fleet_where l (fun (y : Node) => ((y.job == job) && (y.state == state))))) [(0, AObj.row 3 1 [[I job]]), (0, AObj.row 3 1 [[I state]])] := by
  have hR : fleet_where l (fun (y : Node) => ((y.job == job) && (y.state == state))) = fleet_where l (fun (y : Node) => ((y.job == job) && (y.state == state))) := rfl; refine mo (kp 10 [12, 13, 14, 15, 16, 22]) Tryz.func139 ?_; refine us (fleet_Check_c l szA _) ?_; refine ai (fun h1 => ?_) (fun h2 => ?_)
  ·refine ret_moves (fun r : Int => U r) (fun r : Int => [(0, AObj.row 3 1 [[I job]]), (0, AObj.row 3 1 [[I state]])]) (leaf := 0) (foll hR (ct h1 rfl)) ?_; exact tt [0, 1] (tO rfl (ts (l1 LowL.nil)) (tO rfl (ts (l1 LowL.nil)) .nil)) t1
  ·refine loop_start2 (fun (out : List Int) (i : Nat) => fleet_where_k1 (fleet_where_g1 (fun (y : Node) => ((y.job == job) && (y.state == state))) (List.drop i l) out i) = fleet_where l (fun (y : Node) => ((y.job == job) && (y.state == state))) ∧ i <= l.length ∧ out.length <= i) (fun out i => l.length - i) (fun out i => [(1, AVal.fn (.func 140) [] [AVal.ptr 0 0 1 0 0, AVal.ptr 1 0 1 0 0]), (4, U 0), (5, AVal.own 2 0 1 0 out.length), (13, nodeL l), (14, I (l.length : Int)), (15, I (i : Int))]) (fun out i => [(0, AObj.row 3 1 [[I job]]), (0, AObj.row 3 1 [[I state]]), (0, AObj.row 3 1 (out.map (fun q_ => [I q_])))]) [] 0 ((weaker_none 3 1).trans (wk [0, 1, 2] (tO rfl (ts (l1 LowL.nil)) (tO rfl (ts (l1 LowL.nil)) (tO rfl (tl eqA) .nil))) (sv (turn_fn .nil (cv (turn_ptr 0 rfl rfl) (cv (turn_ptr 1 rfl rfl) .nil))) (s1 (sv (turn_nilown 2 rfl) (sl lw (s1 (s1 .nil)))))))) ⟨foll hR (cf h2 rfl), by exact omA, by exact exA⟩ ?_; clear hR; rintro out i ⟨hR, hj, hx⟩; (try dsimp only at hR hj hx); refine ai (fun h3 => ?_) (fun h4 => ?_)
   ·have hlt := ltA h3; rw [drop_getD Node.zero hlt] at hR; refine ai gkA ?_; refine us (mv [0, 1] (cl1 (l.getD i Node.zero)) (dO (ds (l1 LowL.nil)) (dO (ds (l1 LowL.nil)) .nil)) (dl (Node.low _ _) (dp (dp .nil))) (rO (re (l1 LowL.nil)) (rO (re (l1 LowL.nil)) .nil)) rx) ?_; refine ai (fun h5 => ?_) (fun h6 => ?_)
    ·refine Or.inl ?_; (first | refine ⟨app_ok 8 rfl lnA apA, ?_⟩ | refine ⟨app_nil 8 rfl apA, ?_⟩); exact loop_next2 (out ++ ([(i : Int)] : List Int)) (i + 1) (wk [0, 1, 2] (tO rfl (ts (l1 LowL.nil)) (tO rfl (ts (l1 LowL.nil)) (tO rfl (tl eqA) .nil))) (sv (turn_fn .nil (cv (turn_ptr 0 rfl rfl) (cv (turn_ptr 1 rfl rfl) .nil))) (s1 (sv (to 2 lnA) (sl lw (s1 (sv (turn_eq (I_eq (wr omA)) lx) .nil))))))) omA ⟨foll hR (congrArg (fun p : (List Int) => fleet_where_k1 p) (ct h5 rfl)), by exact omA, by exact exA⟩
    ·exact loop_next2 out (i + 1) (wk [0, 1, 2] (tO rfl (ts (l1 LowL.nil)) (tO rfl (ts (l1 LowL.nil)) (tO rfl (tl eqA) .nil))) (sv (turn_fn .nil (cv (turn_ptr 0 rfl rfl) (cv (turn_ptr 1 rfl rfl) .nil))) (s1 (sv (to 2 lnA) (sl lw (s1 (sv (turn_eq (I_eq (wr omA)) lx) .nil))))))) omA ⟨foll hR (congrArg (fun p : (List Int) => fleet_where_k1 p) (cf h6 rfl)), by exact omA, by exact exA⟩
   ·rw [drop_none (l := l) (j := i) (geA h4)] at hR; replace hR : fleet_where_k1 out = fleet_where l (fun (y : Node) => ((y.job == job) && (y.state == state))) := fo2 (fun p : (List Int) => fleet_where_k1 p) (out) hR rfl; refine us (AGives.lent (nodeset_Of_c out szA []) (ev (seen_list _ _ rfl eqA lnA) .nil) (.cons lw .nil) (bare2_sound rfl)) ?_; refine ret_moves (fun r : Int => U r) (fun r : Int => [(0, AObj.row 3 1 [[I job]]), (0, AObj.row 3 1 [[I state]])]) (leaf := (nodeset_Of out).1) (foll hR rfl) ?_; exact tt [0, 1] (tO rfl (ts (l1 LowL.nil)) (tO rfl (ts (l1 LowL.nil)) .nil)) t1
 refine us (mv [0, 1] (hof1) (dO (ds (l1 LowL.nil)) (dO (ds (l1 LowL.nil)) .nil)) (dl lw (dv (dn_fn .nil (dp (dp .nil))) .nil)) (rO (re (l1 LowL.nil)) (rO (re (l1 LowL.nil)) .nil)) rx) ?_; obtain rfl := foll hR rfl; exact ret_seen lx sr
def alloc_Notes_g1 (l : List Node) : List Int -> List Note -> Nat -> (List Note)
 | [], out, _ => out
 | x_ :: r, out, i => bif (fleet_Note l x_).2 then alloc_Notes_g1 l r (out ++ ([(fleet_Note l x_).1] : List Note)) (i + 1) else alloc_Notes_g1 l r out (i + 1)
def alloc_Notes_k1 (out : List Note) : (List Note) := out
def alloc_Notes (l : List Node) (nodes : List Int) : (List Note) := alloc_Notes_k1 (alloc_Notes_g1 l nodes [] 0)
theorem alloc_Notes_c (l : List Node) (nodes : List Int) (hs0 : l.length <= 4294967296) (hs1 : nodes.length <= 4294967296) : ∀ objs, AGives Tryz.prog 49 [nodeL l, ints nodes] objs (noteL (alloc_Notes l nodes)) := by
 generalize hR : alloc_Notes l nodes = R; refine ga (.cons lw (.cons lw .nil)) lw (kp 10 [10, 11, 12, 13, 22]) Tryz.func49 ?_; have hk0 := hs0; obtain z5 : l.length <= 4294967296 := hs0; have hk1 := hs1; obtain z6 : nodes.length <= 4294967296 := hs1; refine loop_start2 (fun (out : List Note) (i : Nat) => alloc_Notes_k1 (alloc_Notes_g1 l (List.drop i nodes) out i) = R ∧ i <= nodes.length ∧ out.length <= i) (fun out i => nodes.length - i) (fun out i => [(0, nodeL l), (4, AVal.lit (.slice none 0 0)), (5, AVal.own 0 0 4 0 out.length), (10, ints nodes), (11, I (nodes.length : Int)), (12, I (i : Int))]) (fun out i => [(0, AObj.row 59 4 (out.map Note.cells))]) [] 0 ((weaker_none 59 4).trans (wk [0] (tO rfl (tl eqA) .nil) (sl lw (s1 (sv (turn_nilown 0 rfl) (sl lw (s1 (s1 .nil)))))))) ⟨foll hR rfl, by exact omA, by exact exA⟩ ?_; clear hR; rintro out i ⟨hR, hj, hx⟩; (try dsimp only at hR hj hx); refine ai (fun h1 => ?_) (fun h2 => ?_)
 ·have hlt := ltA h1; rw [drop_getD 0 hlt] at hR; refine ai gkA ?_; refine us (fleet_Note_c l (nodes.getD i 0) szA _) ?_; refine ai (fun h3 => ?_) (fun h4 => ?_)
  ·refine Or.inl ?_; (first | refine ⟨app_ok 32 rfl lnA apA, ?_⟩ | refine ⟨app_nil 32 rfl apA, ?_⟩); exact loop_next2 (out ++ ([(fleet_Note l (nodes.getD i 0)).1] : List Note)) (i + 1) (wk [0] (tO rfl (tl eqA) .nil) (sl lw (s1 (sv (to 0 lnA) (sl lw (s1 (sv (turn_eq (I_eq (wr omA)) lx) .nil))))))) omA ⟨foll hR (congrArg (fun p : (List Note) => alloc_Notes_k1 p) (ct h3 rfl)), by exact omA, by exact exA⟩
  ·exact loop_next2 out (i + 1) (wk [0] (tO rfl (tl eqA) .nil) (sl lw (s1 (sv (to 0 lnA) (sl lw (s1 (sv (turn_eq (I_eq (wr omA)) lx) .nil))))))) omA ⟨foll hR (congrArg (fun p : (List Note) => alloc_Notes_k1 p) (cf h4 rfl)), by exact omA, by exact exA⟩
 ·rw [drop_none (l := nodes) (j := i) (geA h2)] at hR; replace hR : alloc_Notes_k1 out = R := fo2 (fun p : (List Note) => alloc_Notes_k1 p) (out) hR rfl; obtain rfl := foll hR rfl; exact ret_seen lw (seen_list Note.zero _ rfl eqA lnA)
def ledger_Total (l : List Usage) : Int := (ledger_together l (fun (y : Usage) => y.used))
theorem ledger_Total_c (l : List Usage) (hs0 : l.length <= 4294967296 ∧ (∀ y ∈ l, y.sz)) : ∀ objs, AGives Tryz.prog 26 [usageL l] objs (I (ledger_Total l)) := by
 generalize hR : ledger_Total l = R; refine ga (.cons lw .nil) lx (kp 3 []) Tryz.func26 ?_; have hk0 := hs0; obtain ⟨z9, z10⟩ : l.length <= 4294967296 ∧ (∀ y ∈ l, y.sz) := hs0; have cl1 : ∀ (y1 : Usage) (hzy1 : y1.sz), AMoves Tryz.prog 60 [Usage.a y1] [] 0 (I ((fun (y : Usage) => y.used) y1)) [] := by
  intro y1 hzy1; have hky1 := hzy1; obtain ⟨z1, z2⟩ : y1.user.size <= 4294967296 ∧ y1.account.size <= 4294967296 := hzy1; have hR : (fun (y : Usage) => y.used) y1 = (fun (y : Usage) => y.used) y1 := rfl; refine mo (kp 3 []) Tryz.func60 ?_; refine ret_moves (fun r : Int => I r) (fun _ => []) (leaf := y1.used) (foll hR rfl) ?_; exact tt [] .nil t1
 have hof1 : AMoves Tryz.prog 59 [usageL l, AVal.fn (.func 60) [] []] [] 0 (I (ledger_together l (fun (y : Usage) => y.used))) [] := by
  have hR : ledger_together l (fun (y : Usage) => y.used) = ledger_together l (fun (y : Usage) => y.used) := rfl; refine mo (kp 8 [10, 11, 12, 13, 14]) Tryz.func59 ?_; refine us (ledger_Check_c l szA _) ?_; refine ai (fun h3 => ?_) (fun h4 => ?_)
  ·refine ret_moves (fun r : Int => I r) (fun r : Int => []) (leaf := 0) (foll hR (ct h3 rfl)) ?_; exact tt [] .nil t1
  ·refine loop_start2 (fun (n : Int) (i : Nat) => ledger_together_k1 (ledger_together_g1 (fun (y : Usage) => y.used) (List.drop i l) n i) = ledger_together l (fun (y : Usage) => y.used) ∧ i <= l.length) (fun n i => l.length - i) (fun n i => [(1, AVal.fn (.func 60) [] []), (4, I 0), (5, I n), (11, usageL l), (12, I (l.length : Int)), (13, I (i : Int))]) (fun n i => []) 0 0 (wk [] .nil (sv (turn_low (Low.fn _ _ _ LowL.nil LowL.nil)) (s1 (s1 (sl lw (s1 (s1 .nil))))))) ⟨foll hR (cf h4 rfl), by exact omA⟩ ?_; clear hR; rintro n i ⟨hR, hj⟩; (try dsimp only at hR hj); refine ai (fun h5 => ?_) (fun h6 => ?_)
   ·have hlt := ltA h5; rw [drop_getD Usage.zero hlt] at hR; have hxz : (l.getD i Usage.zero).sz := getD_sz (by first | assumption | grind) (Usage.szz _); have hkz := hxz; obtain ⟨z7, z8⟩ : ((l.getD i Usage.zero).user).size <= 4294967296 ∧ ((l.getD i Usage.zero).account).size <= 4294967296 := hxz; refine ai gkA ?_; refine us (mv [] (cl1 (l.getD i Usage.zero) szA) .nil (dl (Usage.low _ _) .nil) .nil rx) ?_; refine Or.inl ?_; refine us (AGives.as2 (sat_Plus_c ([n, ((fun (y : Usage) => y.used) (l.getD i Usage.zero))] : List Int) szA _) (av (as_lits (c := (fun q_ => [I q_])) (d := 0) ([n, ((fun (y : Usage) => y.used) (l.getD i Usage.zero))] : List Int) rfl) .nil)) ?_; exact loop_next2 (sat_Plus ([n, ((fun (y : Usage) => y.used) (l.getD i Usage.zero))] : List Int)) (i + 1) (wk [] .nil (sv (turn_low (Low.fn _ _ _ LowL.nil LowL.nil)) (s1 (s1 (sl lw (s1 (sv (turn_eq (I_eq (wr omA)) lx) .nil))))))) omA ⟨foll hR (congrArg (fun p : Int => ledger_together_k1 p) rfl), by exact omA⟩
   ·rw [drop_none (l := l) (j := i) (geA h6)] at hR; replace hR : ledger_together_k1 n = ledger_together l (fun (y : Usage) => y.used) := fo2 (fun p : Int => ledger_together_k1 p) (n) hR rfl; refine ret_moves (fun r : Int => I r) (fun r : Int => []) (leaf := n) (foll hR rfl) ?_; exact tt [] .nil t1
 refine us (mv [] (hof1) .nil (dl lw (dv (dn_low (Low.fn _ _ _ LowL.nil LowL.nil)) .nil)) .nil rx) ?_; obtain rfl := foll hR rfl; exact ret_seen lx sr
end Go.Proofs.YtigcpfbpmnppcaaGreatDoor
namespace Go.Proofs.YtigcpfbpmnppcaaGreatDoor
set_option linter.unusedSimpArgs false
set_option linter.unusedVariables false
open Go.Fw
set_option maxRecDepth 20000
set_option maxHeartbeats 4000000
attribute [local irreducible] ACalls AMoves
def lex_Tokens_g3 (y : Int) : List Int -> Nat -> Bool
 | [], _ => false
 | x_1 :: r, i => bif ((runes_Class y) == x_1) then true else lex_Tokens_g3 y r (i + 1)
def lex_Tokens_g1 (line : ByteArray) : List (Nat × Int) -> LexReader -> LexReader
 | [], c => c
 | x_ :: r, c => lex_Tokens_g1 line r { c with line := (c.line ++ ([x_.2] : List Int)) }
def lex_Tokens_g2  : Nat -> List Token -> LexReader -> (List Token) × Int × Int
 | 0, _, _ => ([], 0, 0)
 | m + 1, out, c2 => bif (c2.error == 0) then bif ((lex_reader_while c2 (fun (y : Int) => lex_Tokens_g3 y ([1] : List Int) 0)).2.at_ == (((lex_reader_while c2 (fun (y : Int) => lex_Tokens_g3 y ([1] : List Int) 0)).2.line).length : Int)) then (out, (((lex_reader_while c2 (fun (y : Int) => lex_Tokens_g3 y ([1] : List Int) 0)).2.line).length : Int), 0) else lex_Tokens_g2 m (out ++ ([{ (lex_reader_next ((lex_reader_while c2 (fun (y : Int) => lex_Tokens_g3 y ([1] : List Int) 0)).2)).1 with at_ := (lex_reader_while c2 (fun (y : Int) => lex_Tokens_g3 y ([1] : List Int) 0)).2.at_ }] : List Token)) ((lex_reader_next ((lex_reader_while c2 (fun (y : Int) => lex_Tokens_g3 y ([1] : List Int) 0)).2)).2) else ([], c2.bad, c2.error)
def lex_Tokens_k1 (c : LexReader) : (List Token) × Int × Int := lex_Tokens_g2 ((2 * Int.toNat ((c.line.length : Int) - c.at_) + (bif c.error == 0 then 1 else 0)) + 1) [] c
def lex_Tokens (line : ByteArray) : (List Token) × Int × Int := bif (decide ((ByteArray.size line : Int) > 400)) then ([], 0, 3) else lex_Tokens_k1 (lex_Tokens_g1 line (runeList line) LexReader.zero)
theorem lex_Tokens_c (line : ByteArray) (hs0 : line.size <= 4294967296) : ∀ objs, AGives Tryz.prog 229 [Sg line] objs (AVal.tup [tokenL ((lex_Tokens line).1), I ((lex_Tokens line).2.1), I ((lex_Tokens line).2.2)]) := by
 generalize hR : lex_Tokens line = R; refine ga (l1 .nil) (Low.tup' (.cons lw (l1 (l1 .nil)))) (kp 12 [14, 18, 19, 20, 38, 51]) Tryz.func229 ?_; have hk0 := hs0; obtain z15 : line.size <= 4294967296 := hs0; refine ai (fun h1 => ?_) (fun h2 => ?_)
 ·have qh1 := of_decide_eq_true h1; obtain rfl := foll hR (ct h1 rfl); exact ret_seen (Low.tup' (.cons lw (l1 (l1 .nil)))) (Seen.tup (ev (seen_nil) (e1 (e1 .nil))))
 ·have qh2 := of_decide_eq_false h2; refine loop_start2 (fun (c : LexReader) (pos : Nat) => ∃ m, ByteArray.size line - pos <= m ∧ lex_Tokens_k1 (lex_Tokens_g1 line (strRunes line m pos) c) = R ∧ c.line.length <= pos ∧ pos <= ByteArray.size line ∧ c.at_ = 0) (fun c pos => ByteArray.size line - pos) (fun c pos => [(2, AVal.lit (.slice none 0 0)), (3, I 0), (4, I 0), (5, AVal.ptr 0 0 4 0 0), (18, AVal.ptr 1 0 1 0 0)]) (fun c pos => [(0, AObj.row 235 4 [[AVal.own 2 0 1 0 c.line.length, I c.at_, I c.bad, I c.error]]), (0, AObj.other (.strIter line pos)), (0, AObj.row 21 1 (c.line.map (fun q_ => [J q_])))]) LexReader.zero 0 ((weaker_none 21 1).trans (wk [0, 1, 2] (tO rfl (turn_row1 (cv (turn_nilown 2 rfl) (c1 (c1 (c1 .nil))))) (tO rfl (.strIter _ _) (tO rfl (tl eqA) .nil))) (s1 (s1 (s1 (sv (turn_ptr 0 rfl rfl) (sv (turn_ptr 1 rfl rfl) .nil))))))) ⟨ByteArray.size line, by first | (have hq := hrd _ (by assumption); omega) | exact omA, foll hR (cf h2 rfl), by first | (have hq := hrd _ (by assumption); exact ⟨hq.2.1.1, hq.2.1.2.1, hq.2.1.2.2, fun hz => by have hq3 := hq.2.2.2 hz; simp only [List.length_append, List.length_cons, List.length_nil]; omega⟩) | first | (refine ⟨by omega, by omega, by omega, fun _ => by simp; omega⟩) | first | (simp [LexReader.zero]; done) | first | (simp; omega) | exact exA⟩ ?_; clear hR; rintro c pos ⟨m, hm, hR, hx⟩; (try dsimp only at hR hm hx); refine ai (fun h3 => ?_) (fun h4 => ?_)
  ·have hlt := of_decide_eq_true h3; have hw := decode_pos line pos; have hwe := decode_end line pos hlt; obtain ⟨m, rfl⟩ := sucA m; rw [strRunes_cons h3] at hR; refine ai (fun _ => ?_) (fun h => nomatch h); refine Or.inl ?_; (first | refine ⟨app_ok 4 rfl lnA apA, ?_⟩ | refine ⟨app_nil 4 rfl apA, ?_⟩); exact loop_next2 { c with line := (c.line ++ ([(pos, ((Utf8.decode line pos).1 : Int)).2] : List Int)) } (pos + (Utf8.decode line pos).2) (wk [0, 1, 2] (tO rfl (turn_row1 (cv (to 2 lnA) (c1 (c1 (c1 .nil))))) (tO rfl (.strIter _ _) (tO rfl (tl eqA) .nil))) (s1 (s1 (s1 (sv (turn_ptr 0 rfl rfl) (sv (turn_ptr 1 rfl rfl) .nil)))))) (by first | (have hq := hrd _ (by assumption); omega) | exact omA) ⟨m, by first | (have hq := hrd _ (by assumption); omega) | exact omA, foll hR (congrArg (fun p : LexReader => lex_Tokens_k1 p) rfl), by first | (have hq := hrd _ (by assumption); exact ⟨hq.2.1.1, hq.2.1.2.1, hq.2.1.2.2, fun hz => by have hq3 := hq.2.2.2 hz; simp only [List.length_append, List.length_cons, List.length_nil]; omega⟩) | first | (refine ⟨by omega, by omega, by omega, fun _ => by simp; omega⟩) | first | (simp [LexReader.zero]; done) | first | (simp; omega) | exact exA⟩
  ·rw [strRunes_nil h4] at hR; refine ai (fun h => nomatch h) (fun _ => ?_); replace hR : lex_Tokens_k1 c = R := fo2 (fun p : LexReader => lex_Tokens_k1 p) (c) hR rfl; refine Or.inl ?_; refine ACalls.of_cwp (fun _ => true) Tryz.func236 rfl rfl ?_; refine ⟨_, _, Told.refl, ?_⟩; refine loop_start2 (fun (out : List Token) (c2 : LexReader) => ∃ m, (2 * Int.toNat ((c2.line.length : Int) - c2.at_) + (bif c2.error == 0 then 1 else 0)) < m ∧ lex_Tokens_g2 m out c2 = R ∧ 0 <= c2.at_ ∧ c2.at_ <= (c2.line.length : Int) ∧ c2.line.length <= 400 ∧ ((c2.error == 0) = true -> (out.length : Int) <= c2.at_)) (fun out c2 => (2 * Int.toNat ((c2.line.length : Int) - c2.at_) + (bif c2.error == 0 then 1 else 0))) (fun out c2 => [(2, AVal.lit (.slice none 0 0)), (3, I 0), (4, I 0), (5, AVal.ptr 0 0 4 0 0), (8, AVal.fn (.func 241) [] [AVal.ptr 1 0 1 0 0]), (9, AVal.own 2 0 4 0 out.length)]) (fun out c2 => [(0, AObj.row 235 4 [[runes c2.line, I c2.at_, I c2.bad, I c2.error]]), (0, AObj.row 42 1 [[ints ([1] : List Int)]]), (0, AObj.row 191 4 (out.map Token.cells))]) [] c ((weaker_none 191 4).trans (wk [0, 3, 4] (tO rfl (turn_row1 (cv (turn_listL _ _ rfl (Nat.zero_le _) (by decide) eqA (fun _ => lowL1 rfl) lnA) (c1 (c1 (c1 .nil))))) (tO rfl (turn_row1 (cv (turn_as (as_lits (c := (fun q_ => [I q_])) (d := 0) ([1] : List Int) rfl) lw) .nil)) (tO rfl (tl eqA) .nil))) (s1 (s1 (s1 (sv (turn_ptr 0 rfl rfl) (sv (turn_fn .nil (cv (turn_ptr 1 rfl rfl) .nil)) (sv (turn_nilown 2 rfl) .nil)))))))) ⟨_, Nat.lt_succ_self _, foll hR rfl, by first | (have hq := hrd _ (by assumption); exact ⟨hq.2.1.1, hq.2.1.2.1, hq.2.1.2.2, fun hz => by have hq3 := hq.2.2.2 hz; simp only [List.length_append, List.length_cons, List.length_nil]; omega⟩) | first | (refine ⟨by omega, by omega, by omega, fun _ => by simp; omega⟩) | first | (simp [LexReader.zero]; done) | first | (simp; omega) | exact exA⟩ ?_; clear hR; rintro out c2 ⟨m, hm, hR, hx⟩; (try dsimp only at hR hm hx); obtain ⟨m, rfl⟩ := sucA m; refine ai (fun h5 => ?_) (fun h6 => ?_)
   ·have hol := hx.2.2.2 h5; have hrd := fun (b : Int -> Bool) (hn : ((lex_reader_while c2 b).2.at_ == ((lex_reader_while c2 b).2.line.length : Int)) = false) => lex_round c2 _ b (by omega) (by omega) (by omega) h5 rfl hn; have cl1 : ∀ (y1 : Int), AMoves Tryz.prog 241 [J y1, AVal.ptr 0 0 1 0 0] [(0, AObj.row 42 1 [[ints ([1] : List Int)]])] 1 (Bo ((fun (y : Int) => lex_Tokens_g3 y ([1] : List Int) 0) y1)) [(0, AObj.row 42 1 [[ints ([1] : List Int)]])] := by
     intro y1; have hR : (fun (y : Int) => lex_Tokens_g3 y ([1] : List Int) 0) y1 = (fun (y : Int) => lex_Tokens_g3 y ([1] : List Int) 0) y1 := rfl; refine mo (kp 6 [6, 7, 8, 9, 15]) Tryz.func241 ?_; refine loop_start1 (fun (i : Nat) => lex_Tokens_g3 y1 (List.drop i ([1] : List Int)) i = (fun (y : Int) => lex_Tokens_g3 y ([1] : List Int) 0) y1 ∧ i <= ([1] : List Int).length) (fun i => ([1] : List Int).length - i) (fun i => [(0, J y1), (3, Bo false), (6, ints ([1] : List Int)), (7, I (([1] : List Int).length : Int)), (8, I (i : Int))]) (fun i => [(0, AObj.row 42 1 [[ints ([1] : List Int)]])]) 0 (wk [0] (tO rfl (ts (lv lw LowL.nil)) .nil) (s1 (s1 (sl lw (s1 (s1 .nil)))))) ⟨foll hR rfl, by exact omA⟩ ?_; clear hR; rintro i ⟨hR, hj⟩; (try dsimp only at hR hj); refine ai (fun h7 => ?_) (fun h8 => ?_)
     ·(have hlt : i < ([1] : List Int).length := by have := of_decide_eq_true h7; omega); rw [drop_getD 0 hlt] at hR; refine ai gkA ?_; refine us (runes_Class_c y1 _) ?_; refine ai (fun h9 => ?_) (fun h10 => ?_)
      ·refine ret_moves (fun r : Bool => Bo r) (fun _ => [(0, AObj.row 42 1 [[ints ([1] : List Int)]])]) (leaf := true) (foll hR (ct h9 rfl)) ?_; exact tt [0] (tO rfl (ts (lv lw LowL.nil)) .nil) t1
      ·exact loop_next1 (i + 1) (wk [0] (tO rfl (ts (lv lw LowL.nil)) .nil) (s1 (s1 (sl lw (s1 (sv (turn_eq (I_eq (wr omA)) lx) .nil)))))) omA ⟨foll hR (cf h10 rfl), by exact omA⟩
     ·rw [drop_none (l := ([1] : List Int)) (j := i) (geA h8)] at hR; refine ret_moves (fun r : Bool => Bo r) (fun _ => [(0, AObj.row 42 1 [[ints ([1] : List Int)]])]) (leaf := false) (foll hR rfl) ?_; exact tt [0] (tO rfl (ts (lv lw LowL.nil)) .nil) t1
    have hof1 : AMoves Tryz.prog 237 [AVal.ptr 0 0 4 0 0, AVal.fn (.func 241) [] [AVal.ptr 1 0 1 0 0]] [(0, AObj.row 235 4 [[runes c2.line, I c2.at_, I c2.bad, I c2.error]]), (0, AObj.row 42 1 [[ints ([1] : List Int)]])] 2 (Sg ((lex_reader_while c2 (fun (y : Int) => lex_Tokens_g3 y ([1] : List Int) 0)).1)) [(0, AObj.row 235 4 [[runes (((lex_reader_while c2 (fun (y : Int) => lex_Tokens_g3 y ([1] : List Int) 0)).2).line), I (((lex_reader_while c2 (fun (y : Int) => lex_Tokens_g3 y ([1] : List Int) 0)).2).at_), I (((lex_reader_while c2 (fun (y : Int) => lex_Tokens_g3 y ([1] : List Int) 0)).2).bad), I (((lex_reader_while c2 (fun (y : Int) => lex_Tokens_g3 y ([1] : List Int) 0)).2).error)]]), (0, AObj.row 42 1 [[ints ([1] : List Int)]])] := by
     have hR : lex_reader_while c2 (fun (y : Int) => lex_Tokens_g3 y ([1] : List Int) 0) = lex_reader_while c2 (fun (y : Int) => lex_Tokens_g3 y ([1] : List Int) 0) := rfl; refine mo (kp 6 [33]) Tryz.func237 ?_; refine loop_start1 (fun (c3 : LexReader) => ∃ m, (Int.toNat ((c3.line.length : Int) - c3.at_)) < m ∧ lex_reader_while_k1 c2 (lex_reader_while_g1 (fun (y : Int) => lex_Tokens_g3 y ([1] : List Int) 0) m c3) = lex_reader_while c2 (fun (y : Int) => lex_Tokens_g3 y ([1] : List Int) 0) ∧ 0 <= c3.at_ ∧ c3.at_ <= (c3.line.length : Int) ∧ c3.line.length <= 400 ∧ c2.at_ <= c3.at_ ∧ 0 <= c2.at_) (fun c3 => (Int.toNat ((c3.line.length : Int) - c3.at_))) (fun c3 => [(0, AVal.ptr 0 0 4 0 0), (1, AVal.fn (.func 241) [] [AVal.ptr 1 0 1 0 0]), (4, Sg ⟨#[]⟩), (5, I c2.at_)]) (fun c3 => [(0, AObj.row 235 4 [[runes c3.line, I c3.at_, I c3.bad, I c3.error]]), (0, AObj.row 42 1 [[ints ([1] : List Int)]])]) c2 (wk [0, 1] (tO rfl (ts LexReader.lo) (tO rfl (ts (lv lw LowL.nil)) .nil)) (sv (turn_ptr 0 rfl rfl) (sv (turn_fn .nil (cv (turn_ptr 1 rfl rfl) .nil)) (s1 (s1 .nil))))) ⟨_, Nat.lt_succ_self _, foll hR rfl, by exact exA⟩ ?_; clear hR; rintro c3 ⟨m, hm, hR, hx⟩; (try dsimp only at hR hm hx); obtain ⟨m, rfl⟩ := sucA m; refine dchk (by kernel_rfl) ?_; refine ai gkA ?_; (first | apply u2 | apply u3 | apply u4 | apply us); exact mv [1] (cl1 (c3.line.getD (Int.toNat c3.at_) 0)) (dO (ds (lv lw LowL.nil)) .nil) (d1 (dp .nil)) (rO (re (lv lw LowL.nil)) .nil) rx; (repeat ((first | refine ai rfl ?_ | refine ai (fun _ => rfl) ?_))); refine ai (fun h11 => ?_) (fun h12 => ?_)
     ·have hq1 := of_decide_eq_true ((Bool.and_eq_true _ _).mp h11).1; have hwr : w64 (c3.at_ + 1) = c3.at_ + 1 := wr (by omega); exact loop_next1 { c3 with at_ := (w64 (c3.at_ + 1)) } (wk [0, 1] (tO rfl (ts LexReader.lo) (tO rfl (ts (lv lw LowL.nil)) .nil)) (sv (turn_ptr 0 rfl rfl) (sv (turn_fn .nil (cv (turn_ptr 1 rfl rfl) .nil)) (s1 (s1 .nil))))) omA ⟨m, by exact omA, foll hR (congrArg (fun p : LexReader => lex_reader_while_k1 c2 p) (ct h11 rfl)), by exact exA⟩
     ·replace hR : lex_reader_while_k1 c2 c3 = lex_reader_while c2 (fun (y : Int) => lex_Tokens_g3 y ([1] : List Int) 0) := fo2 (fun p : LexReader => lex_reader_while_k1 c2 p) (c3) hR (cf h12 rfl); refine dchk (by kernel_rfl) ?_; refine ai gkA ?_; (first | refine ⟨(List.drop (Int.toNat c2.at_) (List.take (Int.toNat c3.at_) c3.line)), by exact cvA, ?_⟩ | refine ⟨_, fun _ => ⟨(List.drop (Int.toNat c2.at_) (List.take (Int.toNat c3.at_) c3.line)), by exact cvA, rfl, rfl⟩, ?_⟩ | refine ⟨_, rfl, ⟨(List.drop (Int.toNat c2.at_) (List.take (Int.toNat c3.at_) c3.line)), by exact cvA, Sub.refl _, rfl⟩, ?_⟩); (repeat ((first | refine ai rfl ?_ | refine ai (fun _ => rfl) ?_))); refine ret_moves (fun r : ByteArray × LexReader => Sg r.1) (fun r : ByteArray × LexReader => [(0, AObj.row 235 4 [[runes r.2.line, I r.2.at_, I r.2.bad, I r.2.error]]), (0, AObj.row 42 1 [[ints ([1] : List Int)]])]) (leaf := ((runesBytes (List.drop (Int.toNat c2.at_) (List.take (Int.toNat c3.at_) c3.line))), c3)) (foll hR rfl) ?_; exact tt [0, 1] (tO rfl (ts LexReader.lo) (tO rfl (ts (lv lw LowL.nil)) .nil)) t1
    refine us (mv [0, 1] (hof1) (dO (ds LexReader.lo) (dO (ds (lv lw LowL.nil)) .nil)) (dp (dv (dn_fn .nil (dp .nil)) .nil)) (rO (re LexReader.lo) (rO (re (lv lw LowL.nil)) .nil)) rx) ?_; refine dchk (by kernel_rfl) ?_; (repeat ((first | refine ai rfl ?_ | refine ai (fun _ => rfl) ?_))); refine ai (fun h13 => ?_) (fun h14 => ?_)
    ·refine dchk (by kernel_rfl) ?_; (repeat ((first | refine ai rfl ?_ | refine ai (fun _ => rfl) ?_))); obtain rfl := foll hR (ct h5 (ct h13 rfl)); exact ret_seen (Low.tup' (.cons lw (l1 (l1 .nil)))) (Seen.tup (ev (seen_list Token.zero _ rfl eqA lnA) (e1 (e1 .nil))))
    ·refine us (mv [0] (lex_reader_next_c ((lex_reader_while c2 (fun (y : Int) => lex_Tokens_g3 y ([1] : List Int) 0)).2) (by first | (exact Nat.le_trans (hrd _ (by assumption)).1.2.2 (by decide)) | exact szA) (by exact (hrd _ (by assumption)).1)) (dO (ds LexReader.lo) .nil) (dp .nil) (rO (re LexReader.lo) .nil) (Ren.low _ (Low.agg' (Token.lo)))) ?_; refine Or.inl ?_; (first | refine ⟨app_ok 40 rfl lnA apA, ?_⟩ | refine ⟨app_nil 40 rfl apA, ?_⟩); exact loop_next2 (out ++ ([{ (lex_reader_next ((lex_reader_while c2 (fun (y : Int) => lex_Tokens_g3 y ([1] : List Int) 0)).2)).1 with at_ := (lex_reader_while c2 (fun (y : Int) => lex_Tokens_g3 y ([1] : List Int) 0)).2.at_ }] : List Token)) ((lex_reader_next ((lex_reader_while c2 (fun (y : Int) => lex_Tokens_g3 y ([1] : List Int) 0)).2)).2) (wk [0, 1, 2] (tO rfl (ts LexReader.lo) (tO rfl (ts (lv lw LowL.nil)) (tO rfl (tl eqA) .nil))) (s1 (s1 (s1 (sv (turn_ptr 0 rfl rfl) (sv (turn_fn .nil (cv (turn_ptr 1 rfl rfl) .nil)) (sv (to 2 lnA) .nil))))))) (by first | (have hq := hrd _ (by assumption); omega) | exact omA) ⟨m, by first | (have hq := hrd _ (by assumption); omega) | exact omA, foll hR (ct h5 (cf h14 rfl)), by first | (have hq := hrd _ (by assumption); exact ⟨hq.2.1.1, hq.2.1.2.1, hq.2.1.2.2, fun hz => by have hq3 := hq.2.2.2 hz; simp only [List.length_append, List.length_cons, List.length_nil]; omega⟩) | first | (refine ⟨by omega, by omega, by omega, fun _ => by simp; omega⟩) | first | (simp [LexReader.zero]; done) | first | (simp; omega) | exact exA⟩
   ·refine dchk (by kernel_rfl) ?_; (repeat ((first | refine ai rfl ?_ | refine ai (fun _ => rfl) ?_))); obtain rfl := foll hR (cf h6 rfl); exact ret_seen (Low.tup' (.cons lw (l1 (l1 .nil)))) (Seen.tup (ev (seen_nil) (e1 (e1 .nil))))
def job_view_queued (v : Job) : Bool := ((((v.start == 0) && (v.limit == 0)) && (v.nodes == 0)) && (((v.promise == (-1)) && (v.choice == 0)) || (((job_tick v.promise) && (job_view_option v v.choice).2) && (!v.held))))
theorem job_view_queued_c (v : Job) (hs0 : v.sz) : ∀ objs, AGives Tryz.prog 176 [Job.a v] objs (Bo (job_view_queued v)) := by
 generalize hR : job_view_queued v = R; refine ga (.cons (Job.low _ _) .nil) lx (kp 6 []) Tryz.func176 ?_; have hk0 := hs0; obtain ⟨z1, z2, z3, z4, z5⟩ : v.name.size <= 4294967296 ∧ v.user.size <= 4294967296 ∧ v.account.size <= 4294967296 ∧ (v.shape.alts.length <= 4294967296) ∧ v.after.length <= 4294967296 := hs0; refine us (job_view_option_c v v.choice szA _) ?_; (first | apply u2 | apply u3 | apply u4 | apply us); exact job_tick_c v.promise _; obtain rfl := foll hR rfl; exact ret_seen lx sr
def job_view_running (v : Job) : Bool := bif (((((((!(job_view_option v v.choice).2) || v.held) || (!(job_tick v.start))) || (!(job_tick v.promise))) || (decide (v.promise < v.start))) || (!(job_tick v.limit))) || ((w64 (v.limit - v.start)) != (job_view_option v v.choice).1.wall)) then false else ((job_nodes v.nodes) && (shape_Allows v.shape v.choice (nodeset_Count v.nodes)))
theorem job_view_running_c (v : Job) (hs0 : v.sz) : ∀ objs, AGives Tryz.prog 177 [Job.a v] objs (Bo (job_view_running v)) := by
 generalize hR : job_view_running v = R; refine ga (.cons (Job.low _ _) .nil) lx (kp 5 [61]) Tryz.func177 ?_; have hk0 := hs0; obtain ⟨z3, z4, z5, z6, z7⟩ : v.name.size <= 4294967296 ∧ v.user.size <= 4294967296 ∧ v.account.size <= 4294967296 ∧ (v.shape.alts.length <= 4294967296) ∧ v.after.length <= 4294967296 := hs0; refine us (job_view_option_c v v.choice szA _) ?_; (first | apply u2 | apply u3 | apply u4 | apply us); exact job_tick_c v.start _; (first | apply u2 | apply u3 | apply u4 | apply us); exact job_tick_c v.promise _; (first | apply u2 | apply u3 | apply u4 | apply us); exact job_tick_c v.limit _; refine ai (fun h1 => ?_) (fun h2 => ?_)
 ·obtain rfl := foll hR (ct h1 rfl); exact ret_seen lx sr
 ·refine dchk (by kernel_rfl) ?_; (first | apply u2 | apply u3 | apply u4 | apply us); exact job_nodes_c v.nodes _; (first | apply u2 | apply u3 | apply u4 | apply us); exact nodeset_Count_c v.nodes _; (first | apply u2 | apply u3 | apply u4 | apply us); exact shape_Allows_c v.shape v.choice (nodeset_Count v.nodes) szA _; (repeat ((first | refine ai rfl ?_ | refine ai (fun _ => rfl) ?_ | refine ai (fun _ => job_nodes_c v.nodes _) ?_ | refine ai (fun _ => nodeset_Count_c v.nodes _) ?_ | refine ai (fun _ => shape_Allows_c v.shape v.choice (nodeset_Count v.nodes) szA _) ?_))); obtain rfl := foll hR (cf h2 rfl); exact ret_seen lx sr
def state_resize_k1 (s : State) (r_ : Resize) (j : Job) (c : Int) : Bool := bif (((state_where s (fun (y : Int) (y1 : Node) => ((y1.job == r_.job) && (y1.want == c)))) != (wu64 (BitVec.ofInt 64 r_.nodes &&& ~~~(BitVec.ofInt 64 r_.said)).toNat)) || (!(alloc_Quiet s.nodes r_.said))) then false else bif r_.grow then ((r_.nodes == (fleet_Of s.nodes r_.job 2)) && (decide ((w64 ((nodeset_Count j.nodes) + (nodeset_Count r_.nodes))) <= j.shape.max))) else (((wu64 (BitVec.ofInt 64 r_.nodes &&& ~~~(BitVec.ofInt 64 j.nodes)).toNat) == 0) && (decide ((w64 ((nodeset_Count j.nodes) - (nodeset_Count r_.nodes))) >= j.shape.min)))
def state_resize (s : State) (r_ : Resize) (j : Job) : Bool := bif (((((j.shape.kind != 3) || (r_.nodes == 0)) || ((wu64 (BitVec.ofInt 64 r_.said &&& ~~~(BitVec.ofInt 64 r_.nodes)).toNat) != 0)) || (decide (r_.since < 0))) || (decide (r_.since > 1000000))) then false else bif r_.grow then state_resize_k1 s r_ j 2 else state_resize_k1 s r_ j 4
theorem state_resize_c (s : State) (r_ : Resize) (j : Job) (hs0 : s.sz) (hs1 : j.sz) : ∀ objs, AGives Tryz.prog 98 [State.a s, Resize.a r_, Job.a j] objs (Bo (state_resize s r_ j)) := by
 generalize hR : state_resize s r_ j = R; refine ga (.cons (State.low _ _) (.cons (Resize.low _ _) (.cons (Job.low _ _) .nil))) lx (kj [1000006] 11 [37, 39, 57, 65]) Tryz.func98 ?_; have hk0 := hs0; obtain ⟨z13, z14, z15, z16, z17, z18, z19⟩ := hs0; have hk1 := hs1; obtain ⟨z20, z21, z22, z23, z24⟩ : j.name.size <= 4294967296 ∧ j.user.size <= 4294967296 ∧ j.account.size <= 4294967296 ∧ (j.shape.alts.length <= 4294967296) ∧ j.after.length <= 4294967296 := hs1; refine ai (fun h1 => ?_) (fun h2 => ?_)
 ·obtain rfl := foll hR (ct h1 rfl); exact ret_seen lx sr
 ·refine join_start1 (fun (c : Int) => state_resize_k1 s r_ j c = R) (fun c => [(3, AVal.ptr 0 0 8 0 0), (4, AVal.ptr 1 0 5 0 0), (5, AVal.ptr 2 0 20 0 0), (6, Bo false), (7, AVal.ptr 3 0 1 0 0)]) (fun c => [(0, AObj.row 28 8 [[I s.now, nodeL s.nodes, jobL s.jobs, resizeL s.resizes, bookL s.books, usageL s.ledger, I s.nextJob, I s.nextBook]]), (0, AObj.row 88 5 [[I r_.job, Bo r_.grow, U r_.nodes, U r_.said, I r_.since]]), (0, AObj.row 52 20 [[I j.id, Sg j.name, Sg j.user, Sg j.account, I j.shape.kind, altL j.shape.alts, I j.shape.min, I j.shape.max, I j.shape.wall, I j.prio, depL j.after, I j.state, Bo j.held, I j.born, I j.promise, I j.choice, I j.start, I j.limit, U j.nodes, I j.used]]), (0, AObj.row 3 1 [[I c]])]) ?_ ?_
  ·clear hR; rintro c hR; (try dsimp only at hR); have cl1 : ∀ (y1 : Int) (y2 : Node), AMoves Tryz.prog 136 [I y1, Node.a y2, AVal.ptr 0 0 5 0 0, AVal.ptr 1 0 1 0 0] [(0, AObj.row 88 5 [[I r_.job, Bo r_.grow, U r_.nodes, U r_.said, I r_.since]]), (0, AObj.row 3 1 [[I c]])] 2 (Bo ((fun (y : Int) (y1 : Node) => ((y1.job == r_.job) && (y1.want == c))) y1 y2)) [(0, AObj.row 88 5 [[I r_.job, Bo r_.grow, U r_.nodes, U r_.said, I r_.since]]), (0, AObj.row 3 1 [[I c]])] := by
    intro y1 y2; have hR : (fun (y : Int) (y1 : Node) => ((y1.job == r_.job) && (y1.want == c))) y1 y2 = (fun (y : Int) (y1 : Node) => ((y1.job == r_.job) && (y1.want == c))) y1 y2 := rfl; refine mo (kp 7 []) Tryz.func136 ?_; refine ret_moves (fun r : Bool => Bo r) (fun _ => [(0, AObj.row 88 5 [[I r_.job, Bo r_.grow, U r_.nodes, U r_.said, I r_.since]]), (0, AObj.row 3 1 [[I c]])]) (leaf := ((y2.job == r_.job) && (y2.want == c))) (foll hR rfl) ?_; exact tt [0, 1] (tO rfl (ts Resize.lo) (tO rfl (ts (l1 LowL.nil)) .nil)) t1
   have hof1 : AMoves Tryz.prog 135 [State.a s, AVal.fn (.func 136) [] [AVal.ptr 0 0 5 0 0, AVal.ptr 1 0 1 0 0]] [(0, AObj.row 88 5 [[I r_.job, Bo r_.grow, U r_.nodes, U r_.said, I r_.since]]), (0, AObj.row 3 1 [[I c]])] 2 (U (state_where s (fun (y : Int) (y1 : Node) => ((y1.job == r_.job) && (y1.want == c))))) [(0, AObj.row 88 5 [[I r_.job, Bo r_.grow, U r_.nodes, U r_.said, I r_.since]]), (0, AObj.row 3 1 [[I c]])] := by
    have hR : state_where s (fun (y : Int) (y1 : Node) => ((y1.job == r_.job) && (y1.want == c))) = state_where s (fun (y : Int) (y1 : Node) => ((y1.job == r_.job) && (y1.want == c))) := rfl; refine mo (kp 10 [11, 12, 13, 14, 21]) Tryz.func135 ?_; refine loop_start2 (fun (l : List Int) (i : Nat) => state_where_k1 (state_where_g1 (fun (y : Int) (y1 : Node) => ((y1.job == r_.job) && (y1.want == c))) (List.drop i s.nodes) l i) = state_where s (fun (y : Int) (y1 : Node) => ((y1.job == r_.job) && (y1.want == c))) ∧ i <= s.nodes.length ∧ l.length <= i) (fun l i => s.nodes.length - i) (fun l i => [(1, AVal.fn (.func 136) [] [AVal.ptr 0 0 5 0 0, AVal.ptr 1 0 1 0 0]), (4, U 0), (5, AVal.own 2 0 1 0 l.length), (11, nodeL s.nodes), (12, I (s.nodes.length : Int)), (13, I (i : Int))]) (fun l i => [(0, AObj.row 88 5 [[I r_.job, Bo r_.grow, U r_.nodes, U r_.said, I r_.since]]), (0, AObj.row 3 1 [[I c]]), (0, AObj.row 3 1 (l.map (fun q_ => [I q_])))]) [] 0 ((weaker_none 3 1).trans (wk [0, 1, 3] (tO rfl (ts Resize.lo) (tO rfl (ts (l1 LowL.nil)) (tO rfl (tl eqA) .nil))) (sv (turn_fn .nil (cv (turn_ptr 0 rfl rfl) (cv (turn_ptr 1 rfl rfl) .nil))) (s1 (sv (turn_nilown 2 rfl) (sl lw (s1 (s1 .nil)))))))) ⟨foll hR rfl, by exact omA, by exact exA⟩ ?_; clear hR; rintro l i ⟨hR, hj, hx⟩; (try dsimp only at hR hj hx); refine ai (fun h3 => ?_) (fun h4 => ?_)
    ·have hlt := ltA h3; rw [drop_getD Node.zero hlt] at hR; refine ai gkA ?_; refine us (mv [0, 1] (cl1 (i : Int) (s.nodes.getD i Node.zero)) (dO (ds Resize.lo) (dO (ds (l1 LowL.nil)) .nil)) (d1 (dl (Node.low _ _) (dp (dp .nil)))) (rO (re Resize.lo) (rO (re (l1 LowL.nil)) .nil)) rx) ?_; refine ai (fun h5 => ?_) (fun h6 => ?_)
     ·refine Or.inl ?_; (first | refine ⟨app_ok 8 rfl lnA apA, ?_⟩ | refine ⟨app_nil 8 rfl apA, ?_⟩); exact loop_next2 (l ++ ([(i : Int)] : List Int)) (i + 1) (wk [0, 1, 2] (tO rfl (ts Resize.lo) (tO rfl (ts (l1 LowL.nil)) (tO rfl (tl eqA) .nil))) (sv (turn_fn .nil (cv (turn_ptr 0 rfl rfl) (cv (turn_ptr 1 rfl rfl) .nil))) (s1 (sv (to 2 lnA) (sl lw (s1 (sv (turn_eq (I_eq (wr omA)) lx) .nil))))))) omA ⟨foll hR (congrArg (fun p : (List Int) => state_where_k1 p) (ct h5 rfl)), by exact omA, by exact exA⟩
     ·exact loop_next2 l (i + 1) (wk [0, 1, 2] (tO rfl (ts Resize.lo) (tO rfl (ts (l1 LowL.nil)) (tO rfl (tl eqA) .nil))) (sv (turn_fn .nil (cv (turn_ptr 0 rfl rfl) (cv (turn_ptr 1 rfl rfl) .nil))) (s1 (sv (to 2 lnA) (sl lw (s1 (sv (turn_eq (I_eq (wr omA)) lx) .nil))))))) omA ⟨foll hR (congrArg (fun p : (List Int) => state_where_k1 p) (cf h6 rfl)), by exact omA, by exact exA⟩
    ·rw [drop_none (l := s.nodes) (j := i) (geA h4)] at hR; replace hR : state_where_k1 l = state_where s (fun (y : Int) (y1 : Node) => ((y1.job == r_.job) && (y1.want == c))) := fo2 (fun p : (List Int) => state_where_k1 p) (l) hR rfl; refine us (AGives.lent (nodeset_Of_c l szA []) (ev (seen_list _ _ rfl eqA lnA) .nil) (.cons lw .nil) (bare2_sound rfl)) ?_; refine ret_moves (fun r : Int => U r) (fun r : Int => [(0, AObj.row 88 5 [[I r_.job, Bo r_.grow, U r_.nodes, U r_.said, I r_.since]]), (0, AObj.row 3 1 [[I c]])]) (leaf := (nodeset_Of l).1) (foll hR rfl) ?_; exact tt [0, 1] (tO rfl (ts Resize.lo) (tO rfl (ts (l1 LowL.nil)) .nil)) t1
   refine us (mv [1, 3] (hof1) (dO (ds Resize.lo) (dO (ds (l1 LowL.nil)) .nil)) (dv (dn_low (Low.agg' (State.lo))) (dv (dn_fn .nil (dp (dp .nil))) .nil)) (rO (re Resize.lo) (rO (re (l1 LowL.nil)) .nil)) rx) ?_; (first | apply u2 | apply u3 | apply u4 | apply us); exact alloc_Quiet_c s.nodes r_.said szA _; refine ai (fun h7 => ?_) (fun h8 => ?_)
   ·obtain rfl := foll hR (ct h7 rfl); exact ret_seen lx sr
   ·refine dchk (by kernel_rfl) ?_; (first | apply u2 | apply u3 | apply u4 | apply us); exact nodeset_Count_c j.nodes _; (first | apply u2 | apply u3 | apply u4 | apply us); exact nodeset_Count_c r_.nodes _; (repeat ((first | refine ai rfl ?_ | refine ai (fun _ => rfl) ?_ | refine ai (fun _ => nodeset_Count_c j.nodes _) ?_ | refine ai (fun _ => nodeset_Count_c r_.nodes _) ?_))); refine ai (fun h9 => ?_) (fun h10 => ?_)
    ·refine dchk (by kernel_rfl) ?_; (first | apply u2 | apply u3 | apply u4 | apply us); exact fleet_Of_c s.nodes r_.job 2 szA _; (repeat ((first | refine ai rfl ?_ | refine ai (fun _ => rfl) ?_ | refine ai (fun _ => fleet_Of_c s.nodes r_.job 2 szA _) ?_))); obtain rfl := foll hR (cf h8 (ct h9 rfl)); exact ret_seen lx sr
    ·obtain rfl := foll hR (cf h8 (cf h10 rfl)); exact ret_seen lx sr
  ·refine ai (fun h11 => ?_) (fun h12 => ?_)
   ·exact join_here1 2 (wk [0, 1, 2, 3] (tO rfl (ts State.lo) (tO rfl (ts Resize.lo) (tO rfl (ts Job.lo) (tO rfl (ts (l1 LowL.nil)) .nil)))) (sv (turn_ptr 0 rfl rfl) (sv (turn_ptr 1 rfl rfl) (sv (turn_ptr 2 rfl rfl) (s1 (sv (turn_ptr 3 rfl rfl) .nil)))))) (foll hR (cf h2 (ct h11 rfl)))
   ·exact join_here1 4 (wk [0, 1, 2, 3] (tO rfl (ts State.lo) (tO rfl (ts Resize.lo) (tO rfl (ts Job.lo) (tO rfl (ts (l1 LowL.nil)) .nil)))) (sv (turn_ptr 0 rfl rfl) (sv (turn_ptr 1 rfl rfl) (sv (turn_ptr 2 rfl rfl) (s1 (sv (turn_ptr 3 rfl rfl) .nil)))))) (foll hR (cf h2 (cf h12 rfl)))
def alloc_Held (l : List Node) (job : Int) : Int := bif (decide (job < 1)) then 0 else (fleet_Of l job 1)
theorem alloc_Held_c (l : List Node) (job : Int) (hs0 : l.length <= 4294967296) : ∀ objs, AGives Tryz.prog 57 [nodeL l, I job] objs (U (alloc_Held l job)) := by
 generalize hR : alloc_Held l job = R; refine ga (.cons lw (l1 .nil)) lx (kp 5 [6]) Tryz.func57 ?_; have hk0 := hs0; obtain z3 : l.length <= 4294967296 := hs0; refine ai (fun h1 => ?_) (fun h2 => ?_)
 ·have qh1 := of_decide_eq_true h1; obtain rfl := foll hR (ct h1 rfl); exact ret_seen lx sr
 ·have qh2 := of_decide_eq_false h2; refine us (fleet_Of_c l job 1 szA _) ?_; obtain rfl := foll hR (cf h2 rfl); exact ret_seen lx sr
end Go.Proofs.YtigcpfbpmnppcaaGreatDoor
namespace Go.Proofs.YtigcpfbpmnppcaaGreatDoor
set_option linter.unusedSimpArgs false
set_option linter.unusedVariables false
open Go.Fw
set_option maxRecDepth 20000
set_option maxHeartbeats 4000000
attribute [local irreducible] ACalls AMoves
def cmd_word (s : ByteArray) : Bool := bif ((((lex_Tokens s).2.2 != 0) || ((((lex_Tokens s).1).length : Int) != 1)) || (!(((((lex_Tokens s).1).getD 0 Token.zero).kind == 1) && (((((lex_Tokens s).1).getD 0 Token.zero).text == s) && (((((lex_Tokens s).1).getD 0 Token.zero).num == 0) && ((((lex_Tokens s).1).getD 0 Token.zero).at_ == 0)))))) then false else true
theorem cmd_word_c (s : ByteArray) (hs0 : s.size <= 4294967296) : ∀ objs, AGives Tryz.prog 205 [Sg s] objs (Bo (cmd_word s)) := by
 generalize hR : cmd_word s = R; refine ga (l1 .nil) lx (kp 3 []) Tryz.func205 ?_; have hk0 := hs0; obtain z3 : s.size <= 4294967296 := hs0; refine ACalls.of_cwp (fun _ => true) Tryz.func216 rfl rfl ?_; refine ACalls.of_cwp (fun _ => true) Tryz.func230 rfl rfl ?_; refine ai (fun h => nomatch h) (fun _ => ?_); refine ai (fun h => nomatch h) (fun _ => ?_); refine ⟨_, _, Told.refl, ?_⟩; refine us (lex_Tokens_c s szA _) ?_; refine dchk (by kernel_rfl) ?_; refine ai gkA ?_; refine ai (fun _ => (by kernel_rfl : eqOK _ _ = true)) ?_; (repeat ((first | refine ai rfl ?_ | refine ai (fun _ => rfl) ?_))); refine ai (fun h1 => ?_) (fun h2 => ?_)
 ·refine ⟨_, _, Told.refl, ?_⟩; obtain rfl := foll hR (ct h1 rfl); exact ret_seen lx sr
 ·refine ⟨_, _, Told.refl, ?_⟩; obtain rfl := foll hR (cf h2 rfl); exact ret_seen lx sr
end Go.Proofs.YtigcpfbpmnppcaaGreatDoor
namespace Go.Proofs.YtigcpfbpmnppcaaGreatDoor
set_option linter.unusedSimpArgs false
set_option linter.unusedVariables false
open Go.Fw
set_option maxRecDepth 20000
set_option maxHeartbeats 4000000
attribute [local irreducible] ACalls AMoves
def cmd_fits_k2 (c : Cmd) (i1 : Bool) : Bool := bif i1 then (cmd_within c.node 0 47) else bif (c.kind == 10) then (((cmd_within c.from_ 0 1000000) && c.hasTime) && (cmd_within c.nodes 1 48)) else ((c.kind == 12) && (cmd_within c.job 0 99999))
def cmd_fits_k1 (c : Cmd) (i : Bool) : Bool := bif i then (cmd_id c.job) else bif (c.kind == 5) then ((cmd_id c.job) && (c.hasPrio || c.hasTime)) else bif (c.kind == 6) then ((cmd_id c.job) && (cmd_within c.nodes 1 48)) else bif (c.kind == 7) then cmd_fits_k2 c (c.kind == 7) else bif (c.kind == 8) then cmd_fits_k2 c (c.kind == 8) else cmd_fits_k2 c (c.kind == 9)
def cmd_fits (c : Cmd) : Bool := bif ((((c.hasPrio && (!(cmd_within c.prio 0 100))) || (c.hasTime && (!(cmd_length c.time)))) || ((!c.hasPrio) && (c.prio != 0))) || ((!c.hasTime) && (c.time != 0))) then false else bif (c.kind == 1) then (((((((cmd_name c.name) && (cmd_name c.user)) && (cmd_name c.account)) && (cmd_word c.user)) && (cmd_word c.account)) && (cmd_deps c.after)) && ((shape_Check c.shape) == 0)) else bif (c.kind == 2) then cmd_fits_k1 c (c.kind == 2) else bif (c.kind == 3) then cmd_fits_k1 c (c.kind == 3) else bif (c.kind == 4) then cmd_fits_k1 c (c.kind == 4) else cmd_fits_k1 c (c.kind == 11)
theorem cmd_fits_c (c : Cmd) (hs0 : c.sz) : ∀ objs, AGives Tryz.prog 191 [Cmd.a c] objs (Bo (cmd_fits c)) := by
 generalize hR : cmd_fits c = R; refine ga (.cons (Cmd.low _ _) .nil) lx (kj [1000010, 1000018] 3 [40, 42, 43, 79, 87, 100, 110, 117]) Tryz.func191 ?_; have hk0 := hs0; obtain ⟨z25, z26, z27, z28, z29⟩ : c.name.size <= 4294967296 ∧ c.user.size <= 4294967296 ∧ c.account.size <= 4294967296 ∧ (c.shape.alts.length <= 4294967296) ∧ c.after.length <= 4294967296 := hs0; (first | apply u2 | apply u3 | apply u4 | apply us); exact cmd_within_c c.prio 0 100 _; (first | apply u2 | apply u3 | apply u4 | apply us); exact cmd_length_c c.time _; refine ai (fun h1 => ?_) (fun h2 => ?_)
 ·obtain rfl := foll hR (ct h1 rfl); exact ret_seen lx sr
 ·refine ai (fun h3 => ?_) (fun h4 => ?_)
  ·refine us (cmd_name_c c.name szA _) ?_; (first | apply u2 | apply u3 | apply u4 | apply us); exact cmd_name_c c.user szA _; (first | apply u2 | apply u3 | apply u4 | apply us); exact cmd_name_c c.account szA _; (first | apply u2 | apply u3 | apply u4 | apply us); exact cmd_word_c c.user szA _; (first | apply u2 | apply u3 | apply u4 | apply us); exact cmd_word_c c.account szA _; (first | apply u2 | apply u3 | apply u4 | apply us); exact cmd_deps_c c.after szA _; (first | apply u2 | apply u3 | apply u4 | apply us); exact shape_Check_c c.shape szA _; obtain rfl := foll hR (cf h2 (ct h3 rfl)); exact ret_seen lx sr
  ·refine join_start1 (fun (i : Bool) => cmd_fits_k1 c i = R) (fun i => [(1, AVal.ptr 0 0 18 0 0), (2, Bo false), (42, I c.kind), (79, Bo i)]) (fun i => [(0, AObj.row 151 18 [[I c.kind, I c.job, Sg c.name, Sg c.user, Sg c.account, I c.shape.kind, altL c.shape.alts, I c.shape.min, I c.shape.max, I c.shape.wall, I c.prio, Bo c.hasPrio, I c.time, Bo c.hasTime, depL c.after, I c.node, I c.nodes, I c.from_]])]) ?_ ?_
   ·clear hR; rintro i hR; (try dsimp only at hR); refine ai (fun h5 => ?_) (fun h6 => ?_)
    ·refine us (cmd_id_c c.job _) ?_; obtain rfl := foll hR (ct h5 rfl); exact ret_seen lx sr
    ·refine ai (fun h7 => ?_) (fun h8 => ?_)
     ·refine us (cmd_id_c c.job _) ?_; obtain rfl := foll hR (cf h6 (ct h7 rfl)); exact ret_seen lx sr
     ·refine ai (fun h9 => ?_) (fun h10 => ?_)
      ·refine us (cmd_id_c c.job _) ?_; (first | apply u2 | apply u3 | apply u4 | apply us); exact cmd_within_c c.nodes 1 48 _; obtain rfl := foll hR (cf h6 (cf h8 (ct h9 rfl))); exact ret_seen lx sr
      ·refine join_start1 (fun (i1 : Bool) => cmd_fits_k2 c i1 = R) (fun i1 => [(1, AVal.ptr 0 0 18 0 0), (2, Bo false), (42, I c.kind), (110, Bo i1)]) (fun i1 => [(0, AObj.row 151 18 [[I c.kind, I c.job, Sg c.name, Sg c.user, Sg c.account, I c.shape.kind, altL c.shape.alts, I c.shape.min, I c.shape.max, I c.shape.wall, I c.prio, Bo c.hasPrio, I c.time, Bo c.hasTime, depL c.after, I c.node, I c.nodes, I c.from_]])]) ?_ ?_
       ·clear hR; rintro i1 hR; (try dsimp only at hR); refine ai (fun h11 => ?_) (fun h12 => ?_)
        ·refine us (cmd_within_c c.node 0 47 _) ?_; obtain rfl := foll hR (ct h11 rfl); exact ret_seen lx sr
        ·refine ai (fun h13 => ?_) (fun h14 => ?_)
         ·refine us (cmd_within_c c.from_ 0 1000000 _) ?_; (first | apply u2 | apply u3 | apply u4 | apply us); exact cmd_within_c c.nodes 1 48 _; obtain rfl := foll hR (cf h12 (ct h13 rfl)); exact ret_seen lx sr
         ·(first | apply u2 | apply u3 | apply u4 | apply us); exact cmd_within_c c.job 0 99999 _; obtain rfl := foll hR (cf h12 (cf h14 rfl)); exact ret_seen lx sr
       ·refine ai (fun h15 => ?_) (fun h16 => ?_)
        ·exact join_here1 (c.kind == 7) (wk [0] (tO rfl (ts Cmd.lo) .nil) (sv (turn_ptr 0 rfl rfl) (s1 (s1 (s1 .nil))))) (foll hR (cf h6 (cf h8 (cf h10 (ct h15 rfl)))))
        ·refine ai (fun h17 => ?_) (fun h18 => ?_)
         ·exact join_here1 (c.kind == 8) (wk [0] (tO rfl (ts Cmd.lo) .nil) (sv (turn_ptr 0 rfl rfl) (s1 (s1 (s1 .nil))))) (foll hR (cf h6 (cf h8 (cf h10 (cf h16 (ct h17 rfl))))))
         ·exact join_here1 (c.kind == 9) (wk [0] (tO rfl (ts Cmd.lo) .nil) (sv (turn_ptr 0 rfl rfl) (s1 (s1 (s1 .nil))))) (foll hR (cf h6 (cf h8 (cf h10 (cf h16 (cf h18 rfl))))))
   ·refine ai (fun h19 => ?_) (fun h20 => ?_)
    ·exact join_here1 (c.kind == 2) (wk [0] (tO rfl (ts Cmd.lo) .nil) (sv (turn_ptr 0 rfl rfl) (s1 (s1 (s1 .nil))))) (foll hR (cf h2 (cf h4 (ct h19 rfl))))
    ·refine ai (fun h21 => ?_) (fun h22 => ?_)
     ·exact join_here1 (c.kind == 3) (wk [0] (tO rfl (ts Cmd.lo) .nil) (sv (turn_ptr 0 rfl rfl) (s1 (s1 (s1 .nil))))) (foll hR (cf h2 (cf h4 (cf h20 (ct h21 rfl)))))
     ·refine ai (fun h23 => ?_) (fun h24 => ?_)
      ·exact join_here1 (c.kind == 4) (wk [0] (tO rfl (ts Cmd.lo) .nil) (sv (turn_ptr 0 rfl rfl) (s1 (s1 (s1 .nil))))) (foll hR (cf h2 (cf h4 (cf h20 (cf h22 (ct h23 rfl))))))
      ·exact join_here1 (c.kind == 11) (wk [0] (tO rfl (ts Cmd.lo) .nil) (sv (turn_ptr 0 rfl rfl) (s1 (s1 (s1 .nil))))) (foll hR (cf h2 (cf h4 (cf h20 (cf h22 (cf h24 rfl))))))
end Go.Proofs.YtigcpfbpmnppcaaGreatDoor
namespace Go.Proofs.YtigcpfbpmnppcaaGreatDoor
set_option linter.unusedSimpArgs false
set_option linter.unusedVariables false
open Go.Fw
set_option maxRecDepth 20000
set_option maxHeartbeats 4000000
attribute [local irreducible] ACalls AMoves
def cmd_Check (c : Cmd) : Int := bif ((((decide ((c.shape.alts.length : Int) > 6)) || (decide ((c.after.length : Int) > 4))) || (!(cmd_fits c))) || (!(cmd_Same c (cmd_bare c)))) then 80 else 0
theorem cmd_Check_c (c : Cmd) (hs0 : c.sz) : ∀ objs, AGives Tryz.prog 172 [Cmd.a c] objs (I (cmd_Check c)) := by
 generalize hR : cmd_Check c = R; refine ga (.cons (Cmd.low _ _) .nil) lx (kp 3 [25]) Tryz.func172 ?_; have hk0 := hs0; obtain ⟨z3, z4, z5, z6, z7⟩ : c.name.size <= 4294967296 ∧ c.user.size <= 4294967296 ∧ c.account.size <= 4294967296 ∧ (c.shape.alts.length <= 4294967296) ∧ c.after.length <= 4294967296 := hs0; refine dchk (by kernel_rfl) ?_; (first | apply u2 | apply u3 | apply u4 | apply us); exact cmd_fits_c c (by first | (exact cmd_bare_sz _ (by assumption)) | exact szA) _; (first | apply u2 | apply u3 | apply u4 | apply us); exact cmd_bare_c c (by first | (exact cmd_bare_sz _ (by assumption)) | exact szA) _; (first | apply u2 | apply u3 | apply u4 | apply us); exact cmd_Same_c c (cmd_bare c) (by first | (exact cmd_bare_sz _ (by assumption)) | exact szA) (by first | (exact cmd_bare_sz _ (by assumption)) | exact szA) _; (repeat ((first | refine ai rfl ?_ | refine ai (fun _ => rfl) ?_ | refine ai (fun _ => cmd_fits_c c (by first | (exact cmd_bare_sz _ (by assumption)) | exact szA) _) ?_ | refine ai (fun _ => cmd_bare_c c (by first | (exact cmd_bare_sz _ (by assumption)) | exact szA) _) ?_ | refine ai (fun _ => cmd_Same_c c (cmd_bare c) (by first | (exact cmd_bare_sz _ (by assumption)) | exact szA) (by first | (exact cmd_bare_sz _ (by assumption)) | exact szA) _) ?_))); refine ai (fun h1 => ?_) (fun h2 => ?_)
 ·obtain rfl := foll hR (ct h1 rfl); exact ret_seen lx sr
 ·obtain rfl := foll hR (cf h2 rfl); exact ret_seen lx sr
end Go.Proofs.YtigcpfbpmnppcaaGreatDoor
namespace Go.Proofs.YtigcpfbpmnppcaaGreatDoor
set_option linter.unusedSimpArgs false
set_option linter.unusedVariables false
open Go.Fw
set_option maxRecDepth 20000
set_option maxHeartbeats 4000000
attribute [local irreducible] ACalls AMoves
def job_Check (j : Job) : Int := bif ((((((decide (j.id < 1)) || (decide (j.id > 99999))) || (!(job_tick j.born))) || (j.used != (sat_Usage j.used))) || ((cmd_Check (job_view_submission j)) != 0)) || (slices_ContainsFunc_Dep j.after (fun (y : Dep) => (decide (y.job >= j.id))))) then 140 else bif (j.state == 1) then bif (!(job_view_queued j)) then 140 else 0 else bif (j.state == 2) then bif (!(job_view_running j)) then 140 else 0 else bif (!(job_ended j.state)) then 140 else bif (!(job_view_over j)) then 140 else 0
theorem job_Check_c (j : Job) (hs0 : j.sz) : ∀ objs, AGives Tryz.prog 144 [Job.a j] objs (I (job_Check j)) := by
 generalize hR : job_Check j = R; refine ga (.cons (Job.low _ _) .nil) lx (kp 6 [42, 45, 51, 57, 64]) Tryz.func144 ?_; have hk0 := hs0; obtain ⟨z19, z20, z21, z22, z23⟩ : j.name.size <= 4294967296 ∧ j.user.size <= 4294967296 ∧ j.account.size <= 4294967296 ∧ (j.shape.alts.length <= 4294967296) ∧ j.after.length <= 4294967296 := hs0; refine dchk (by kernel_rfl) ?_; (first | apply u2 | apply u3 | apply u4 | apply us); exact job_tick_c j.born _; (first | apply u2 | apply u3 | apply u4 | apply us); exact sat_Usage_c j.used _; (first | apply u2 | apply u3 | apply u4 | apply us); exact job_view_submission_c j _; (first | apply u2 | apply u3 | apply u4 | apply us); exact cmd_Check_c (job_view_submission j) szA _; have cl1 : ∀ (y1 : Dep), AMoves Tryz.prog 170 [Dep.a y1, AVal.ptr 0 0 20 0 0] [(0, AObj.row 52 20 [[I j.id, Sg j.name, Sg j.user, Sg j.account, I j.shape.kind, altL j.shape.alts, I j.shape.min, I j.shape.max, I j.shape.wall, I j.prio, depL j.after, I j.state, Bo j.held, I j.born, I j.promise, I j.choice, I j.start, I j.limit, U j.nodes, I j.used]])] 1 (Bo ((fun (y : Dep) => (decide (y.job >= j.id))) y1)) [(0, AObj.row 52 20 [[I j.id, Sg j.name, Sg j.user, Sg j.account, I j.shape.kind, altL j.shape.alts, I j.shape.min, I j.shape.max, I j.shape.wall, I j.prio, depL j.after, I j.state, Bo j.held, I j.born, I j.promise, I j.choice, I j.start, I j.limit, U j.nodes, I j.used]])] := by
  intro y1; have hR : (fun (y : Dep) => (decide (y.job >= j.id))) y1 = (fun (y : Dep) => (decide (y.job >= j.id))) y1 := rfl; refine mo (kp 4 []) Tryz.func170 ?_; refine ret_moves (fun r : Bool => Bo r) (fun _ => [(0, AObj.row 52 20 [[I j.id, Sg j.name, Sg j.user, Sg j.account, I j.shape.kind, altL j.shape.alts, I j.shape.min, I j.shape.max, I j.shape.wall, I j.prio, depL j.after, I j.state, Bo j.held, I j.born, I j.promise, I j.choice, I j.start, I j.limit, U j.nodes, I j.used]])]) (leaf := (decide (y1.job >= j.id))) (foll hR rfl) ?_; exact tt [0] (tO rfl (ts Job.lo) .nil) t1
 have hof1 : AMoves Tryz.prog 174 [depL j.after, AVal.fn (.func 170) [] [AVal.ptr 0 0 20 0 0]] [(0, AObj.row 52 20 [[I j.id, Sg j.name, Sg j.user, Sg j.account, I j.shape.kind, altL j.shape.alts, I j.shape.min, I j.shape.max, I j.shape.wall, I j.prio, depL j.after, I j.state, Bo j.held, I j.born, I j.promise, I j.choice, I j.start, I j.limit, U j.nodes, I j.used]])] 1 (Bo (slices_ContainsFunc_Dep j.after (fun (y : Dep) => (decide (y.job >= j.id))))) [(0, AObj.row 52 20 [[I j.id, Sg j.name, Sg j.user, Sg j.account, I j.shape.kind, altL j.shape.alts, I j.shape.min, I j.shape.max, I j.shape.wall, I j.prio, depL j.after, I j.state, Bo j.held, I j.born, I j.promise, I j.choice, I j.start, I j.limit, U j.nodes, I j.used]])] := by
  have hR : slices_ContainsFunc_Dep j.after (fun (y : Dep) => (decide (y.job >= j.id))) = slices_ContainsFunc_Dep j.after (fun (y : Dep) => (decide (y.job >= j.id))) := rfl; refine mo (kp 5 []) Tryz.func174 ?_; have hof2 : AMoves Tryz.prog 194 [depL j.after, AVal.fn (.func 170) [] [AVal.ptr 0 0 20 0 0]] [(0, AObj.row 52 20 [[I j.id, Sg j.name, Sg j.user, Sg j.account, I j.shape.kind, altL j.shape.alts, I j.shape.min, I j.shape.max, I j.shape.wall, I j.prio, depL j.after, I j.state, Bo j.held, I j.born, I j.promise, I j.choice, I j.start, I j.limit, U j.nodes, I j.used]])] 1 (I (slices_IndexFunc_Dep j.after (fun (y : Dep) => (decide (y.job >= j.id))))) [(0, AObj.row 52 20 [[I j.id, Sg j.name, Sg j.user, Sg j.account, I j.shape.kind, altL j.shape.alts, I j.shape.min, I j.shape.max, I j.shape.wall, I j.prio, depL j.after, I j.state, Bo j.held, I j.born, I j.promise, I j.choice, I j.start, I j.limit, U j.nodes, I j.used]])] := by
   have hR : slices_IndexFunc_Dep j.after (fun (y : Dep) => (decide (y.job >= j.id))) = slices_IndexFunc_Dep j.after (fun (y : Dep) => (decide (y.job >= j.id))) := rfl; refine mo (kp 6 [7, 8, 9, 16]) Tryz.func194 ?_; refine loop_start1 (fun (i : Nat) => slices_IndexFunc_Dep_g1 (fun (y : Dep) => (decide (y.job >= j.id))) (List.drop i j.after) i = slices_IndexFunc_Dep j.after (fun (y : Dep) => (decide (y.job >= j.id))) ∧ i <= j.after.length) (fun i => j.after.length - i) (fun i => [(0, depL j.after), (1, AVal.fn (.func 170) [] [AVal.ptr 0 0 20 0 0]), (4, I 0), (7, I (j.after.length : Int)), (8, I (i : Int))]) (fun i => [(0, AObj.row 52 20 [[I j.id, Sg j.name, Sg j.user, Sg j.account, I j.shape.kind, altL j.shape.alts, I j.shape.min, I j.shape.max, I j.shape.wall, I j.prio, depL j.after, I j.state, Bo j.held, I j.born, I j.promise, I j.choice, I j.start, I j.limit, U j.nodes, I j.used]])]) 0 (wk [0] (tO rfl (ts Job.lo) .nil) (sl lw (sv (turn_fn .nil (cv (turn_ptr 0 rfl rfl) .nil)) (s1 (s1 (s1 .nil)))))) ⟨foll hR rfl, by exact omA⟩ ?_; clear hR; rintro i ⟨hR, hj⟩; (try dsimp only at hR hj); refine ai (fun h1 => ?_) (fun h2 => ?_)
   ·have hlt := ltA h1; rw [drop_getD Dep.zero hlt] at hR; refine ai gkA ?_; refine us (mv [0] (cl1 (j.after.getD i Dep.zero)) (dO (ds Job.lo) .nil) (dl (Dep.low _ _) (dp .nil)) (rO (re Job.lo) .nil) rx) ?_; refine ai (fun h3 => ?_) (fun h4 => ?_)
    ·refine ret_moves (fun r : Int => I r) (fun r : Int => [(0, AObj.row 52 20 [[I j.id, Sg j.name, Sg j.user, Sg j.account, I j.shape.kind, altL j.shape.alts, I j.shape.min, I j.shape.max, I j.shape.wall, I j.prio, depL j.after, I j.state, Bo j.held, I j.born, I j.promise, I j.choice, I j.start, I j.limit, U j.nodes, I j.used]])]) (leaf := (i : Int)) (foll hR (ct h3 rfl)) ?_; exact tt [0] (tO rfl (ts Job.lo) .nil) t1
    ·exact loop_next1 (i + 1) (wk [0] (tO rfl (ts Job.lo) .nil) (sl lw (sv (turn_fn .nil (cv (turn_ptr 0 rfl rfl) .nil)) (s1 (s1 (sv (turn_eq (I_eq (wr omA)) lx) .nil)))))) omA ⟨foll hR (cf h4 rfl), by exact omA⟩
   ·rw [drop_none (l := j.after) (j := i) (geA h2)] at hR; refine ret_moves (fun r : Int => I r) (fun r : Int => [(0, AObj.row 52 20 [[I j.id, Sg j.name, Sg j.user, Sg j.account, I j.shape.kind, altL j.shape.alts, I j.shape.min, I j.shape.max, I j.shape.wall, I j.prio, depL j.after, I j.state, Bo j.held, I j.born, I j.promise, I j.choice, I j.start, I j.limit, U j.nodes, I j.used]])]) (leaf := (-1)) (foll hR rfl) ?_; exact tt [0] (tO rfl (ts Job.lo) .nil) t1
  refine us (mv [0] (hof2) (dO (ds Job.lo) .nil) (dl lw (dv (dn_fn .nil (dp .nil)) .nil)) (rO (re Job.lo) .nil) rx) ?_; refine ret_moves (fun r : Bool => Bo r) (fun r : Bool => [(0, AObj.row 52 20 [[I j.id, Sg j.name, Sg j.user, Sg j.account, I j.shape.kind, altL j.shape.alts, I j.shape.min, I j.shape.max, I j.shape.wall, I j.prio, depL j.after, I j.state, Bo j.held, I j.born, I j.promise, I j.choice, I j.start, I j.limit, U j.nodes, I j.used]])]) (leaf := (decide ((slices_IndexFunc_Dep j.after (fun (y : Dep) => (decide (y.job >= j.id)))) >= 0))) (foll hR rfl) ?_; exact tt [0] (tO rfl (ts Job.lo) .nil) t1
 (first | apply u2 | apply u3 | apply u4 | apply us); exact mv [0] (hof1) (dO (ds Job.lo) .nil) (dl lw (dv (dn_fn .nil (dp .nil)) .nil)) (rO (re Job.lo) .nil) rx; (repeat ((first | refine ai rfl ?_ | refine ai (fun _ => rfl) ?_ | refine ai (fun _ => job_tick_c j.born _) ?_ | refine ai (fun _ => sat_Usage_c j.used _) ?_ | refine ai (fun _ => job_view_submission_c j _) ?_ | refine ai (fun _ => cmd_Check_c (job_view_submission j) szA _) ?_))); refine ai (fun h5 => ?_) (fun h6 => ?_)
 ·obtain rfl := foll hR (ct h5 rfl); exact ret_seen lx sr
 ·refine ai (fun h7 => ?_) (fun h8 => ?_)
  ·refine us (job_view_queued_c j szA _) ?_; refine ai (fun h9 => ?_) (fun h10 => ?_)
   ·obtain rfl := foll hR (cf h6 (ct h7 (ct h9 rfl))); exact ret_seen lx sr
   ·obtain rfl := foll hR (cf h6 (ct h7 (cf h10 rfl))); exact ret_seen lx sr
  ·refine ai (fun h11 => ?_) (fun h12 => ?_)
   ·refine us (job_view_running_c j szA _) ?_; refine ai (fun h13 => ?_) (fun h14 => ?_)
    ·obtain rfl := foll hR (cf h6 (cf h8 (ct h11 (ct h13 rfl)))); exact ret_seen lx sr
    ·obtain rfl := foll hR (cf h6 (cf h8 (ct h11 (cf h14 rfl)))); exact ret_seen lx sr
   ·refine us (job_ended_c j.state _) ?_; refine ai (fun h15 => ?_) (fun h16 => ?_)
    ·obtain rfl := foll hR (cf h6 (cf h8 (cf h12 (ct h15 rfl)))); exact ret_seen lx sr
    ·refine us (job_view_over_c j _) ?_; refine ai (fun h17 => ?_) (fun h18 => ?_)
     ·obtain rfl := foll hR (cf h6 (cf h8 (cf h12 (cf h16 (ct h17 rfl))))); exact ret_seen lx sr
     ·obtain rfl := foll hR (cf h6 (cf h8 (cf h12 (cf h16 (cf h18 rfl))))); exact ret_seen lx sr
end Go.Proofs.YtigcpfbpmnppcaaGreatDoor
namespace Go.Proofs.YtigcpfbpmnppcaaGreatDoor
set_option linter.unusedSimpArgs false
set_option linter.unusedVariables false
open Go.Fw
set_option maxRecDepth 20000
set_option maxHeartbeats 4000000
attribute [local irreducible] ACalls AMoves
def table_Check_g1 (l : List Job) : List Job -> Nat -> Int
 | [], _ => 0
 | x_ :: r, i => bif (((job_Check x_) != 0) || ((decide ((i : Int) > 0)) && (decide ((l.getD (Int.toNat (w64 ((i : Int) - 1))) Job.zero).id >= x_.id)))) then 140 else table_Check_g1 l r (i + 1)
def table_Check (l : List Job) : Int := bif (decide ((l.length : Int) > 40)) then 140 else table_Check_g1 l l 0
theorem table_Check_c (l : List Job) (hs0 : l.length <= 4294967296 ∧ (∀ y ∈ l, y.sz)) : ∀ objs, AGives Tryz.prog 134 [jobL l] objs (I (table_Check l)) := by
 generalize hR : table_Check l = R; refine ga (.cons lw .nil) lx (kp 5 [7, 8, 9, 10, 11, 32]) Tryz.func134 ?_; have hk0 := hs0; obtain ⟨z12, z13⟩ : l.length <= 4294967296 ∧ (∀ y ∈ l, y.sz) := hs0; refine ai (fun h1 => ?_) (fun h2 => ?_)
 ·have qh1 := of_decide_eq_true h1; obtain rfl := foll hR (ct h1 rfl); exact ret_seen lx sr
 ·have qh2 := of_decide_eq_false h2; refine loop_start1 (fun (i : Nat) => table_Check_g1 l (List.drop i l) i = R ∧ i <= l.length) (fun i => l.length - i) (fun i => [(0, jobL l), (2, I 0), (8, jobL l), (9, I (l.length : Int)), (10, I (i : Int))]) (fun i => []) 0 (wk [] .nil (sl lw (s1 (sl lw (s1 (s1 .nil)))))) ⟨foll hR (cf h2 rfl), by exact omA⟩ ?_; clear hR; rintro i ⟨hR, hj⟩; (try dsimp only at hR hj); refine ai (fun h3 => ?_) (fun h4 => ?_)
  ·have hlt := ltA h3; rw [drop_getD Job.zero hlt] at hR; have hxz : (l.getD i Job.zero).sz := getD_sz (by first | assumption | grind) (Job.szz _); have hkz := hxz; obtain ⟨z5, z6, z7, z8, z9⟩ : ((l.getD i Job.zero).name).size <= 4294967296 ∧ ((l.getD i Job.zero).user).size <= 4294967296 ∧ ((l.getD i Job.zero).account).size <= 4294967296 ∧ ((((l.getD i Job.zero).shape).alts).length <= 4294967296) ∧ ((l.getD i Job.zero).after).length <= 4294967296 := hxz; refine ai gkA ?_; refine dchk (by kernel_rfl) ?_; (first | apply u2 | apply u3 | apply u4 | apply us); exact job_Check_c (l.getD i Job.zero) szA _; refine ai gkA ?_; (repeat ((first | refine ai rfl ?_ | refine ai (fun _ => rfl) ?_ | refine ai (fun _ => job_Check_c (l.getD i Job.zero) szA _) ?_))); refine ai (fun h10 => ?_) (fun h11 => ?_)
   ·obtain rfl := foll hR (ct h10 rfl); exact ret_seen lx sr
   ·exact loop_next1 (i + 1) (wk [] .nil (sl lw (s1 (sl lw (s1 (sv (turn_eq (I_eq (wr omA)) lx) .nil)))))) omA ⟨foll hR (cf h11 rfl), by exact omA⟩
  ·rw [drop_none (l := l) (j := i) (geA h4)] at hR; obtain rfl := foll hR rfl; exact ret_seen lx sr
def job_Charge (j : Job) (n : Int) : Job × Int := bif ((job_Check j) != 0) then (Job.zero, (job_Check j)) else bif ((job_when (j.state == 2)) != 0) then (Job.zero, (job_when (j.state == 2))) else ({ j with used := (sat_Plus ([j.used, n] : List Int)) }, 0)
theorem job_Charge_c (j : Job) (n : Int) (hs0 : j.sz) : ∀ objs, AGives Tryz.prog 67 [Job.a j, I n] objs (AVal.tup [Job.a ((job_Charge j n).1), I ((job_Charge j n).2)]) := by
 generalize hR : job_Charge j n = R; refine ga (.cons (Job.low _ _) (l1 .nil)) (Low.tup' (.cons (Job.low _ _) (l1 .nil))) (kp 6 []) Tryz.func67 ?_; have hk0 := hs0; obtain ⟨z5, z6, z7, z8, z9⟩ : j.name.size <= 4294967296 ∧ j.user.size <= 4294967296 ∧ j.account.size <= 4294967296 ∧ (j.shape.alts.length <= 4294967296) ∧ j.after.length <= 4294967296 := hs0; refine ACalls.of_cwp (fun _ => true) Tryz.func108 rfl rfl ?_; refine us (job_Check_c j szA _) ?_; refine ai (fun h1 => ?_) (fun h2 => ?_)
 ·refine ⟨_, _, Told.refl, ?_⟩; obtain rfl := foll hR (ct h1 rfl); exact ret_seen (Low.tup' (.cons (Job.low _ _) (l1 .nil))) (Seen.tup (ev (Seen.agg (e1 (e1 (e1 (e1 (e1 (ev (seen_nil) (e1 (e1 (e1 (e1 (ev (seen_nil) (e1 (e1 (e1 (e1 (e1 (e1 (e1 (e1 (e1 .nil))))))))))))))))))))) (e1 .nil)))
 ·refine ACalls.of_cwp (fun _ => true) Tryz.func109 rfl rfl ?_; refine us (job_when_c (j.state == 2) _) ?_; refine ⟨_, _, Told.refl, ?_⟩; refine ai (fun h3 => ?_) (fun h4 => ?_)
  ·refine ⟨_, _, Told.refl, ?_⟩; obtain rfl := foll hR (cf h2 (ct h3 rfl)); exact ret_seen (Low.tup' (.cons (Job.low _ _) (l1 .nil))) (Seen.tup (ev (Seen.agg (e1 (e1 (e1 (e1 (e1 (ev (seen_nil) (e1 (e1 (e1 (e1 (ev (seen_nil) (e1 (e1 (e1 (e1 (e1 (e1 (e1 (e1 (e1 .nil))))))))))))))))))))) (e1 .nil)))
  ·refine us (job_copied_c j szA _) ?_; refine ACalls.of_cwp (fun _ => true) Tryz.func111 rfl rfl ?_; refine dchk (by kernel_rfl) ?_; (first | apply u2 | apply u3 | apply u4 | apply us); exact AGives.as2 (sat_Plus_c ([j.used, n] : List Int) szA _) (av (as_lits (c := (fun q_ => [I q_])) (d := 0) ([j.used, n] : List Int) rfl) .nil); (repeat ((first | refine ai rfl ?_ | refine ai (fun _ => rfl) ?_ | refine ai (fun _ => AGives.as2 (sat_Plus_c ([j.used, n] : List Int) szA _) (av (as_lits (c := (fun q_ => [I q_])) (d := 0) ([j.used, n] : List Int) rfl) .nil)) ?_))); refine ⟨_, _, Told.refl, ?_⟩; refine ⟨_, _, Told.refl, ?_⟩; obtain rfl := foll hR (cf h2 (cf h4 rfl)); exact ret_seen (Low.tup' (.cons (Job.low _ _) (l1 .nil))) (Seen.tup (e1 (e1 .nil)))
theorem job_Charge_sz {j : Job} {n : Int} (h : j.sz) : (job_Charge j n).1.sz := by
 unfold job_Charge
 cases ((job_Check j) != 0) with
 | true => exact Job.szz _
 | false =>
  cases ((job_when (j.state == 2)) != 0) with
  | true => exact Job.szz _
  | false => exact h
theorem tick_jobs {c : State} (h : c.sz) (i : Nat) (n : Int) : ({ c with jobs := c.jobs.set i (job_Charge (c.jobs.getD i Job.zero) n).1 } : State).sz :=
 ⟨h.1, by show (c.jobs.set i _).length <= _; rw [List.length_set]; exact h.2.1, set_sz h.2.2.1 (job_Charge_sz (getD_sz h.2.2.1 (Job.szz _))) i, h.2.2.2⟩
end Go.Proofs.YtigcpfbpmnppcaaGreatDoor
namespace Go.Proofs.YtigcpfbpmnppcaaGreatDoor
set_option linter.unusedSimpArgs false
set_option linter.unusedVariables false
open Go.Fw
set_option maxRecDepth 20000
set_option maxHeartbeats 4000000
attribute [local irreducible] ACalls AMoves
def room_Check (s : State) : Int := bif (((((decide (s.now < 0)) || (decide (s.now > 1000000))) || ((fleet_Check s.nodes) != 0)) || ((table_Check s.jobs) != 0)) || ((book_Check s.books) != 0)) then 141 else 0
theorem room_Check_c (s : State) (hs0 : s.sz) : ∀ objs, AGives Tryz.prog 97 [State.a s] objs (I (room_Check s)) := by
 generalize hR : room_Check s = R; refine ga (.cons (State.low _ _) .nil) lx (kp 3 [28]) Tryz.func97 ?_; have hk0 := hs0; obtain ⟨z3, z4, z5, z6, z7, z8, z9⟩ := hs0; (first | apply u2 | apply u3 | apply u4 | apply us); exact fleet_Check_c s.nodes szA _; (first | apply u2 | apply u3 | apply u4 | apply us); exact table_Check_c s.jobs szA _; (first | apply u2 | apply u3 | apply u4 | apply us); exact book_Check_c s.books szA _; refine ai (fun h1 => ?_) (fun h2 => ?_)
 ·obtain rfl := foll hR (ct h1 rfl); exact ret_seen lx sr
 ·obtain rfl := foll hR (cf h2 rfl); exact ret_seen lx sr
end Go.Proofs.YtigcpfbpmnppcaaGreatDoor
namespace Go.Proofs.YtigcpfbpmnppcaaGreatDoor
set_option linter.unusedSimpArgs false
set_option linter.unusedVariables false
open Go.Fw
set_option maxRecDepth 20000
set_option maxHeartbeats 4000000
attribute [local irreducible] ACalls AMoves
def plan_Check (s : State) : Int := bif (((room_Check s) != 0) || ((ledger_Check s.ledger) != 0)) then 141 else 0
theorem plan_Check_c (s : State) (hs0 : s.sz) : ∀ objs, AGives Tryz.prog 52 [State.a s] objs (I (plan_Check s)) := by
 generalize hR : plan_Check s = R; refine ga (.cons (State.low _ _) .nil) lx (kp 3 [11]) Tryz.func52 ?_; have hk0 := hs0; obtain ⟨z3, z4, z5, z6, z7, z8, z9⟩ := hs0; refine us (room_Check_c s szA _) ?_; (first | apply u2 | apply u3 | apply u4 | apply us); exact ledger_Check_c s.ledger szA _; refine ai (fun h1 => ?_) (fun h2 => ?_)
 ·obtain rfl := foll hR (ct h1 rfl); exact ret_seen lx sr
 ·obtain rfl := foll hR (cf h2 rfl); exact ret_seen lx sr
theorem u3g {P : Program} {f : FuncId} {args : List AVal} {objs : Objs} {r : AVal} {g : Bool} {K : AVal -> Objs -> Prop} (h : g = true -> ACalls P f args objs fun a b => a = r ∧ b = objs) (k : K r objs) : ∃ r' o', (g = true -> ACalls P f args objs (fun a b => a = r' ∧ b = o')) ∧ (g = false -> o' = objs) ∧ K r' o' := ⟨r, objs, h, fun _ => rfl, k⟩
theorem setM_sz (k : Int) (v : Job) : ∀ (l : List (Int × Job)), (∀ y ∈ l, y.2.sz) -> v.sz -> ∀ y ∈ setM k v l, y.2.sz
 | [], _, hv, y, hy => by
  rw [setM, List.mem_singleton] at hy
  subst hy
  exact hv
 | p :: r, h, hv, y, hy => by
  rw [setM] at hy
  cases hk : (k == p.1) with
  | true =>
   rw [hk] at hy
   rcases List.mem_cons.1 hy with rfl | hy
   ·exact hv
   ·exact h y (List.mem_cons_of_mem _ hy)
  | false =>
   rw [hk] at hy
   rcases List.mem_cons.1 hy with rfl | hy
   ·exact h _ (List.mem_cons_self ..)
   ·exact setM_sz k v r (fun z hz => h z (List.mem_cons_of_mem _ hz)) hv y hy
theorem getM_sz (k : Int) : ∀ (l : List (Int × Job)), (∀ y ∈ l, y.2.sz) -> ((getM k l).getD Job.zero).sz
 | [], _ => Job.szz _
 | p :: r, h => by
  rw [getM]
  cases (k == p.1) with
  | true => exact h p (List.mem_cons_self ..)
  | false => exact getM_sz k r fun z hz => h z (List.mem_cons_of_mem _ hz)
end Go.Proofs.YtigcpfbpmnppcaaGreatDoor
namespace Go.Proofs.YtigcpfbpmnppcaaGreatDoor
set_option linter.unusedSimpArgs false
set_option linter.unusedVariables false
open Go.Fw
set_option maxRecDepth 20000
set_option maxHeartbeats 4000000
attribute [local irreducible] ACalls AMoves
def state_Check_g1  : List Job -> Int -> Nat -> Int
 | [], lastJob, _ => lastJob
 | x_ :: r, _, i => state_Check_g1 r x_.id (i + 1)
def state_Check_g2  : List Book -> Int -> Nat -> Int
 | [], lastBook, _ => lastBook
 | x_1 :: r, _, i1 => state_Check_g2 r x_1.id (i1 + 1)
def state_Check_g3  : List Job -> Nat -> List (Int × Job) -> (List (Int × Job))
 | [], _, c => c
 | x_2 :: r, i2, c => bif (x_2.state == 2) then state_Check_g3 r (i2 + 1) (setM x_2.id x_2 c) else state_Check_g3 r (i2 + 1) c
def state_Check_g4 (s : State) (lastJob : Int) (lastBook : Int) (c : List (Int × Job)) : List Resize -> Nat -> List (Int × Resize) -> Int
 | [], _, c2 => bif ((((!true) || (!(state_next s.nextJob lastJob))) || (!(state_next s.nextBook lastBook))) || (!(state_nodes s c c2))) then 141 else bif (c.all (fun (en : Int × Job) => (bif ((alloc_Held s.nodes en.1) != en.2.nodes) then false else true))) then 0 else 141
 | x_3 :: r, i3, c2 => bif (((!(getM x_3.job c).isSome) || ((decide ((i3 : Int) > 0)) && (decide ((s.resizes.getD (Int.toNat (w64 ((i3 : Int) - 1))) Resize.zero).job >= x_3.job)))) || (!(state_resize s x_3 ((getM x_3.job c).getD Job.zero)))) then 141 else state_Check_g4 s lastJob lastBook c r (i3 + 1) (setM x_3.job x_3 c2)
def state_Check_k3 (s : State) (lastJob : Int) (lastBook : Int) (c : List (Int × Job)) : Int := state_Check_g4 s lastJob lastBook c s.resizes 0 []
def state_Check_k2 (s : State) (lastJob : Int) (lastBook : Int) : Int := state_Check_k3 s lastJob lastBook (state_Check_g3 s.jobs 0 [])
def state_Check_k1 (s : State) (lastJob : Int) : Int := state_Check_k2 s lastJob (state_Check_g2 s.books 0 0)
def state_Check (s : State) : Int := bif ((plan_Check s) != 0) then 141 else state_Check_k1 s (state_Check_g1 s.jobs 0 0)
theorem state_Check_c (s : State) (hs0 : s.sz) : ∀ objs, AGives Tryz.prog 22 [State.a s] objs (I (state_Check s)) := by
 generalize hR : state_Check s = R; refine ga (.cons (State.low _ _) .nil) lx (kp 14 [16, 18, 19, 20, 21, 28, 29, 30, 31, 68, 70, 72, 82]) Tryz.func22 ?_; have hk0 := hs0; obtain ⟨z29, z30, z31, z32, z33, z34, z35⟩ := hs0; refine us (plan_Check_c s (by first | (exact getM_sz _ _ (by assumption)) | exact szA) _) ?_; refine ai (fun h1 => ?_) (fun h2 => ?_)
 ·obtain rfl := foll hR (ct h1 rfl); exact ret_seen lx sr
 ·refine loop_start2 (fun (lastJob : Int) (i : Nat) => state_Check_k1 s (state_Check_g1 (List.drop i s.jobs) lastJob i) = R ∧ i <= s.jobs.length) (fun lastJob i => s.jobs.length - i) (fun lastJob i => [(1, AVal.ptr 0 0 8 0 0), (2, I 0), (3, I lastJob), (4, I 0), (18, jobL s.jobs), (19, I (s.jobs.length : Int)), (20, I (i : Int))]) (fun lastJob i => [(0, AObj.row 28 8 [[I s.now, nodeL s.nodes, jobL s.jobs, resizeL s.resizes, bookL s.books, usageL s.ledger, I s.nextJob, I s.nextBook]])]) 0 0 (wk [0] (tO rfl (ts State.lo) .nil) (sv (turn_ptr 0 rfl rfl) (s1 (s1 (s1 (sl lw (s1 (s1 .nil)))))))) ⟨foll hR (cf h2 rfl), by exact omA⟩ ?_; clear hR; rintro lastJob i ⟨hR, hj⟩; (try dsimp only at hR hj); refine ai (fun h3 => ?_) (fun h4 => ?_)
  ·have hlt := ltA h3; rw [drop_getD Job.zero hlt] at hR; have hxz : (s.jobs.getD i Job.zero).sz := getD_sz (by first | assumption | grind) (Job.szz _); have hkz := hxz; obtain ⟨z5, z6, z7, z8, z9⟩ : ((s.jobs.getD i Job.zero).name).size <= 4294967296 ∧ ((s.jobs.getD i Job.zero).user).size <= 4294967296 ∧ ((s.jobs.getD i Job.zero).account).size <= 4294967296 ∧ ((((s.jobs.getD i Job.zero).shape).alts).length <= 4294967296) ∧ ((s.jobs.getD i Job.zero).after).length <= 4294967296 := hxz; refine ai gkA ?_; exact loop_next2 ((s.jobs.getD i Job.zero).id) (i + 1) (wk [0] (tO rfl (ts State.lo) .nil) (sv (turn_ptr 0 rfl rfl) (s1 (s1 (s1 (sl lw (s1 (sv (turn_eq (I_eq (wr omA)) lx) .nil)))))))) omA ⟨foll hR (congrArg (fun p : Int => state_Check_k1 s p) rfl), by exact omA⟩
  ·rw [drop_none (l := s.jobs) (j := i) (geA h4)] at hR; replace hR : state_Check_k1 s lastJob = R := fo2 (fun p : Int => state_Check_k1 s p) (lastJob) hR rfl; refine loop_start2 (fun (lastBook : Int) (i1 : Nat) => state_Check_k2 s lastJob (state_Check_g2 (List.drop i1 s.books) lastBook i1) = R ∧ i1 <= s.books.length) (fun lastBook i1 => s.books.length - i1) (fun lastBook i1 => [(1, AVal.ptr 0 0 8 0 0), (2, I 0), (3, I lastJob), (4, I lastBook), (28, bookL s.books), (29, I (s.books.length : Int)), (30, I (i1 : Int))]) (fun lastBook i1 => [(0, AObj.row 28 8 [[I s.now, nodeL s.nodes, jobL s.jobs, resizeL s.resizes, bookL s.books, usageL s.ledger, I s.nextJob, I s.nextBook]])]) 0 0 (wk [0] (tO rfl (ts State.lo) .nil) (sv (turn_ptr 0 rfl rfl) (s1 (s1 (s1 (sl lw (s1 (s1 .nil)))))))) ⟨foll hR rfl, by exact omA⟩ ?_; clear hR; rintro lastBook i1 ⟨hR, hj⟩; (try dsimp only at hR hj); refine ai (fun h10 => ?_) (fun h11 => ?_)
   ·have hlt := ltA h10; rw [drop_getD Book.zero hlt] at hR; refine ai gkA ?_; exact loop_next2 ((s.books.getD i1 Book.zero).id) (i1 + 1) (wk [0] (tO rfl (ts State.lo) .nil) (sv (turn_ptr 0 rfl rfl) (s1 (s1 (s1 (sl lw (s1 (sv (turn_eq (I_eq (wr omA)) lx) .nil)))))))) omA ⟨foll hR (congrArg (fun p : Int => state_Check_k2 s lastJob p) rfl), by exact omA⟩
   ·rw [drop_none (l := s.books) (j := i1) (geA h11)] at hR; replace hR : state_Check_k2 s lastJob lastBook = R := fo2 (fun p : Int => state_Check_k2 s lastJob p) (lastBook) hR rfl; refine ACalls.of_cwp (fun _ => true) Tryz.func53 rfl rfl ?_; refine loop_start2 (fun (i2 : Nat) (c : List (Int × Job)) => state_Check_k3 s lastJob lastBook (state_Check_g3 (List.drop i2 s.jobs) i2 c) = R ∧ i2 <= s.jobs.length ∧ ∀ y ∈ c, y.2.sz) (fun i2 c => s.jobs.length - i2) (fun i2 c => [(2, AVal.lit (.map none)), (3, AVal.map 1), (7, jobL s.jobs), (8, I (s.jobs.length : Int)), (9, I (i2 : Int))]) (fun i2 c => [(0, AObj.row 28 8 [[I s.now, nodeL s.nodes, jobL s.jobs, resizeL s.resizes, bookL s.books, usageL s.ledger, I s.nextJob, I s.nextBook]]), (0, AObj.other (.map (mapEs ik Job.a 0 c) c.length))]) 0 [] (wk [0, 1] (tO rfl (ts State.lo) (tO rfl (turn_mapO _ rfl rfl (fun _ => Job.low _ _)) .nil)) (s1 (sv (turn_map 1 rfl rfl) (sl lw (s1 (s1 .nil)))))) ⟨foll hR rfl, by exact omA, by first | (exact setM_sz _ _ _ (by assumption) (by assumption)) | first | (exact fun y hy => absurd hy List.not_mem_nil) | first | (assumption) | exact exA⟩ ?_; clear hR; rintro i2 c ⟨hR, hj, hx⟩; (try dsimp only at hR hj hx); refine ai (fun h12 => ?_) (fun h13 => ?_)
    ·have hlt := ltA h12; rw [drop_getD Job.zero hlt] at hR; have hxz : (s.jobs.getD i2 Job.zero).sz := getD_sz (by first | assumption | grind) (Job.szz _); have hkz := hxz; obtain ⟨z14, z15, z16, z17, z18⟩ : ((s.jobs.getD i2 Job.zero).name).size <= 4294967296 ∧ ((s.jobs.getD i2 Job.zero).user).size <= 4294967296 ∧ ((s.jobs.getD i2 Job.zero).account).size <= 4294967296 ∧ ((((s.jobs.getD i2 Job.zero).shape).alts).length <= 4294967296) ∧ ((s.jobs.getD i2 Job.zero).after).length <= 4294967296 := hxz; refine ai gkA ?_; refine ai (fun h19 => ?_) (fun h20 => ?_)
     ·refine ⟨_, _, keys_int rfl _ _, putM_map (ek := ik) ((s.jobs.getD i2 Job.zero).id) (s.jobs.getD i2 Job.zero) c rfl rfl, ?_⟩; exact loop_next2 (i2 + 1) (setM (s.jobs.getD i2 Job.zero).id (s.jobs.getD i2 Job.zero) c) (wk [0, 1] (tO rfl (ts State.lo) (tO rfl (turn_mapO _ rfl rfl (fun _ => Job.low _ _)) .nil)) (s1 (sv (turn_map 1 rfl rfl) (sl lw (s1 (sv (turn_eq (I_eq (wr omA)) lx) .nil)))))) omA ⟨foll hR (congrArg (fun p : (List (Int × Job)) => state_Check_k3 s lastJob lastBook p) (ct h19 rfl)), by exact omA, by first | (exact setM_sz _ _ _ (by assumption) (by assumption)) | first | (exact fun y hy => absurd hy List.not_mem_nil) | first | (assumption) | exact exA⟩
     ·exact loop_next2 (i2 + 1) c (wk [0, 1] (tO rfl (ts State.lo) (tO rfl (turn_mapO _ rfl rfl (fun _ => Job.low _ _)) .nil)) (s1 (sv (turn_map 1 rfl rfl) (sl lw (s1 (sv (turn_eq (I_eq (wr omA)) lx) .nil)))))) omA ⟨foll hR (congrArg (fun p : (List (Int × Job)) => state_Check_k3 s lastJob lastBook p) (cf h20 rfl)), by exact omA, by first | (exact setM_sz _ _ _ (by assumption) (by assumption)) | first | (exact fun y hy => absurd hy List.not_mem_nil) | first | (assumption) | exact exA⟩
    ·rw [drop_none (l := s.jobs) (j := i2) (geA h13)] at hR; replace hR : state_Check_k3 s lastJob lastBook c = R := fo2 (fun p : (List (Int × Job)) => state_Check_k3 s lastJob lastBook p) (c) hR rfl; refine ⟨_, _, Told.refl, ?_⟩; refine ACalls.of_cwp (fun _ => true) Tryz.func54 rfl rfl ?_; refine loop_start2 (fun (i3 : Nat) (c2 : List (Int × Resize)) => state_Check_g4 s lastJob lastBook c (List.drop i3 s.resizes) i3 c2 = R ∧ i3 <= s.resizes.length) (fun i3 c2 => s.resizes.length - i3) (fun i3 c2 => [(1, AVal.map 1), (2, AVal.ptr 2 0 8 0 0), (4, AVal.lit (.map none)), (5, Bo false), (6, AVal.map 3), (13, resizeL s.resizes), (14, I (s.resizes.length : Int)), (15, I (i3 : Int))]) (fun i3 c2 => [(0, AObj.row 28 8 [[I s.now, nodeL s.nodes, jobL s.jobs, resizeL s.resizes, bookL s.books, usageL s.ledger, I s.nextJob, I s.nextBook]]), (0, AObj.other (.map (mapEs ik Job.a 0 c) c.length)), (0, AObj.row 28 8 [[I s.now, nodeL s.nodes, jobL s.jobs, resizeL s.resizes, bookL s.books, usageL s.ledger, I s.nextJob, I s.nextBook]]), (0, AObj.other (.map (mapEs ik Resize.a 0 c2) c2.length))]) 0 [] (wk [0, 1, 2, 3] (tO rfl (ts State.lo) (tO rfl (turn_mapO _ rfl rfl (fun _ => Job.low _ _)) (tO rfl (ts State.lo) (tO rfl (turn_mapO _ rfl rfl (fun _ => Resize.low _ _)) .nil)))) (sv (turn_map 1 rfl rfl) (sv (turn_ptr 2 rfl rfl) (s1 (s1 (sv (turn_map 3 rfl rfl) (sl lw (s1 (s1 .nil))))))))) ⟨foll hR rfl, by exact omA⟩ ?_; clear hR; rintro i3 c2 ⟨hR, hj⟩; (try dsimp only at hR hj); refine ai (fun h21 => ?_) (fun h22 => ?_)
     ·have hlt := ltA h21; rw [drop_getD Resize.zero hlt] at hR; refine ai gkA ?_; (first | refine ⟨_, _, keys_int rfl _ _, lookP_map (ek := ik) ((s.resizes.getD i3 Resize.zero).job) c Job.zero (as_agg (a1 (a1 (a1 (a1 (a1 (av (as_nil) (a1 (a1 (a1 (a1 (av (as_nil) (a1 (a1 (a1 (a1 (a1 (a1 (a1 (a1 (a1 .nil))))))))))))))))))))), ?_⟩ | refine ⟨_, fun _ => ⟨_, _, keys_int rfl _ _, lookP_map (ek := ik) ((s.resizes.getD i3 Resize.zero).job) c Job.zero (as_agg (a1 (a1 (a1 (a1 (a1 (av (as_nil) (a1 (a1 (a1 (a1 (av (as_nil) (a1 (a1 (a1 (a1 (a1 (a1 (a1 (a1 (a1 .nil))))))))))))))))))))), rfl, rfl⟩, ?_⟩ | refine ⟨_, rfl, ⟨_, _, keys_int rfl _ _, lookP_map (ek := ik) ((s.resizes.getD i3 Resize.zero).job) c Job.zero (as_agg (a1 (a1 (a1 (a1 (a1 (av (as_nil) (a1 (a1 (a1 (a1 (av (as_nil) (a1 (a1 (a1 (a1 (a1 (a1 (a1 (a1 (a1 .nil))))))))))))))))))))), Sub.refl _, rfl⟩, ?_⟩); refine dchk (by kernel_rfl) ?_; refine ai gkA ?_; (first | apply u2 | apply u3 | apply u4 | apply us); exact state_resize_c s (s.resizes.getD i3 Resize.zero) ((getM (s.resizes.getD i3 Resize.zero).job c).getD Job.zero) (by first | (exact getM_sz _ _ (by assumption)) | exact szA) (by first | (exact getM_sz _ _ (by assumption)) | exact szA) _; (repeat ((first | refine ai rfl ?_ | refine ai (fun _ => rfl) ?_ | refine ai (fun _ => state_resize_c s (s.resizes.getD i3 Resize.zero) ((getM (s.resizes.getD i3 Resize.zero).job c).getD Job.zero) (by first | (exact getM_sz _ _ (by assumption)) | exact szA) (by first | (exact getM_sz _ _ (by assumption)) | exact szA) _) ?_))); refine ai (fun h23 => ?_) (fun h24 => ?_)
      ·refine ⟨_, _, Told.refl, ?_⟩; (first | refine ⟨Bo false, _, fun h => absurd h (by decide), fun _ => rfl, ?_⟩ | refine ⟨Bo false, fun h => absurd h (by decide), ?_⟩); (first | refine ⟨Bo false, _, fun h => absurd h (by decide), fun _ => rfl, ?_⟩ | refine ⟨Bo false, fun h => absurd h (by decide), ?_⟩); (first | refine ⟨Bo false, _, fun h => absurd h (by decide), fun _ => rfl, ?_⟩ | refine ⟨Bo false, fun h => absurd h (by decide), ?_⟩); refine ai (fun _ => ?_) (fun h => nomatch h); obtain rfl := foll hR (ct h23 rfl); exact ret_seen lx sr
      ·refine ⟨_, _, keys_int rfl _ _, putM_map (ek := ik) ((s.resizes.getD i3 Resize.zero).job) (s.resizes.getD i3 Resize.zero) c2 rfl rfl, ?_⟩; exact loop_next2 (i3 + 1) (setM (s.resizes.getD i3 Resize.zero).job (s.resizes.getD i3 Resize.zero) c2) (wk [0, 1, 2, 3] (tO rfl (ts State.lo) (tO rfl (turn_mapO _ rfl rfl (fun _ => Job.low _ _)) (tO rfl (ts State.lo) (tO rfl (turn_mapO _ rfl rfl (fun _ => Resize.low _ _)) .nil)))) (sv (turn_map 1 rfl rfl) (sv (turn_ptr 2 rfl rfl) (s1 (s1 (sv (turn_map 3 rfl rfl) (sl lw (s1 (sv (turn_eq (I_eq (wr omA)) lx) .nil))))))))) omA ⟨foll hR (cf h24 rfl), by exact omA⟩
     ·rw [drop_none (l := s.resizes) (j := i3) (geA h22)] at hR; refine ⟨_, _, Told.refl, ?_⟩; (first | apply u2 | apply u3 | apply u4 | apply us); exact state_next_c s.nextJob lastJob _; (first | apply u2 | apply u3 | apply u4 | apply us); exact state_next_c s.nextBook lastBook _; (first | apply u2 | apply u3 | apply u4 | apply us); exact mv [1, 3] (state_nodes_c s c c2 (by first | (exact getM_sz _ _ (by assumption)) | exact szA)) (dO (.same _ (low_mapEs fun _ => Job.low _ _)) (dO (.same _ (low_mapEs fun _ => Resize.low _ _)) .nil)) (dv (dn_low (Low.agg' (State.lo))) (dv (dn_ren (Ren.map _ _ rfl)) (dv (dn_ren (Ren.map _ _ rfl)) .nil))) (rO (RenO.same _ (low_mapEs fun _ => Job.low _ _)) (rO (RenO.same _ (low_mapEs fun _ => Resize.low _ _)) .nil)) rx; refine ai (fun h25 => ?_) (fun h26 => ?_)
      ·obtain rfl := foll hR (ct h25 rfl); exact ret_seen lx sr
      ·refine loop_start (X := Array Nat) (fun x => (bif (c.all (fun (en : Int × Job) => (bif ((alloc_Held s.nodes en.1) != en.2.nodes) then false else true))) then 0 else 141) = R ∧ ∀ j, j < c.length -> x.contains j = true -> (fun (en : Int × Job) => (bif ((alloc_Held s.nodes en.1) != en.2.nodes) then false else true)) (c.getD j ((0, Job.zero) : Int × Job)) = true) (fun x => unseen c.length x) (fun seen => [(1, AVal.ptr 0 0 8 0 0), (2, I 0), (70, AVal.ptr 2 0 1 0 0)]) (fun seen => [(0, AObj.row 28 8 [[I s.now, nodeL s.nodes, jobL s.jobs, resizeL s.resizes, bookL s.books, usageL s.ledger, I s.nextJob, I s.nextBook]]), (0, AObj.other (.map (mapEs ik Job.a 0 c) c.length)), (0, AObj.other (.mapIter 1 c.length seen c.length))]) #[] (wk [0, 1, 4] (tO rfl (ts State.lo) (tO rfl (turn_mapO _ rfl rfl (fun _ => Job.low _ _)) (tO rfl (turn_miter 1 rfl rfl) .nil))) (sv (turn_ptr 0 rfl rfl) (s1 (sv (turn_ptr 2 rfl rfl) .nil)))) ⟨foll hR (cf h26 rfl), fun j hj hc => absurd hc (by simp)⟩ ?_; clear hR; rintro seen ⟨hR, hx⟩; refine map_round ((0, Job.zero) : Int × Job) (fun j hj hns => ?_) (fun hall => ?_)
       ·refine ai (fun _ => ?_) (fun h => nomatch h); refine ⟨_, entry_map ((0, Job.zero) : Int × Job) rfl rfl hj, ?_⟩; refine dchk (by kernel_rfl) ?_; (first | apply u2 | apply u3 | apply u4 | apply us); exact alloc_Held_c s.nodes ((c.getD j ((0, Job.zero) : Int × Job)).1) (by first | (exact getM_sz _ _ (by assumption)) | exact szA) _; (repeat ((first | refine ai rfl ?_ | refine ai (fun _ => rfl) ?_ | refine ai (fun _ => alloc_Held_c s.nodes ((c.getD j ((0, Job.zero) : Int × Job)).1) (by first | (exact getM_sz _ _ (by assumption)) | exact szA) _) ?_))); refine ai (fun h27 => ?_) (fun h28 => ?_)
        ·obtain rfl := foll hR ((cond_f (all_f (p := (fun (en : Int × Job) => (bif ((alloc_Held s.nodes en.1) != en.2.nodes) then false else true))) hj (ct h27 rfl))).trans rfl); exact ret_seen lx sr
        ·exact loop_next (seen.push j) (unseen_push hj hns) (wk [0, 1, 2] (tO rfl (ts State.lo) (tO rfl (turn_mapO _ rfl rfl (fun _ => Job.low _ _)) (tO rfl (turn_miter 1 rfl rfl) .nil))) (sv (turn_ptr 0 rfl rfl) (s1 (sv (turn_ptr 2 rfl rfl) .nil)))) ⟨hR, seen_push (p := (fun (en : Int × Job) => (bif ((alloc_Held s.nodes en.1) != en.2.nodes) then false else true))) hx (cf h28 rfl)⟩
       ·refine ai (fun h => nomatch h) (fun _ => ?_); obtain rfl := foll hR (ct (all_t hall hx) rfl); exact ret_seen lx sr
end Go.Proofs.YtigcpfbpmnppcaaGreatDoor
