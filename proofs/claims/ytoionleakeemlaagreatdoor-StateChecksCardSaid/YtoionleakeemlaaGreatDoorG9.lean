/-
  Contracts of functions, printed by a program of this repo (wip/dec). No condition beyond those that stand in each.
-/
import Derived.Test.YtoionleakeemlaaGreatDoorG7
import Derived.Test.YtoionleakeemlaaGreatDoorProg
namespace Go.Proofs.YtoionleakeemlaaGreatDoor
set_option linter.unusedSimpArgs false
set_option linter.unusedVariables false
open Go.Fw
set_option maxRecDepth 20000
set_option maxHeartbeats 4000000
attribute [local irreducible] ACalls AMoves
def ref14_Tick (n : Int) : Bool := ((decide (n ≥ 0)) && (decide (n ≤ 1000000)))
theorem ref14_Tick_c (n : Int) : ∀ objs, AGives Tryz.prog 107 [I n] objs (Bo (ref14_Tick n)) := by
  generalize hR : ref14_Tick n = R; refine AGives.any' (l1 .nil) lx (ACalls.of_cwp (kp 3 []) Tryz.func107 rfl rfl ?_); (conv => whnf); obtain rfl := foll hR rfl; exact ret_seen lx sr
def ref07_SameAlts_g1 (b : List Alt) : List Alt → Nat → Bool
  | [], _ => true
  | x_ :: r, i => bif ((x_.nodes != (b.getD i Alt.zero).nodes) || (x_.wall != (b.getD i Alt.zero).wall)) then false else ref07_SameAlts_g1 b r (i + 1)
def ref07_SameAlts (a : List Alt) (b : List Alt) : Bool := bif ((a.length : Int) != (b.length : Int)) then false else ref07_SameAlts_g1 b a 0
theorem ref07_SameAlts_c (a : List Alt) (b : List Alt) (hs0 : a.length ≤ 4294967296) (hs1 : b.length ≤ 4294967296) : ∀ objs, AGives Tryz.prog 138 [altL a, altL b] objs (Bo (ref07_SameAlts a b)) := by
  generalize hR : ref07_SameAlts a b = R; refine AGives.any' (.cons lw (.cons lw .nil)) lx (ACalls.of_cwp (kp 6 [10, 14, 40]) Tryz.func138 rfl rfl ?_); have hk0 := hs0; obtain z7 : a.length ≤ 4294967296 := hs0; have hk1 := hs1; obtain z8 : b.length ≤ 4294967296 := hs1; (conv => whnf); refine And.intro (fun h1 => ?_) (fun h2 => ?_)
  · (conv => whnf); obtain rfl := foll hR (ct h1 rfl); exact ret_seen lx sr
  · (conv => whnf); refine loop_start1 (fun (i : Nat) => ref07_SameAlts_g1 b (List.drop i a) i = R ∧ i ≤ a.length) (fun i => a.length - i) (fun i => [(0, altL a), (1, altL b), (4, Bo false), (5, I (i : Int))]) (fun i => []) 0 (wk [] .nil (sl lw (sl lw (s1 (s1 .nil))))) ⟨foll hR (cf h2 rfl), by exact omA⟩ ?_; clear hR; rintro i ⟨hR, hj⟩; (try dsimp only at hR hj); (conv => whnf); refine And.intro (fun h3 => ?_) (fun h4 => ?_)
    · (have hlt : i < a.length := by have := of_decide_eq_true h3; omega); rw [drop_getD Alt.zero hlt] at hR; (conv => whnf); refine dchk (by kernel_rfl) ?_; (conv => whnf); refine And.intro gkA ?_; (conv => whnf); refine And.intro gkA ?_; (conv => whnf); refine And.intro gkA ?_; (conv => whnf); refine And.intro gkA ?_; (conv => whnf); (repeat ((first | refine And.intro rfl ?_ | refine And.intro (fun _ => rfl) ?_); conv => whnf)); refine And.intro (fun h5 => ?_) (fun h6 => ?_)
      · (conv => whnf); obtain rfl := foll hR (ct h5 rfl); exact ret_seen lx sr
      · (conv => whnf); exact loop_next1 (i + 1) (wk [] .nil (sl lw (sl lw (s1 (sv (turn_eq (I_eq (wr omA)) lx) .nil))))) omA ⟨foll hR (cf h6 rfl), by exact omA⟩
    · rw [drop_none (l := a) (j := i) (by have := of_decide_eq_false h4; omega)] at hR; (conv => whnf); obtain rfl := foll hR rfl; exact ret_seen lx sr
def ref04_Class (r_ : Int) : Int := bif ((r_ == 9) || (r_ == 32)) then 1 else bif (((decide (r_ < 32)) || (r_ == 65533)) || (decide (r_ > 1114111))) then 0 else bif (((decide (r_ > 126)) && (decide (r_ < 161))) || ((decide (r_ > 55295)) && (decide (r_ < 57344)))) then 0 else bif ((decide (r_ > 47)) && (decide (r_ < 58))) then 3 else bif (((decide (r_ > 160)) || ((decide (r_ > 64)) && (decide (r_ < 91)))) || ((decide (r_ > 96)) && (decide (r_ < 123)))) then 2 else 4
theorem ref04_Class_c (r_ : Int) : ∀ objs, AGives Tryz.prog 188 [J r_] objs (I (ref04_Class r_)) := by
  generalize hR : ref04_Class r_ = R; refine AGives.any' (l1 .nil) lx (ACalls.of_cwp (kp 3 [8, 18, 32, 38, 56]) Tryz.func188 rfl rfl ?_); (conv => whnf); refine And.intro (fun h1 => ?_) (fun h2 => ?_)
  · (conv => whnf); obtain rfl := foll hR (ct h1 rfl); exact ret_seen lx sr
  · (conv => whnf); refine And.intro (fun h3 => ?_) (fun h4 => ?_)
    · (conv => whnf); obtain rfl := foll hR (cf h2 (ct h3 rfl)); exact ret_seen lx sr
    · (conv => whnf); refine And.intro (fun h5 => ?_) (fun h6 => ?_)
      · (conv => whnf); obtain rfl := foll hR (cf h2 (cf h4 (ct h5 rfl))); exact ret_seen lx sr
      · (conv => whnf); refine And.intro (fun h7 => ?_) (fun h8 => ?_)
        · (conv => whnf); obtain rfl := foll hR (cf h2 (cf h4 (cf h6 (ct h7 rfl)))); exact ret_seen lx sr
        · (conv => whnf); refine And.intro (fun h9 => ?_) (fun h10 => ?_)
          · (conv => whnf); obtain rfl := foll hR (cf h2 (cf h4 (cf h6 (cf h8 (ct h9 rfl))))); exact ret_seen lx sr
          · (conv => whnf); obtain rfl := foll hR (cf h2 (cf h4 (cf h6 (cf h8 (cf h10 rfl))))); exact ret_seen lx sr
def ref05_Runes_g1  : List (Nat × Int) → List Int → (List Int)
  | [], out => out
  | x_ :: r, out => ref05_Runes_g1 r (out ++ ([x_.2] : List Int))
def ref05_Runes_k1 (out : List Int) : (List Int) := out
def ref05_Runes (s : ByteArray) : (List Int) := ref05_Runes_k1 (ref05_Runes_g1 (runeList s) [])
theorem ref05_Runes_c (s : ByteArray) (hs0 : s.size ≤ 4294967296) : ∀ objs, AGives Tryz.prog 194 [Sg s] objs (runes (ref05_Runes s)) := by
  generalize hR : ref05_Runes s = R; refine AGives.any' (l1 .nil) lw (ACalls.of_cwp (kp 6 [7, 8, 9]) Tryz.func194 rfl rfl ?_); have hk0 := hs0; obtain z3 : s.size ≤ 4294967296 := hs0; (conv => whnf); refine loop_start2 (fun (out : List Int) (pos : Nat) => ∃ m, ByteArray.size s - pos ≤ m ∧ ref05_Runes_k1 (ref05_Runes_g1 (strRunes s m pos) out) = R ∧ out.length ≤ pos) (fun out pos => ByteArray.size s - pos) (fun out pos => [(2, AVal.lit (.slice none 0 0)), (3, AVal.own 1 0 1 0 out.length), (7, AVal.ptr 0 0 1 0 0)]) (fun out pos => [(0, AObj.other (.strIter s pos)), (0, AObj.row 21 1 (out.map (fun q_ => [J q_])))]) [] 0 ((weaker_none 21 1).trans (wk [0, 1] (tO rfl (.strIter _ _) (tO rfl (tl eqA) .nil)) (s1 (sv (turn_nilown 1 rfl) (sv (turn_ptr 0 rfl rfl) .nil))))) ⟨ByteArray.size s, by exact omA, foll hR rfl, by exact exA⟩ ?_; clear hR; rintro out pos ⟨m, hm, hR, hx⟩; (try dsimp only at hR hm hx); (conv => whnf); refine And.intro (fun h1 => ?_) (fun h2 => ?_)
  · have hlt := of_decide_eq_true h1; have hw := decode_pos s pos; have hwe := decode_end s pos hlt; obtain ⟨m, rfl⟩ : ∃ k, m = k + 1 := ⟨m - 1, by omega⟩; rw [strRunes_cons h1] at hR; (conv => whnf); refine And.intro (fun _ => ?_) (fun h => nomatch h); (conv => whnf); refine Or.inl ?_; (conv => whnf); (first | refine ⟨app_ok 4 rfl lnA (by first | (simp; omega) | grind), ?_⟩ | refine ⟨app_nil 4 rfl (by first | (simp; omega) | grind), ?_⟩); (conv => whnf); exact loop_next2 (out ++ ([(pos, ((Utf8.decode s pos).1 : Int)).2] : List Int)) (pos + (Utf8.decode s pos).2) (wk [0, 1] (tO rfl (.strIter _ _) (tO rfl (tl eqA) .nil)) (s1 (sv (to 1 lnA) (sv (turn_ptr 0 rfl rfl) .nil)))) omA ⟨m, by exact omA, foll hR (congrArg (fun p : (List Int) => ref05_Runes_k1 p) rfl), by exact exA⟩
  · rw [strRunes_nil h2] at hR; (conv => whnf); refine And.intro (fun h => nomatch h) (fun _ => ?_); (conv => whnf); replace hR : ref05_Runes_k1 out = R := fo2 (fun p : (List Int) => ref05_Runes_k1 p) (out) hR rfl; obtain rfl := foll hR rfl; exact ret_seen lw (seen_list 0 _ rfl eqA lnA)
theorem ref05_Runes_g1_len : ∀ (l : List (Nat × Int)) (out : List Int), (ref05_Runes_g1 l out).length = out.length + l.length
  | [], out => rfl
  | x :: r, out => by
    rw [ref05_Runes_g1, ref05_Runes_g1_len r]
    simp
    omega
theorem strRunes_len (s : ByteArray) : ∀ m pos, (strRunes s m pos).length ≤ m
  | 0, _ => by simp [strRunes]
  | m + 1, pos => by
    cases h : decide (pos < s.size) with
    | false => rw [strRunes_nil h]; simp
    | true => rw [strRunes_cons h]; have := strRunes_len s m (pos + (Utf8.decode s pos).2); simp; omega
theorem ref05_Runes_len (s : ByteArray) : (ref05_Runes s).length ≤ s.size := by
  unfold ref05_Runes ref05_Runes_k1
  rw [ref05_Runes_g1_len]
  have := strRunes_len s s.size 0
  simp only [runeList, List.length_nil]
  omega
def ref05_small (r_ : Int) : Bool := (((decide (r_ ≥ 48)) && (decide (r_ ≤ 57))) || ((decide (r_ ≥ 97)) && (decide (r_ ≤ 122))))
theorem ref05_small_c (r_ : Int) : ∀ objs, AGives Tryz.prog 218 [J r_] objs (Bo (ref05_small r_)) := by
  generalize hR : ref05_small r_ = R; refine AGives.any' (l1 .nil) lx (ACalls.of_cwp (kp 3 []) Tryz.func218 rfl rfl ?_); (conv => whnf); obtain rfl := foll hR rfl; exact ret_seen lx sr
def ref04_Lower_g1 (s : ByteArray) : Nat → List Int → Nat → (List Int) × Nat
  | 0, _, _ => ([], 0)
  | m + 1, out, i => bif (decide ((i : Int) < (ByteArray.size s : Int))) then bif ((decide (((s.data.toList.getD i 0).toNat : Int) > 64)) && (decide (((s.data.toList.getD i 0).toNat : Int) < 91))) then ref04_Lower_g1 s m (out ++ ([(wu8 (((s.data.toList.getD i 0).toNat : Int) + 32))] : List Int)) (i + 1) else ref04_Lower_g1 s m (out ++ ([((s.data.toList.getD i 0).toNat : Int)] : List Int)) (i + 1) else (out, i)
def ref04_Lower_k1 (out : List Int) (i : Nat) : ByteArray := (bytesStr out)
def ref04_Lower (s : ByteArray) : ByteArray := ref04_Lower_k1 ((ref04_Lower_g1 s ((Int.toNat ((ByteArray.size s : Int) - (0 : Int))) + 1) [] 0).1) ((ref04_Lower_g1 s ((Int.toNat ((ByteArray.size s : Int) - (0 : Int))) + 1) [] 0).2)
theorem ref04_Lower_c (s : ByteArray) (hs0 : s.size ≤ 4294967296) : ∀ objs, AGives Tryz.prog 204 [Sg s] objs (Sg (ref04_Lower s)) := by
  generalize hR : ref04_Lower s = R; refine AGives.any' (l1 .nil) lx (ACalls.of_cwp (kp 5 [8, 20]) Tryz.func204 rfl rfl ?_); have hk0 := hs0; obtain z5 : s.size ≤ 4294967296 := hs0; (conv => whnf); refine loop_start2 (fun (out : List Int) (i : Nat) => ∃ m, (Int.toNat ((ByteArray.size s : Int) - (i : Int))) < m ∧ ref04_Lower_k1 (ref04_Lower_g1 s m out i).1 (ref04_Lower_g1 s m out i).2 = R ∧ out.length ≤ i ∧ (i : Int) ≤ (ByteArray.size s : Int)) (fun out i => (Int.toNat ((ByteArray.size s : Int) - (i : Int)))) (fun out i => [(0, Sg s), (2, Sg ⟨#[]⟩), (3, AVal.own 0 0 1 0 out.length), (4, I (i : Int))]) (fun out i => [(0, AObj.row 5 1 (out.map (fun q_ => [Y q_])))]) [] 0 ((weaker_none 5 1).trans (wk [0] (tO rfl (tl eqA) .nil) (s1 (s1 (sv (turn_nilown 0 rfl) (s1 .nil)))))) ⟨_, Nat.lt_succ_self _, foll hR rfl, by exact exA⟩ ?_; clear hR; rintro out i ⟨m, hm, hR, hx⟩; (try dsimp only at hR hm hx); obtain ⟨m, rfl⟩ : ∃ k, m = k + 1 := ⟨m - 1, by omega⟩; (conv => whnf); refine And.intro (fun h1 => ?_) (fun h2 => ?_)
  · (conv => whnf); have qh1 := of_decide_eq_true h1; refine And.intro gkA ?_; (conv => whnf); refine And.intro gkA ?_; (conv => whnf); refine And.intro (fun h3 => ?_) (fun h4 => ?_)
    · (conv => whnf); refine And.intro gkA ?_; (conv => whnf); refine Or.inl ?_; (conv => whnf); (first | refine ⟨app_ok 1 rfl lnA (by first | (simp; omega) | grind), ?_⟩ | refine ⟨app_nil 1 rfl (by first | (simp; omega) | grind), ?_⟩); (conv => whnf); exact loop_next2 (out ++ ([(wu8 (((s.data.toList.getD i 0).toNat : Int) + 32))] : List Int)) (i + 1) (wk [0] (tO rfl (tl eqA) .nil) (s1 (s1 (sv (to 0 lnA) (sv (turn_eq (I_eq (wr omA)) lx) .nil))))) omA ⟨m, by exact omA, foll hR (congrArg (fun p : (List Int) × Nat => ref04_Lower_k1 p.1 p.2) (ct h1 (ct h3 rfl))), by exact exA⟩
    · (conv => whnf); refine And.intro gkA ?_; (conv => whnf); refine Or.inl ?_; (conv => whnf); (first | refine ⟨app_ok 1 rfl lnA (by first | (simp; omega) | grind), ?_⟩ | refine ⟨app_nil 1 rfl (by first | (simp; omega) | grind), ?_⟩); (conv => whnf); exact loop_next2 (out ++ ([((s.data.toList.getD i 0).toNat : Int)] : List Int)) (i + 1) (wk [0] (tO rfl (tl eqA) .nil) (s1 (s1 (sv (to 0 lnA) (sv (turn_eq (I_eq (wr omA)) lx) .nil))))) omA ⟨m, by exact omA, foll hR (congrArg (fun p : (List Int) × Nat => ref04_Lower_k1 p.1 p.2) (ct h1 (cf h4 rfl))), by exact exA⟩
  · (conv => whnf); have qh2 := of_decide_eq_false h2; replace hR : ref04_Lower_k1 out i = R := fo2 (fun p : (List Int) × Nat => ref04_Lower_k1 p.1 p.2) (out, i) hR (cf h2 rfl); (first | refine ⟨out, by exact cvA, ?_⟩ | refine ⟨_, fun _ => ⟨out, by exact cvA, rfl, rfl⟩, ?_⟩ | refine ⟨_, rfl, ⟨out, by exact cvA, Sub.refl _, rfl⟩, ?_⟩); (conv => whnf); obtain rfl := foll hR rfl; exact ret_seen lx sr
def ref05_plain_g1  : List Int → Nat → Bool
  | [], _ => false
  | x_ :: r, i => bif (decide (x_ ≥ 97)) then true else ref05_plain_g1 r (i + 1)
def ref05_plain (l : List Int) : Bool := ref05_plain_g1 l 0
theorem ref05_plain_c (l : List Int) (hs0 : l.length ≤ 4294967296) : ∀ objs, AGives Tryz.prog 205 [runes l] objs (Bo (ref05_plain l)) := by
  generalize hR : ref05_plain l = R; refine AGives.any' (.cons lw .nil) lx (ACalls.of_cwp (kp 4 [7, 14]) Tryz.func205 rfl rfl ?_); have hk0 := hs0; obtain z5 : l.length ≤ 4294967296 := hs0; (conv => whnf); refine loop_start1 (fun (i : Nat) => ref05_plain_g1 (List.drop i l) i = R ∧ i ≤ l.length) (fun i => l.length - i) (fun i => [(0, runes l), (2, Bo false), (3, I (i : Int))]) (fun i => []) 0 (wk [] .nil (sl lw (s1 (s1 .nil)))) ⟨foll hR rfl, by exact omA⟩ ?_; clear hR; rintro i ⟨hR, hj⟩; (try dsimp only at hR hj); (conv => whnf); refine And.intro (fun h1 => ?_) (fun h2 => ?_)
  · (have hlt : i < l.length := by have := of_decide_eq_true h1; omega); rw [drop_getD 0 hlt] at hR; (conv => whnf); refine And.intro gkA ?_; (conv => whnf); refine And.intro (fun h3 => ?_) (fun h4 => ?_)
    · (conv => whnf); have qh3 := of_decide_eq_true h3; obtain rfl := foll hR (ct h3 rfl); exact ret_seen lx sr
    · (conv => whnf); have qh4 := of_decide_eq_false h4; exact loop_next1 (i + 1) (wk [] .nil (sl lw (s1 (sv (turn_eq (I_eq (wr omA)) lx) .nil)))) omA ⟨foll hR (cf h4 rfl), by exact omA⟩
  · rw [drop_none (l := l) (j := i) (by have := of_decide_eq_false h2; omega)] at hR; (conv => whnf); obtain rfl := foll hR rfl; exact ret_seen lx sr
def ref05_Number_g1  : List Int → Int → Nat → Int
  | [], n, _ => n
  | x_ :: r, n, i => bif ((decide (x_ < 48)) || (decide (x_ > 57))) then (-1) else ref05_Number_g1 r (w64 ((w64 (10 * n)) + (w64 (w32 (x_ - 48))))) (i + 1)
def ref05_Number (l : List Int) : Int := bif ((((l.length : Int) == 0) || (decide ((l.length : Int) > 9))) || ((decide ((l.length : Int) > 1)) && ((l.getD 0 0) == 48))) then (-1) else ref05_Number_g1 l 0 0
theorem ref05_Number_c (l : List Int) (hs0 : l.length ≤ 4294967296) : ∀ objs, AGives Tryz.prog 206 [runes l] objs (I (ref05_Number l)) := by
  generalize hR : ref05_Number l = R; refine AGives.any' (.cons lw .nil) lx (ACalls.of_cwp (kp 5 [23, 27, 41]) Tryz.func206 rfl rfl ?_); have hk0 := hs0; obtain z7 : l.length ≤ 4294967296 := hs0; (conv => whnf); refine And.intro gkA ?_; (conv => whnf); refine And.intro (fun h1 => ?_) (fun h2 => ?_)
  · (conv => whnf); obtain rfl := foll hR (ct h1 rfl); exact ret_seen lx sr
  · (conv => whnf); refine loop_start2 (fun (n : Int) (i : Nat) => ref05_Number_g1 (List.drop i l) n i = R ∧ i ≤ l.length) (fun n i => l.length - i) (fun n i => [(0, runes l), (2, I 0), (3, I n), (4, I (i : Int))]) (fun n i => []) 0 0 (wk [] .nil (sl lw (s1 (s1 (s1 .nil))))) ⟨foll hR (cf h2 rfl), by exact omA⟩ ?_; clear hR; rintro n i ⟨hR, hj⟩; (try dsimp only at hR hj); (conv => whnf); refine And.intro (fun h3 => ?_) (fun h4 => ?_)
    · (have hlt : i < l.length := by have := of_decide_eq_true h3; omega); rw [drop_getD 0 hlt] at hR; (conv => whnf); refine And.intro gkA ?_; (conv => whnf); refine And.intro gkA ?_; (conv => whnf); refine And.intro (fun h5 => ?_) (fun h6 => ?_)
      · (conv => whnf); obtain rfl := foll hR (ct h5 rfl); exact ret_seen lx sr
      · (conv => whnf); refine And.intro gkA ?_; (conv => whnf); exact loop_next2 (w64 ((w64 (10 * n)) + (w64 (w32 ((l.getD i 0) - 48))))) (i + 1) (wk [] .nil (sl lw (s1 (s1 (sv (turn_eq (I_eq (wr omA)) lx) .nil))))) omA ⟨foll hR (cf h6 rfl), by exact omA⟩
    · rw [drop_none (l := l) (j := i) (by have := of_decide_eq_false h4; omega)] at hR; (conv => whnf); obtain rfl := foll hR rfl; exact ret_seen lx sr
def ref08_in (n : Int) (from_ : Int) (to_ : Int) : Bool := ((decide (n ≥ from_)) && (decide (n ≤ to_)))
theorem ref08_in_c (n : Int) (from_ : Int) (to_ : Int) : ∀ objs, AGives Tryz.prog 169 [I n, I from_, I to_] objs (Bo (ref08_in n from_ to_)) := by
  generalize hR : ref08_in n from_ to_ = R; refine AGives.any' (l1 (l1 (l1 .nil))) lx (ACalls.of_cwp (kp 7 []) Tryz.func169 rfl rfl ?_); (conv => whnf); obtain rfl := foll hR rfl; exact ret_seen lx sr
def ref07_size (n : Int) : Bool := ((decide (n ≥ 1)) && (decide (n ≤ 48)))
theorem ref07_size_c (n : Int) : ∀ objs, AGives Tryz.prog 182 [I n] objs (Bo (ref07_size n)) := by
  generalize hR : ref07_size n = R; refine AGives.any' (l1 .nil) lx (ACalls.of_cwp (kp 3 []) Tryz.func182 rfl rfl ?_); (conv => whnf); obtain rfl := foll hR rfl; exact ret_seen lx sr
def ref07_wall (n : Int) : Bool := ((decide (n ≥ 1)) && (decide (n ≤ 100000)))
theorem ref07_wall_c (n : Int) : ∀ objs, AGives Tryz.prog 183 [I n] objs (Bo (ref07_wall n)) := by
  generalize hR : ref07_wall n = R; refine AGives.any' (l1 .nil) lx (ACalls.of_cwp (kp 3 []) Tryz.func183 rfl rfl ?_); (conv => whnf); obtain rfl := foll hR rfl; exact ret_seen lx sr
def ref09_List_g1  : Nat → Int → List Int → Nat → Int × (List Int) × Nat
  | 0, _, _, _ => (0, [], 0)
  | m + 1, s2, out, n => bif (decide (s2 > 0)) then bif ((Int.tmod s2 2) == 1) then ref09_List_g1 m (wu64 (Int.tdiv s2 2)) (out ++ ([(n : Int)] : List Int)) (n + 1) else ref09_List_g1 m (wu64 (Int.tdiv s2 2)) out (n + 1) else (s2, out, n)
def ref09_List_k1 (s2 : Int) (out : List Int) (n : Nat) : (List Int) := out
def ref09_List (s : Int) : (List Int) := ref09_List_k1 ((ref09_List_g1 ((Int.toNat s) + 1) s [] 0).1) ((ref09_List_g1 ((Int.toNat s) + 1) s [] 0).2.1) ((ref09_List_g1 ((Int.toNat s) + 1) s [] 0).2.2)
theorem ref09_List_c (s : Int) : ∀ objs, AGives Tryz.prog 79 [U s] objs (ints (ref09_List s)) := by
  generalize hR : ref09_List s = R; refine AGives.any' (l1 .nil) lw (ACalls.of_cwp (kp 5 [6, 11]) Tryz.func79 rfl rfl ?_); (conv => whnf); refine loop_start3 (fun (s2 : Int) (out : List Int) (n : Nat) => ∃ m, (Int.toNat s2) < m ∧ ref09_List_k1 (ref09_List_g1 m s2 out n).1 (ref09_List_g1 m s2 out n).2.1 (ref09_List_g1 m s2 out n).2.2 = R ∧ (n : Int) ≤ 65 ∧ ((n : Int) = 0 ∨ (0 ≤ s2 ∧ s2 < 2 ^ (65 - (Int.toNat (n : Int))))) ∧ out.length ≤ n) (fun s2 out n => (Int.toNat s2)) (fun s2 out n => [(0, U s2), (2, AVal.lit (.slice none 0 0)), (3, AVal.own 0 0 1 0 out.length), (4, I (n : Int))]) (fun s2 out n => [(0, AObj.row 3 1 (out.map (fun q_ => [I q_])))]) s [] 0 ((weaker_none 3 1).trans (wk [0] (tO rfl (tl eqA) .nil) (s1 (s1 (sv (turn_nilown 0 rfl) (s1 .nil)))))) ⟨_, Nat.lt_succ_self _, foll hR rfl, by exact exA⟩ ?_; clear hR; rintro s2 out n ⟨m, hm, hR, hx⟩; (try dsimp only at hR hm hx); obtain ⟨m, rfl⟩ : ∃ k, m = k + 1 := ⟨m - 1, by omega⟩; (conv => whnf); refine And.intro (fun h1 => ?_) (fun h2 => ?_)
  · (conv => whnf); have qh1 := of_decide_eq_true h1; obtain ⟨hf1, hf2, hf3, hf4⟩ := ref09_half hx.2.1 hx.1 qh1; refine And.intro gkA ?_; (conv => whnf); refine And.intro (fun h3 => ?_) (fun h4 => ?_)
    · (conv => whnf); refine Or.inl ?_; (conv => whnf); (first | refine ⟨app_ok 8 rfl lnA (by first | (simp; omega) | grind), ?_⟩ | refine ⟨app_nil 8 rfl (by first | (simp; omega) | grind), ?_⟩); (conv => whnf); refine And.intro gkA ?_; (conv => whnf); exact loop_next3 (wu64 (Int.tdiv s2 2)) (out ++ ([(n : Int)] : List Int)) (n + 1) (wk [0] (tO rfl (tl eqA) .nil) (s1 (s1 (sv (to 0 lnA) (sv (turn_eq (I_eq (wr omA)) lx) .nil))))) omA ⟨m, by exact omA, foll hR (congrArg (fun p : Int × (List Int) × Nat => ref09_List_k1 p.1 p.2.1 p.2.2) (ct h1 (ct h3 rfl))), by exact exA⟩
    · (conv => whnf); refine And.intro gkA ?_; (conv => whnf); exact loop_next3 (wu64 (Int.tdiv s2 2)) out (n + 1) (wk [0] (tO rfl (tl eqA) .nil) (s1 (s1 (sv (to 0 lnA) (sv (turn_eq (I_eq (wr omA)) lx) .nil))))) omA ⟨m, by exact omA, foll hR (congrArg (fun p : Int × (List Int) × Nat => ref09_List_k1 p.1 p.2.1 p.2.2) (ct h1 (cf h4 rfl))), by exact exA⟩
  · (conv => whnf); have qh2 := of_decide_eq_false h2; replace hR : ref09_List_k1 s2 out n = R := fo2 (fun p : Int × (List Int) × Nat => ref09_List_k1 p.1 p.2.1 p.2.2) (s2, out, n) hR (cf h2 rfl); obtain rfl := foll hR rfl; exact ret_seen lw (seen_list 0 _ rfl eqA lnA)
def ref14_Few (set_ : Int) : Bool := (decide (set_ < 281474976710656))
theorem ref14_Few_c (set_ : Int) : ∀ objs, AGives Tryz.prog 171 [U set_] objs (Bo (ref14_Few set_)) := by
  generalize hR : ref14_Few set_ = R; refine AGives.any' (l1 .nil) lx (ACalls.of_cwp (kp 3 []) Tryz.func171 rfl rfl ?_); (conv => whnf); obtain rfl := foll hR rfl; exact ret_seen lx sr
def ref14_Ended (state : Int) : Bool := ((decide (state ≥ 3)) && (decide (state ≤ 7)))
theorem ref14_Ended_c (state : Int) : ∀ objs, AGives Tryz.prog 173 [I state] objs (Bo (ref14_Ended state)) := by
  generalize hR : ref14_Ended state = R; refine AGives.any' (l1 .nil) lx (ACalls.of_cwp (kp 3 []) Tryz.func173 rfl rfl ?_); (conv => whnf); obtain rfl := foll hR rfl; exact ret_seen lx sr
def ref19_Check_g1  : List Book → Int → Nat → Int
  | [], _, _ => 0
  | x_ :: r, last, i => bif (((((((((i : Int) == 8) || (decide (x_.id ≤ last))) || (decide (x_.id > 99999))) || (decide (x_.from_ < 0))) || (decide (x_.to ≤ x_.from_))) || (decide (x_.to > 1000000))) || (decide (x_.nodes < 1))) || (decide (x_.nodes > 48))) then 190 else ref19_Check_g1 r x_.id (i + 1)
def ref19_Check (l : List Book) : Int := ref19_Check_g1 l 0 0
theorem ref19_Check_c (l : List Book) (hs0 : l.length ≤ 4294967296) : ∀ objs, AGives Tryz.prog 109 [bookL l] objs (I (ref19_Check l)) := by
  generalize hR : ref19_Check l = R; refine AGives.any' (.cons lw .nil) lx (ACalls.of_cwp (kp 6 [9, 55]) Tryz.func109 rfl rfl ?_); have hk0 := hs0; obtain z5 : l.length ≤ 4294967296 := hs0; (conv => whnf); refine loop_start2 (fun (last : Int) (i : Nat) => ref19_Check_g1 (List.drop i l) last i = R ∧ i ≤ l.length) (fun last i => l.length - i) (fun last i => [(0, bookL l), (2, I 0), (3, I last), (4, I (i : Int))]) (fun last i => []) 0 0 (wk [] .nil (sl lw (s1 (s1 (s1 .nil))))) ⟨foll hR rfl, by exact omA⟩ ?_; clear hR; rintro last i ⟨hR, hj⟩; (try dsimp only at hR hj); (conv => whnf); refine And.intro (fun h1 => ?_) (fun h2 => ?_)
  · (have hlt : i < l.length := by have := of_decide_eq_true h1; omega); rw [drop_getD Book.zero hlt] at hR; (conv => whnf); refine And.intro gkA ?_; (conv => whnf); refine And.intro (fun h3 => ?_) (fun h4 => ?_)
    · (conv => whnf); obtain rfl := foll hR (ct h3 rfl); exact ret_seen lx sr
    · (conv => whnf); exact loop_next2 ((l.getD i Book.zero).id) (i + 1) (wk [] .nil (sl lw (s1 (s1 (sv (turn_eq (I_eq (wr omA)) lx) .nil))))) omA ⟨foll hR (cf h4 rfl), by exact omA⟩
  · rw [drop_none (l := l) (j := i) (by have := of_decide_eq_false h2; omega)] at hR; (conv => whnf); obtain rfl := foll hR rfl; exact ret_seen lx sr
def ref17_name (s : ByteArray) : Bool := ((decide ((ByteArray.size s : Int) > 0)) && (decide ((ByteArray.size s : Int) < 65)))
theorem ref17_name_c (s : ByteArray) : ∀ objs, AGives Tryz.prog 110 [Sg s] objs (Bo (ref17_name s)) := by
  generalize hR : ref17_name s = R; refine AGives.any' (l1 .nil) lx (ACalls.of_cwp (kp 3 []) Tryz.func110 rfl rfl ?_); (conv => whnf); obtain rfl := foll hR rfl; exact ret_seen lx sr
def ref17_ahead (a : Usage) (b : Usage) : Bool := ((Op.bytesLess (ByteArray.toList a.user) (ByteArray.toList b.user)) || ((ByteArray.toList a.user == ByteArray.toList b.user) && (Op.bytesLess (ByteArray.toList a.account) (ByteArray.toList b.account))))
theorem ref17_ahead_c (a : Usage) (b : Usage) : ∀ objs, AGives Tryz.prog 111 [Usage.a a, Usage.a b] objs (Bo (ref17_ahead a b)) := by
  generalize hR : ref17_ahead a b = R; refine AGives.any' (.cons (Usage.low _ _) (.cons (Usage.low _ _) .nil)) lx (ACalls.of_cwp (kp 5 []) Tryz.func111 rfl rfl ?_); (conv => whnf); obtain rfl := foll hR rfl; exact ret_seen lx sr
def ref25_next (n : Int) (last : Int) : Bool := (((decide (n > 0)) && (decide (n < 100001))) && (decide (n > last)))
theorem ref25_next_c (n : Int) (last : Int) : ∀ objs, AGives Tryz.prog 41 [I n, I last] objs (Bo (ref25_next n last)) := by
  generalize hR : ref25_next n last = R; refine AGives.any' (l1 (l1 .nil)) lx (ACalls.of_cwp (kp 5 []) Tryz.func41 rfl rfl ?_); (conv => whnf); obtain rfl := foll hR rfl; exact ret_seen lx sr
def ref15_At_g1 (id_ : Int) : List Job → Nat → Int
  | [], _ => (-1)
  | x_ :: r, i => bif (x_.id == id_) then (i : Int) else ref15_At_g1 id_ r (i + 1)
def ref15_At (l : List Job) (id_ : Int) : Int := ref15_At_g1 id_ l 0
theorem ref15_At_c (l : List Job) (id_ : Int) (hs0 : l.length ≤ 4294967296 ∧ (∀ y ∈ l, y.sz)) : ∀ objs, AGives Tryz.prog 87 [jobL l, I id_] objs (I (ref15_At l id_)) := by
  generalize hR : ref15_At l id_ = R; refine AGives.any' (.cons lw (l1 .nil)) lx (ACalls.of_cwp (kp 6 [9, 18]) Tryz.func87 rfl rfl ?_); have hk0 := hs0; obtain ⟨z10, z11⟩ : l.length ≤ 4294967296 ∧ (∀ y ∈ l, y.sz) := hs0; (conv => whnf); refine loop_start1 (fun (i : Nat) => ref15_At_g1 id_ (List.drop i l) i = R ∧ i ≤ l.length) (fun i => l.length - i) (fun i => [(0, jobL l), (1, I id_), (4, I 0), (5, I (i : Int))]) (fun i => []) 0 (wk [] .nil (sl lw (s1 (s1 (s1 .nil))))) ⟨foll hR rfl, by exact omA⟩ ?_; clear hR; rintro i ⟨hR, hj⟩; (try dsimp only at hR hj); (conv => whnf); refine And.intro (fun h1 => ?_) (fun h2 => ?_)
  · (have hlt : i < l.length := by have := of_decide_eq_true h1; omega); rw [drop_getD Job.zero hlt] at hR; have hxz : (l.getD i Job.zero).sz := getD_sz (by first | assumption | grind) (Job.szz _); have hkz := hxz; obtain ⟨z3, z4, z5, z6, z7⟩ : ((l.getD i Job.zero).name).size ≤ 4294967296 ∧ ((l.getD i Job.zero).user).size ≤ 4294967296 ∧ ((l.getD i Job.zero).account).size ≤ 4294967296 ∧ ((((l.getD i Job.zero).shape).alts).length ≤ 4294967296) ∧ ((l.getD i Job.zero).after).length ≤ 4294967296 := hxz; (conv => whnf); refine And.intro gkA ?_; (conv => whnf); refine And.intro (fun h8 => ?_) (fun h9 => ?_)
    · (conv => whnf); obtain rfl := foll hR (ct h8 rfl); exact ret_seen lx sr
    · (conv => whnf); exact loop_next1 (i + 1) (wk [] .nil (sl lw (s1 (s1 (sv (turn_eq (I_eq (wr omA)) lx) .nil))))) omA ⟨foll hR (cf h9 rfl), by exact omA⟩
  · rw [drop_none (l := l) (j := i) (by have := of_decide_eq_false h2; omega)] at hR; (conv => whnf); obtain rfl := foll hR rfl; exact ret_seen lx sr
theorem ref15_At_g1_lt (id_ : Int) (r : List Job) : ∀ (i : Nat), ref15_At_g1 id_ r i = -1 ∨ ((i : Int) ≤ ref15_At_g1 id_ r i ∧ ref15_At_g1 id_ r i < (i : Int) + (r.length : Int)) := by
  induction r with
  | nil => intro i; left; rfl
  | cons x r ih =>
    intro i
    rw [ref15_At_g1]
    cases (x.id == id_) with
    | true => right; simp; omega
    | false =>
      rcases ih (i + 1) with h | h
      · left; exact h
      · right; simp only [cond_false, List.length_cons]; omega
theorem ref15_At_lt (L : List Job) (id_ : Int) : ref15_At L id_ < 0 ∨ (0 ≤ ref15_At L id_ ∧ ref15_At L id_ < (L.length : Int)) := by
  rcases ref15_At_g1_lt id_ L 0 with h | h
  · left; rw [ref15_At, h]; decide
  · right; rw [ref15_At]; omega
def ref09_bit_g1 (n : Int) : Nat → Int → Nat → Int × Nat
  | 0, _, _ => (0, 0)
  | m + 1, out, i => bif (decide ((i : Int) < n)) then ref09_bit_g1 n m (wu64 (out * 2)) (i + 1) else (out, i)
def ref09_bit_k1 (out : Int) (i : Nat) : Int := out
def ref09_bit (n : Int) : Int := ref09_bit_k1 ((ref09_bit_g1 n ((Int.toNat (n - (0 : Int))) + 1) 1 0).1) ((ref09_bit_g1 n ((Int.toNat (n - (0 : Int))) + 1) 1 0).2)
theorem ref09_bit_c (n : Int) (hp0 : n ≤ 64) : ∀ objs, AGives Tryz.prog 137 [I n] objs (U (ref09_bit n)) := by
  generalize hR : ref09_bit n = R; refine AGives.any' (l1 .nil) lx (ACalls.of_cwp (kp 5 [7]) Tryz.func137 rfl rfl ?_); (conv => whnf); refine loop_start2 (fun (out : Int) (i : Nat) => ∃ m, (Int.toNat (n - (i : Int))) < m ∧ ref09_bit_k1 (ref09_bit_g1 n m out i).1 (ref09_bit_g1 n m out i).2 = R) (fun out i => (Int.toNat (n - (i : Int)))) (fun out i => [(0, I n), (2, U 0), (3, U out), (4, I (i : Int))]) (fun out i => []) 1 0 (wk [] .nil (s1 (s1 (s1 (s1 .nil))))) ⟨_, Nat.lt_succ_self _, foll hR rfl⟩ ?_; clear hR; rintro out i ⟨m, hm, hR⟩; (try dsimp only at hR hm); obtain ⟨m, rfl⟩ : ∃ k, m = k + 1 := ⟨m - 1, by omega⟩; (conv => whnf); refine And.intro (fun h1 => ?_) (fun h2 => ?_)
  · (conv => whnf); have qh1 := of_decide_eq_true h1; exact loop_next2 (wu64 (out * 2)) (i + 1) (wk [] .nil (s1 (s1 (s1 (sv (turn_eq (I_eq (wr omA)) lx) .nil))))) omA ⟨m, by exact omA, foll hR (congrArg (fun p : Int × Nat => ref09_bit_k1 p.1 p.2) (ct h1 rfl))⟩
  · (conv => whnf); have qh2 := of_decide_eq_false h2; replace hR : ref09_bit_k1 out i = R := fo2 (fun p : Int × Nat => ref09_bit_k1 p.1 p.2) (out, i) hR (cf h2 rfl); obtain rfl := foll hR rfl; exact ret_seen lx sr
theorem ref09_bit_all : ∀ k : Fin 64, ref09_bit (k.1 : Int) ≠ 0 := by decide +kernel
theorem ref09_bit_pos (n : Int) : 0 ≤ n → n ≤ 63 → ref09_bit n ≠ 0 := by
  intro h0 h
  have := ref09_bit_all ⟨n.toNat, by omega⟩
  rwa [show ((⟨n.toNat, by omega⟩ : Fin 64).1 : Int) = n by simp; omega] at this
def ref25_of_g1 (id_ : Int) : List Resize → Nat → Resize
  | [], _ => Resize.zero
  | x_ :: r, i => bif (x_.job == id_) then x_ else ref25_of_g1 id_ r (i + 1)
def ref25_of (s : State) (id_ : Int) : Resize := ref25_of_g1 id_ s.resizes 0
theorem ref25_of_c (s : State) (id_ : Int) (hs0 : s.sz) : ∀ objs, AGives Tryz.prog 33 [State.a s, I id_] objs (Resize.a (ref25_of s id_)) := by
  generalize hR : ref25_of s id_ = R; refine AGives.any' (.cons (State.low _ _) (l1 .nil)) (Resize.low _ _) (ACalls.of_cwp (kp 6 [10, 20]) Tryz.func33 rfl rfl ?_); have hk0 := hs0; obtain ⟨z5, z6, z7, z8, z9, z10, z11⟩ : s.nodes.length ≤ 4294967296 ∧ s.jobs.length ≤ 4294967296 ∧ (∀ y ∈ s.jobs, y.sz) ∧ s.resizes.length ≤ 4294967296 ∧ s.books.length ≤ 4294967296 ∧ s.ledger.length ≤ 4294967296 ∧ (∀ y ∈ s.ledger, y.sz) := hs0; (conv => whnf); refine loop_start1 (fun (i : Nat) => ref25_of_g1 id_ (List.drop i s.resizes) i = R ∧ i ≤ s.resizes.length) (fun i => s.resizes.length - i) (fun i => [(1, I id_), (2, AVal.ptr 0 0 8 0 0), (4, AVal.ptr 1 0 5 0 0), (5, I (i : Int))]) (fun i => [(0, AObj.row 28 8 [[I s.now, nodeL s.nodes, jobL s.jobs, resizeL s.resizes, bookL s.books, usageL s.ledger, I s.nextJob, I s.nextBook]]), (0, AObj.row 38 5 [[I 0, Bo false, U 0, U 0, I 0]])]) 0 (wk [0, 1] (tO rfl (ts State.lo) (tO rfl (ts Resize.lo) .nil)) (s1 (sv (turn_ptr 0 rfl rfl) (sv (turn_ptr 1 rfl rfl) (s1 .nil))))) ⟨foll hR rfl, by exact omA⟩ ?_; clear hR; rintro i ⟨hR, hj⟩; (try dsimp only at hR hj); (conv => whnf); refine And.intro (fun h1 => ?_) (fun h2 => ?_)
  · (have hlt : i < s.resizes.length := by have := of_decide_eq_true h1; omega); rw [drop_getD Resize.zero hlt] at hR; (conv => whnf); refine And.intro gkA ?_; (conv => whnf); refine And.intro (fun h3 => ?_) (fun h4 => ?_)
    · (conv => whnf); refine And.intro gkA ?_; (conv => whnf); obtain rfl := foll hR (ct h3 rfl); exact ret_seen (Resize.low _ _) sr
    · (conv => whnf); exact loop_next1 (i + 1) (wk [0, 1] (tO rfl (ts State.lo) (tO rfl (ts Resize.lo) .nil)) (s1 (sv (turn_ptr 0 rfl rfl) (sv (turn_ptr 1 rfl rfl) (sv (turn_eq (I_eq (wr omA)) lx) .nil))))) omA ⟨foll hR (cf h4 rfl), by exact omA⟩
  · rw [drop_none (l := s.resizes) (j := i) (by have := of_decide_eq_false h2; omega)] at hR; (conv => whnf); obtain rfl := foll hR rfl; exact ret_seen (Resize.low _ _) sr
def ref12_bit_g1 (n : Int) : Nat → Int → Nat → Int × Nat
  | 0, _, _ => (0, 0)
  | m + 1, out, i => bif (decide ((i : Int) < n)) then ref12_bit_g1 n m (wu64 (2 * out)) (i + 1) else (out, i)
def ref12_bit_k1 (out : Int) (i : Nat) : Int := out
def ref12_bit (n : Int) : Int := ref12_bit_k1 ((ref12_bit_g1 n ((Int.toNat (n - (0 : Int))) + 1) 1 0).1) ((ref12_bit_g1 n ((Int.toNat (n - (0 : Int))) + 1) 1 0).2)
theorem ref12_bit_c (n : Int) (hp0 : n ≤ 64) : ∀ objs, AGives Tryz.prog 81 [I n] objs (U (ref12_bit n)) := by
  generalize hR : ref12_bit n = R; refine AGives.any' (l1 .nil) lx (ACalls.of_cwp (kp 5 [7]) Tryz.func81 rfl rfl ?_); (conv => whnf); refine loop_start2 (fun (out : Int) (i : Nat) => ∃ m, (Int.toNat (n - (i : Int))) < m ∧ ref12_bit_k1 (ref12_bit_g1 n m out i).1 (ref12_bit_g1 n m out i).2 = R) (fun out i => (Int.toNat (n - (i : Int)))) (fun out i => [(0, I n), (2, U 0), (3, U out), (4, I (i : Int))]) (fun out i => []) 1 0 (wk [] .nil (s1 (s1 (s1 (s1 .nil))))) ⟨_, Nat.lt_succ_self _, foll hR rfl⟩ ?_; clear hR; rintro out i ⟨m, hm, hR⟩; (try dsimp only at hR hm); obtain ⟨m, rfl⟩ : ∃ k, m = k + 1 := ⟨m - 1, by omega⟩; (conv => whnf); refine And.intro (fun h1 => ?_) (fun h2 => ?_)
  · (conv => whnf); have qh1 := of_decide_eq_true h1; exact loop_next2 (wu64 (2 * out)) (i + 1) (wk [] .nil (s1 (s1 (s1 (sv (turn_eq (I_eq (wr omA)) lx) .nil))))) omA ⟨m, by exact omA, foll hR (congrArg (fun p : Int × Nat => ref12_bit_k1 p.1 p.2) (ct h1 rfl))⟩
  · (conv => whnf); have qh2 := of_decide_eq_false h2; replace hR : ref12_bit_k1 out i = R := fo2 (fun p : Int × Nat => ref12_bit_k1 p.1 p.2) (out, i) hR (cf h2 rfl); obtain rfl := foll hR rfl; exact ret_seen lx sr
def ref12_Same_g1 (b : List Node) : List Node → Nat → Bool
  | [], _ => true
  | x_ :: r, i => bif (!((x_.state == (b.getD i Node.zero).state) && ((x_.job == (b.getD i Node.zero).job) && ((x_.epoch == (b.getD i Node.zero).epoch) && ((x_.drain == (b.getD i Node.zero).drain) && ((x_.want == (b.getD i Node.zero).want) && ((x_.since == (b.getD i Node.zero).since) && (x_.asked == (b.getD i Node.zero).asked)))))))) then false else ref12_Same_g1 b r (i + 1)
def ref12_Same (a : List Node) (b : List Node) : Bool := bif ((a.length : Int) != (b.length : Int)) then false else ref12_Same_g1 b a 0
theorem ref12_Same_c (a : List Node) (b : List Node) (hs0 : a.length ≤ 4294967296) (hs1 : b.length ≤ 4294967296) : ∀ objs, AGives Tryz.prog 45 [nodeL a, nodeL b] objs (Bo (ref12_Same a b)) := by
  generalize hR : ref12_Same a b = R; refine AGives.any' (.cons lw (.cons lw .nil)) lx (ACalls.of_cwp (kp 6 [10, 14, 25]) Tryz.func45 rfl rfl ?_); have hk0 := hs0; obtain z7 : a.length ≤ 4294967296 := hs0; have hk1 := hs1; obtain z8 : b.length ≤ 4294967296 := hs1; (conv => whnf); refine And.intro (fun h1 => ?_) (fun h2 => ?_)
  · (conv => whnf); obtain rfl := foll hR (ct h1 rfl); exact ret_seen lx sr
  · (conv => whnf); refine loop_start1 (fun (i : Nat) => ref12_Same_g1 b (List.drop i a) i = R ∧ i ≤ a.length) (fun i => a.length - i) (fun i => [(0, nodeL a), (1, nodeL b), (4, Bo false), (5, I (i : Int))]) (fun i => []) 0 (wk [] .nil (sl lw (sl lw (s1 (s1 .nil))))) ⟨foll hR (cf h2 rfl), by exact omA⟩ ?_; clear hR; rintro i ⟨hR, hj⟩; (try dsimp only at hR hj); (conv => whnf); refine And.intro (fun h3 => ?_) (fun h4 => ?_)
    · (have hlt : i < a.length := by have := of_decide_eq_true h3; omega); rw [drop_getD Node.zero hlt] at hR; (conv => whnf); refine dchk (by kernel_rfl) ?_; (conv => whnf); refine And.intro gkA ?_; (conv => whnf); refine And.intro gkA ?_; (conv => whnf); refine And.intro (fun _ => (by kernel_rfl : eqOK _ _ = true)) ?_; (conv => whnf); (repeat ((first | refine And.intro rfl ?_ | refine And.intro (fun _ => rfl) ?_); conv => whnf)); refine And.intro (fun h5 => ?_) (fun h6 => ?_)
      · (conv => whnf); obtain rfl := foll hR (ct h5 rfl); exact ret_seen lx sr
      · (conv => whnf); exact loop_next1 (i + 1) (wk [] .nil (sl lw (sl lw (s1 (sv (turn_eq (I_eq (wr omA)) lx) .nil))))) omA ⟨foll hR (cf h6 rfl), by exact omA⟩
    · rw [drop_none (l := a) (j := i) (by have := of_decide_eq_false h4; omega)] at hR; (conv => whnf); obtain rfl := foll hR rfl; exact ret_seen lx sr
def ref25_SameResizes_g1 (b : List Resize) : List Resize → Nat → Bool
  | [], _ => true
  | x_ :: r, i => bif (!((x_.job == (b.getD i Resize.zero).job) && ((x_.grow == (b.getD i Resize.zero).grow) && ((x_.nodes == (b.getD i Resize.zero).nodes) && ((x_.said == (b.getD i Resize.zero).said) && (x_.since == (b.getD i Resize.zero).since)))))) then false else ref25_SameResizes_g1 b r (i + 1)
def ref25_SameResizes (a : List Resize) (b : List Resize) : Bool := bif ((a.length : Int) != (b.length : Int)) then false else ref25_SameResizes_g1 b a 0
theorem ref25_SameResizes_c (a : List Resize) (b : List Resize) (hs0 : a.length ≤ 4294967296) (hs1 : b.length ≤ 4294967296) : ∀ objs, AGives Tryz.prog 47 [resizeL a, resizeL b] objs (Bo (ref25_SameResizes a b)) := by
  generalize hR : ref25_SameResizes a b = R; refine AGives.any' (.cons lw (.cons lw .nil)) lx (ACalls.of_cwp (kp 6 [10, 14, 25]) Tryz.func47 rfl rfl ?_); have hk0 := hs0; obtain z7 : a.length ≤ 4294967296 := hs0; have hk1 := hs1; obtain z8 : b.length ≤ 4294967296 := hs1; (conv => whnf); refine And.intro (fun h1 => ?_) (fun h2 => ?_)
  · (conv => whnf); obtain rfl := foll hR (ct h1 rfl); exact ret_seen lx sr
  · (conv => whnf); refine loop_start1 (fun (i : Nat) => ref25_SameResizes_g1 b (List.drop i a) i = R ∧ i ≤ a.length) (fun i => a.length - i) (fun i => [(0, resizeL a), (1, resizeL b), (4, Bo false), (5, I (i : Int))]) (fun i => []) 0 (wk [] .nil (sl lw (sl lw (s1 (s1 .nil))))) ⟨foll hR (cf h2 rfl), by exact omA⟩ ?_; clear hR; rintro i ⟨hR, hj⟩; (try dsimp only at hR hj); (conv => whnf); refine And.intro (fun h3 => ?_) (fun h4 => ?_)
    · (have hlt : i < a.length := by have := of_decide_eq_true h3; omega); rw [drop_getD Resize.zero hlt] at hR; (conv => whnf); refine dchk (by kernel_rfl) ?_; (conv => whnf); refine And.intro gkA ?_; (conv => whnf); refine And.intro gkA ?_; (conv => whnf); refine And.intro (fun _ => (by kernel_rfl : eqOK _ _ = true)) ?_; (conv => whnf); (repeat ((first | refine And.intro rfl ?_ | refine And.intro (fun _ => rfl) ?_); conv => whnf)); refine And.intro (fun h5 => ?_) (fun h6 => ?_)
      · (conv => whnf); obtain rfl := foll hR (ct h5 rfl); exact ret_seen lx sr
      · (conv => whnf); exact loop_next1 (i + 1) (wk [] .nil (sl lw (sl lw (s1 (sv (turn_eq (I_eq (wr omA)) lx) .nil))))) omA ⟨foll hR (cf h6 rfl), by exact omA⟩
    · rw [drop_none (l := a) (j := i) (by have := of_decide_eq_false h4; omega)] at hR; (conv => whnf); obtain rfl := foll hR rfl; exact ret_seen lx sr
def ref19_Same_g1 (b : List Book) : List Book → Nat → Bool
  | [], _ => true
  | x_ :: r, i => bif (!((x_.id == (b.getD i Book.zero).id) && ((x_.from_ == (b.getD i Book.zero).from_) && ((x_.to == (b.getD i Book.zero).to) && (x_.nodes == (b.getD i Book.zero).nodes))))) then false else ref19_Same_g1 b r (i + 1)
def ref19_Same (a : List Book) (b : List Book) : Bool := bif ((a.length : Int) != (b.length : Int)) then false else ref19_Same_g1 b a 0
theorem ref19_Same_c (a : List Book) (b : List Book) (hs0 : a.length ≤ 4294967296) (hs1 : b.length ≤ 4294967296) : ∀ objs, AGives Tryz.prog 48 [bookL a, bookL b] objs (Bo (ref19_Same a b)) := by
  generalize hR : ref19_Same a b = R; refine AGives.any' (.cons lw (.cons lw .nil)) lx (ACalls.of_cwp (kp 6 [10, 14, 25]) Tryz.func48 rfl rfl ?_); have hk0 := hs0; obtain z7 : a.length ≤ 4294967296 := hs0; have hk1 := hs1; obtain z8 : b.length ≤ 4294967296 := hs1; (conv => whnf); refine And.intro (fun h1 => ?_) (fun h2 => ?_)
  · (conv => whnf); obtain rfl := foll hR (ct h1 rfl); exact ret_seen lx sr
  · (conv => whnf); refine loop_start1 (fun (i : Nat) => ref19_Same_g1 b (List.drop i a) i = R ∧ i ≤ a.length) (fun i => a.length - i) (fun i => [(0, bookL a), (1, bookL b), (4, Bo false), (5, I (i : Int))]) (fun i => []) 0 (wk [] .nil (sl lw (sl lw (s1 (s1 .nil))))) ⟨foll hR (cf h2 rfl), by exact omA⟩ ?_; clear hR; rintro i ⟨hR, hj⟩; (try dsimp only at hR hj); (conv => whnf); refine And.intro (fun h3 => ?_) (fun h4 => ?_)
    · (have hlt : i < a.length := by have := of_decide_eq_true h3; omega); rw [drop_getD Book.zero hlt] at hR; (conv => whnf); refine dchk (by kernel_rfl) ?_; (conv => whnf); refine And.intro gkA ?_; (conv => whnf); refine And.intro gkA ?_; (conv => whnf); refine And.intro (fun _ => (by kernel_rfl : eqOK _ _ = true)) ?_; (conv => whnf); (repeat ((first | refine And.intro rfl ?_ | refine And.intro (fun _ => rfl) ?_); conv => whnf)); refine And.intro (fun h5 => ?_) (fun h6 => ?_)
      · (conv => whnf); obtain rfl := foll hR (ct h5 rfl); exact ret_seen lx sr
      · (conv => whnf); exact loop_next1 (i + 1) (wk [] .nil (sl lw (sl lw (s1 (sv (turn_eq (I_eq (wr omA)) lx) .nil))))) omA ⟨foll hR (cf h6 rfl), by exact omA⟩
    · rw [drop_none (l := a) (j := i) (by have := of_decide_eq_false h4; omega)] at hR; (conv => whnf); obtain rfl := foll hR rfl; exact ret_seen lx sr
def ref17_Same_g1 (b : List Usage) : List Usage → Nat → Bool
  | [], _ => true
  | x_ :: r, i => bif ((((!(ByteArray.toList x_.user == ByteArray.toList (b.getD i Usage.zero).user)) || (!(ByteArray.toList x_.account == ByteArray.toList (b.getD i Usage.zero).account))) || (x_.used != (b.getD i Usage.zero).used)) || (x_.share != (b.getD i Usage.zero).share)) then false else ref17_Same_g1 b r (i + 1)
def ref17_Same (a : List Usage) (b : List Usage) : Bool := bif ((a.length : Int) != (b.length : Int)) then false else ref17_Same_g1 b a 0
theorem ref17_Same_c (a : List Usage) (b : List Usage) (hs0 : a.length ≤ 4294967296 ∧ (∀ y ∈ a, y.sz)) (hs1 : b.length ≤ 4294967296 ∧ (∀ y ∈ b, y.sz)) : ∀ objs, AGives Tryz.prog 49 [usageL a, usageL b] objs (Bo (ref17_Same a b)) := by
  generalize hR : ref17_Same a b = R; refine AGives.any' (.cons lw (.cons lw .nil)) lx (ACalls.of_cwp (kp 6 [10, 14, 66]) Tryz.func49 rfl rfl ?_); have hk0 := hs0; obtain ⟨z9, z10⟩ : a.length ≤ 4294967296 ∧ (∀ y ∈ a, y.sz) := hs0; have hk1 := hs1; obtain ⟨z11, z12⟩ : b.length ≤ 4294967296 ∧ (∀ y ∈ b, y.sz) := hs1; (conv => whnf); refine And.intro (fun h1 => ?_) (fun h2 => ?_)
  · (conv => whnf); obtain rfl := foll hR (ct h1 rfl); exact ret_seen lx sr
  · (conv => whnf); refine loop_start1 (fun (i : Nat) => ref17_Same_g1 b (List.drop i a) i = R ∧ i ≤ a.length) (fun i => a.length - i) (fun i => [(0, usageL a), (1, usageL b), (4, Bo false), (5, I (i : Int))]) (fun i => []) 0 (wk [] .nil (sl lw (sl lw (s1 (s1 .nil))))) ⟨foll hR (cf h2 rfl), by exact omA⟩ ?_; clear hR; rintro i ⟨hR, hj⟩; (try dsimp only at hR hj); (conv => whnf); refine And.intro (fun h3 => ?_) (fun h4 => ?_)
    · (have hlt : i < a.length := by have := of_decide_eq_true h3; omega); rw [drop_getD Usage.zero hlt] at hR; have hxz : (a.getD i Usage.zero).sz := getD_sz (by first | assumption | grind) (Usage.szz _); have hkz := hxz; obtain ⟨z5, z6⟩ : ((a.getD i Usage.zero).user).size ≤ 4294967296 ∧ ((a.getD i Usage.zero).account).size ≤ 4294967296 := hxz; (conv => whnf); refine dchk (by kernel_rfl) ?_; (conv => whnf); refine And.intro gkA ?_; (conv => whnf); refine And.intro gkA ?_; (conv => whnf); refine And.intro gkA ?_; (conv => whnf); refine And.intro gkA ?_; (conv => whnf); refine And.intro gkA ?_; (conv => whnf); refine And.intro gkA ?_; (conv => whnf); refine And.intro gkA ?_; (conv => whnf); refine And.intro gkA ?_; (conv => whnf); (repeat ((first | refine And.intro rfl ?_ | refine And.intro (fun _ => rfl) ?_); conv => whnf)); refine And.intro (fun h7 => ?_) (fun h8 => ?_)
      · (conv => whnf); obtain rfl := foll hR (ct h7 rfl); exact ret_seen lx sr
      · (conv => whnf); exact loop_next1 (i + 1) (wk [] .nil (sl lw (sl lw (s1 (sv (turn_eq (I_eq (wr omA)) lx) .nil))))) omA ⟨foll hR (cf h8 rfl), by exact omA⟩
    · rw [drop_none (l := a) (j := i) (by have := of_decide_eq_false h4; omega)] at hR; (conv => whnf); obtain rfl := foll hR rfl; exact ret_seen lx sr
end Go.Proofs.YtoionleakeemlaaGreatDoor
