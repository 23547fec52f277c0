/-
  Contracts of functions, printed by a program of this repo (wip/dec). No condition beyond those that stand in each.
  Words as sets of bits: what and, or, and-not, a power, a sum of powers say of each bit. Program-independent; no condition but that a number is a word's.
  The same for a row that lists package variables: from a law's contract to the row's statement: the arguments are read, the law is called, they read as they did. Program-independent.
  How arguments are read: structs of the program, with what is known of them. No condition.
  What is read is of a size that a machine holds. No condition.
  The law's witness: some answers that the document fixes: true. No condition.
  The program's and the document's sets of nodes: which bits they have. No condition beyond those that stand in each.
  The plain law of StateApart: in a state that may be no two jobs have a node in common, each has a size that its shape allows, what is free is nobody's. Conditions stand in each lemma.
  StateApart holds for every input: in a state that may be no two jobs have a node in common, each has a size that its shape allows, and what is free is nobody's. No condition.
-/
import Derived.Test.YtoionleakeemlaaGreatDoorG12
import Derived.Test.YtoionleakeemlaaGreatDoorProg
import Derived.Test.YtoionleakeemlaaGreatDoorG7
import Derived.Test.YtoionleakeemlaaGreatDoorG6
import Derived.LaidMore
import Derived.Stop.Joined
import Derived.JoinedOf
import Derived.Handed
import Derived.OpenShut
import Derived.KernelRfl
import Derived.Test.YtoionleakeemlaaGreatDoorG8
import Derived.Test.YtoionleakeemlaaGreatDoorTie
import Derived.Test.YtoionleakeemlaaGreatDoorCards
import Derived.Test.YtoionleakeemlaaGreatDoorRows
import Derived.ProofKit
import Derived.SevenTiedAt
namespace Go.Proofs.YtoionleakeemlaaGreatDoor
set_option linter.unusedSimpArgs false
set_option linter.unusedVariables false
open Go.Fw

set_option maxRecDepth 20000
set_option maxHeartbeats 4000000
attribute [local irreducible] ACalls AMoves


-- F muster/musterlaw25.StateApart
def law25_StateApart_g1 (s : State) : List Job → Int → Nat → Bool
  | [], all_, _ =>
    (((wu64 (BitVec.ofInt 64 all_ &&& BitVec.ofInt 64 (fleet_Free s.nodes)).toNat) == 0) && law25_awake)
  | x_ :: r, all_, i =>
    bif ((((wu64 (BitVec.ofInt 64 (state_Config s x_.id) &&& BitVec.ofInt 64 all_).toNat) != 0) || ((wu64 (BitVec.ofInt 64 (state_Config s x_.id) &&& ~~~(BitVec.ofInt 64 (nodeset_All (s.nodes.length : Int)))).toNat) != 0)) || ((x_.state == 2) && (!(shape_Allows x_.shape x_.choice (nodeset_Count (state_Config s x_.id)))))) then
      false
    else
      law25_StateApart_g1 s r (wu64 (BitVec.ofInt 64 all_ ||| BitVec.ofInt 64 (state_Config s x_.id)).toNat) (i + 1)

def law25_StateApart (s : State) : Bool :=
  bif ((!(law20_Few s)) || ((state_Check s) != 0)) then
    law25_awake
  else
    law25_StateApart_g1 s s.jobs 0 0

theorem law25_StateApart_c (s : State) (hs0 : s.szM) : ∀ objs, AGives Tryz.prog 6 [State.a s] objs (Bo (law25_StateApart s)) := by
  generalize hR : law25_StateApart s = R
  refine AGives.any' (.cons (State.low _ _) .nil) lx (ACalls.of_cwp (kp 7 [14, 20, 59]) Tryz.func6 rfl rfl ?_)
  have hk0 := hs0
  obtain ⟨z12, z13, z14, z15, z16, z17, z18⟩ : s.nodes.length ≤ 9223372036854775807 ∧ s.jobs.length ≤ 9223372036854775807 ∧ (∀ y ∈ s.jobs, y.szM) ∧ s.resizes.length ≤ 9223372036854775807 ∧ s.books.length ≤ 9223372036854775807 ∧ s.ledger.length ≤ 9223372036854775807 ∧ (∀ y ∈ s.ledger, y.szM) := hs0
  conv => whnf
  refine ACalls.use (law20_Few_c s (by first | (exact (law20_Few_sz (by have q := h2; simp only [Bool.or_eq_false_iff, Bool.not_eq_false'] at q; exact q.1)).1) | first | (exact (getD_sz (law20_Few_sz (by have q := h2; simp only [Bool.or_eq_false_iff, Bool.not_eq_false'] at q; exact q.1)).2.2.1 (Job.szz _)).2.2.2.1) | first | (exact law20_Few_sz (by first | assumption | (have q := hg; simp only [Bool.not_not, Bool.not_eq_true', Bool.not_eq_false'] at q; exact q) | (have q := h2; simp only [Bool.or_eq_false_iff, Bool.not_eq_false'] at q; first | exact q | exact q.1 | exact q.2))) | exact szA) _) ?_
  conv => whnf
  (first | apply u3g | apply u4g); exact fun hg => state_Check_c s (by first | (exact (law20_Few_sz (by have q := h2; simp only [Bool.or_eq_false_iff, Bool.not_eq_false'] at q; exact q.1)).1) | first | (exact (getD_sz (law20_Few_sz (by have q := h2; simp only [Bool.or_eq_false_iff, Bool.not_eq_false'] at q; exact q.1)).2.2.1 (Job.szz _)).2.2.2.1) | first | (exact law20_Few_sz (by first | assumption | (have q := hg; simp only [Bool.not_not, Bool.not_eq_true', Bool.not_eq_false'] at q; exact q) | (have q := h2; simp only [Bool.or_eq_false_iff, Bool.not_eq_false'] at q; first | exact q | exact q.1 | exact q.2))) | exact szA) _
  conv => whnf
  refine And.intro (fun h1 => ?_) (fun h2 => ?_)
  · conv => whnf
    refine ACalls.use (law25_awake_c _) ?_
    conv => whnf
    obtain rfl := foll hR (ct h1 rfl)
    exact ret_seen lx sr
  · conv => whnf
    refine loop_start2 (fun (all_ : Int) (i : Nat) => law25_StateApart_g1 s (List.drop i s.jobs) all_ i = R ∧ i ≤ s.jobs.length) (fun all_ i => s.jobs.length - i) (fun all_ i => [(1, AVal.ptr 0 0 8 0 0), (2, Bo false), (3, U all_), (4, I (i : Int))]) (fun all_ i => [(0, AObj.row 28 8 [[I s.now, nodeL s.nodes, jobL s.jobs, resizeL s.resizes, bookL s.books, usageL s.ledger, I s.nextJob, I s.nextBook]])]) 0 0 (wk [0] (tO rfl (ts State.lo) .nil) (sv (turn_ptr 0 rfl rfl) (s1 (s1 (s1 .nil))))) ⟨foll hR (cf h2 rfl), by exact omA⟩ ?_
    clear hR
    rintro all_ i ⟨hR, hj⟩
    try dsimp only at hR hj
    conv => whnf
    refine And.intro (fun h3 => ?_) (fun h4 => ?_)
    · have hlt : i < s.jobs.length := by have := of_decide_eq_true h3; omega
      rw [drop_getD Job.zero hlt] at hR
      have hxz : (s.jobs.getD i Job.zero).szM := getD_sz (by first | assumption | grind) (Job.szz _)
      have hkz := hxz
      obtain ⟨z5, z6, z7, z8, z9⟩ : ((s.jobs.getD i Job.zero).name).size ≤ 9223372036854775807 ∧ ((s.jobs.getD i Job.zero).user).size ≤ 9223372036854775807 ∧ ((s.jobs.getD i Job.zero).account).size ≤ 9223372036854775807 ∧ ((((s.jobs.getD i Job.zero).shape).alts).length ≤ 9223372036854775807) ∧ ((s.jobs.getD i Job.zero).after).length ≤ 9223372036854775807 := hxz
      conv => whnf
      refine And.intro gkA ?_
      conv => whnf
      refine ACalls.use (state_Config_c s ((s.jobs.getD i Job.zero).id) (by first | (exact (law20_Few_sz (by have q := h2; simp only [Bool.or_eq_false_iff, Bool.not_eq_false'] at q; exact q.1)).1) | first | (exact (getD_sz (law20_Few_sz (by have q := h2; simp only [Bool.or_eq_false_iff, Bool.not_eq_false'] at q; exact q.1)).2.2.1 (Job.szz _)).2.2.2.1) | first | (exact law20_Few_sz (by first | assumption | (have q := hg; simp only [Bool.not_not, Bool.not_eq_true', Bool.not_eq_false'] at q; exact q) | (have q := h2; simp only [Bool.or_eq_false_iff, Bool.not_eq_false'] at q; first | exact q | exact q.1 | exact q.2))) | exact szA) _) ?_
      conv => whnf
      refine dchk (by kernel_rfl) ?_
      conv => whnf
      (first | apply u3g | apply u4g); exact fun hg => nodeset_All_c (s.nodes.length : Int) _
      conv => whnf
      (first | apply u3g | apply u4g); exact fun hg => nodeset_Count_c (state_Config s (s.jobs.getD i Job.zero).id) _
      conv => whnf
      (first | apply u3g | apply u4g); exact fun hg => shape_Allows_c ((s.jobs.getD i Job.zero).shape) ((s.jobs.getD i Job.zero).choice) (nodeset_Count (state_Config s (s.jobs.getD i Job.zero).id)) (by first | (exact (law20_Few_sz (by have q := h2; simp only [Bool.or_eq_false_iff, Bool.not_eq_false'] at q; exact q.1)).1) | first | (exact (getD_sz (law20_Few_sz (by have q := h2; simp only [Bool.or_eq_false_iff, Bool.not_eq_false'] at q; exact q.1)).2.2.1 (Job.szz _)).2.2.2.1) | first | (exact law20_Few_sz (by first | assumption | (have q := hg; simp only [Bool.not_not, Bool.not_eq_true', Bool.not_eq_false'] at q; exact q) | (have q := h2; simp only [Bool.or_eq_false_iff, Bool.not_eq_false'] at q; first | exact q | exact q.1 | exact q.2))) | exact szA) _
      conv => whnf
      repeat ((first | refine And.intro rfl ?_ | refine And.intro (fun _ => rfl) ?_ | refine And.intro (fun _ => nodeset_All_c (s.nodes.length : Int) _) ?_ | refine And.intro (fun _ => nodeset_Count_c (state_Config s (s.jobs.getD i Job.zero).id) _) ?_ | refine And.intro (fun _ => shape_Allows_c ((s.jobs.getD i Job.zero).shape) ((s.jobs.getD i Job.zero).choice) (nodeset_Count (state_Config s (s.jobs.getD i Job.zero).id)) (by first | (exact (law20_Few_sz (by have q := h2; simp only [Bool.or_eq_false_iff, Bool.not_eq_false'] at q; exact q.1)).1) | first | (exact (getD_sz (law20_Few_sz (by have q := h2; simp only [Bool.or_eq_false_iff, Bool.not_eq_false'] at q; exact q.1)).2.2.1 (Job.szz _)).2.2.2.1) | first | (exact law20_Few_sz (by first | assumption | (have q := hg; simp only [Bool.not_not, Bool.not_eq_true', Bool.not_eq_false'] at q; exact q) | (have q := h2; simp only [Bool.or_eq_false_iff, Bool.not_eq_false'] at q; first | exact q | exact q.1 | exact q.2))) | exact szA) _) ?_); conv => whnf)
      refine And.intro (fun h10 => ?_) (fun h11 => ?_)
      · conv => whnf
        obtain rfl := foll hR (ct h10 rfl)
        exact ret_seen lx sr
      · conv => whnf
        exact loop_next2 (wu64 (BitVec.ofInt 64 all_ ||| BitVec.ofInt 64 (state_Config s (s.jobs.getD i Job.zero).id)).toNat) (i + 1) (wk [0] (tO rfl (ts State.lo) .nil) (sv (turn_ptr 0 rfl rfl) (s1 (s1 (sv (turn_eq (I_eq (wr omA)) lx) .nil))))) omA ⟨foll hR (cf h11 rfl), by exact omA⟩
    · rw [drop_none (l := s.jobs) (j := i) (by have := of_decide_eq_false h4; omega)] at hR
      conv => whnf
      refine ACalls.use (fleet_Free_c s.nodes (by first | (exact (law20_Few_sz (by have q := h2; simp only [Bool.or_eq_false_iff, Bool.not_eq_false'] at q; exact q.1)).1) | first | (exact (getD_sz (law20_Few_sz (by have q := h2; simp only [Bool.or_eq_false_iff, Bool.not_eq_false'] at q; exact q.1)).2.2.1 (Job.szz _)).2.2.2.1) | first | (exact law20_Few_sz (by first | assumption | (have q := hg; simp only [Bool.not_not, Bool.not_eq_true', Bool.not_eq_false'] at q; exact q) | (have q := h2; simp only [Bool.or_eq_false_iff, Bool.not_eq_false'] at q; first | exact q | exact q.1 | exact q.2))) | exact szA) _) ?_
      conv => whnf
      (first | apply u3g | apply u4g); exact fun hg => law25_awake_c _
      conv => whnf
      obtain rfl := foll hR rfl
      exact ret_seen lx sr

end Go.Proofs.YtoionleakeemlaaGreatDoor
namespace Go.Fw
set_option linter.unusedSimpArgs false
set_option linter.unusedVariables false

/-- A word: the numbers of 64 bits without a sign. -/
def U64 (x : Int) : Prop := 0 ≤ x ∧ x < 18446744073709551616
/-- A bit of it. -/
def tb (x : Int) (k : Nat) : Bool := x.toNat.testBit k

theorem wu64_eq (n : Int) : wu64 n = n % 18446744073709551616 := by simp [IntKind.wrap, IntKind.bits, IntKind.signed]
theorem wu64_id {n : Int} (h : U64 n) : wu64 n = n := by rw [wu64_eq]; unfold U64 at h; omega
theorem wu64_U (n : Int) : U64 (wu64 n) := by rw [wu64_eq]; unfold U64; omega
theorem U64.zero : U64 0 := ⟨by decide, by decide⟩

theorem wu64_bv (b : BitVec 64) : wu64 (b.toNat : Int) = (b.toNat : Int) := wu64_id ⟨by omega, by have := b.isLt; omega⟩
theorem tb_bv (b : BitVec 64) (k : Nat) : tb (wu64 (b.toNat : Int)) k = b.getLsbD k := by
  rw [wu64_bv, tb, Int.toNat_natCast, BitVec.testBit_toNat]

theorem tb_high {x : Int} (h : U64 x) {k : Nat} (hk : 64 ≤ k) : tb x k = false := by
  unfold tb U64 at *
  refine Nat.testBit_lt_two_pow (Nat.lt_of_lt_of_le (m := 2 ^ 64) (by omega) (Nat.pow_le_pow_right (by decide) hk))

theorem bit_ofInt {x : Int} (h : U64 x) (k : Nat) : (BitVec.ofInt 64 x).getLsbD k = tb x k := by
  have e : (BitVec.ofInt 64 x).toNat = x.toNat := by
    rw [BitVec.toNat_ofInt]
    unfold U64 at h
    have : x % (2 ^ 64 : Nat) = x := Int.emod_eq_of_lt h.1 (by simpa using h.2)
    rw [this]
  rw [← BitVec.testBit_toNat, e]
  rfl

theorem tb_and {x y : Int} (hx : U64 x) (hy : U64 y) (k : Nat) : tb (wu64 ((BitVec.ofInt 64 x &&& BitVec.ofInt 64 y).toNat : Int)) k = (tb x k && tb y k) := by
  rw [tb_bv, BitVec.getLsbD_and, bit_ofInt hx, bit_ofInt hy]
theorem tb_or {x y : Int} (hx : U64 x) (hy : U64 y) (k : Nat) : tb (wu64 ((BitVec.ofInt 64 x ||| BitVec.ofInt 64 y).toNat : Int)) k = (tb x k || tb y k) := by
  rw [tb_bv, BitVec.getLsbD_or, bit_ofInt hx, bit_ofInt hy]
theorem tb_andnot {x y : Int} (hx : U64 x) (hy : U64 y) (k : Nat) : tb (wu64 ((BitVec.ofInt 64 x &&& ~~~(BitVec.ofInt 64 y)).toNat : Int)) k = (tb x k && !tb y k) := by
  rw [tb_bv, BitVec.getLsbD_and, BitVec.getLsbD_not, bit_ofInt hx, bit_ofInt hy]
  rcases Nat.lt_or_ge k 64 with h | h
  · simp [h]
  · simp [tb_high hx h]

theorem tb_ext {x y : Int} (hx : U64 x) (hy : U64 y) (h : ∀ k, k < 64 → tb x k = tb y k) : x = y := by
  have : x.toNat = y.toNat := by
    refine Nat.eq_of_testBit_eq fun k => ?_
    rcases Nat.lt_or_ge k 64 with hk | hk
    · exact h k hk
    · exact (tb_high hx hk).trans (tb_high hy hk).symm
  unfold U64 at hx hy
  omega

theorem tb_zero (k : Nat) : tb 0 k = false := by simp [tb]

theorem eq_zero_iff {x : Int} (hx : U64 x) : (x == 0) = true ↔ ∀ k, k < 64 → tb x k = false := by
  rw [beq_iff_eq]
  refine ⟨fun h k _ => by rw [h]; exact tb_zero k, fun h => tb_ext hx .zero fun k hk => by rw [h k hk, tb_zero]⟩

theorem ne_zero_iff {x : Int} (hx : U64 x) : (x != 0) = true ↔ ∃ k, k < 64 ∧ tb x k = true := by
  rw [bne_iff_ne]
  constructor
  · intro h
    apply Classical.byContradiction
    intro hn
    refine h (beq_iff_eq.1 ((eq_zero_iff hx).2 fun k hk => ?_))
    cases hb : tb x k with
    | false => rfl
    | true => exact (hn ⟨k, hk, hb⟩).elim
  · rintro ⟨k, _, hb⟩ e
    rw [e, tb_zero] at hb
    cases hb

theorem two_pow_cast (k : Nat) : ∃ m : Nat, (2 : Int) ^ k = (m : Int) ∧ 2 ^ k = m := ⟨2 ^ k, by simp, rfl⟩
theorem pow64 : (2 : Nat) ^ 64 = 18446744073709551616 := by decide

theorem pow_U {k : Nat} (hk : k < 64) : U64 ((2 : Int) ^ k) := by
  have h1 : (2 : Nat) ^ k < 2 ^ 64 := Nat.pow_lt_pow_right (by decide) hk
  rw [pow64] at h1
  obtain ⟨m, e, e'⟩ := two_pow_cast k
  rw [e]
  unfold U64
  omega
theorem tb_pow (k j : Nat) : tb ((2 : Int) ^ k) j = decide (k = j) := by
  have e : (2 : Int) ^ k = ((2 ^ k : Nat) : Int) := by simp
  rw [tb, e, Int.toNat_natCast, Nat.testBit_two_pow]

/-- A word of the bits of which something is so. -/
def bitsUpto (p : Nat → Bool) : Nat → Int
  | 0 => 0
  | n + 1 => bif p n then bitsUpto p n + 2 ^ n else bitsUpto p n

theorem bitsUpto_lt (p : Nat → Bool) : ∀ n, 0 ≤ bitsUpto p n ∧ bitsUpto p n < 2 ^ n
  | 0 => ⟨by simp [bitsUpto], by simp [bitsUpto]⟩
  | n + 1 => by
    have := bitsUpto_lt p n
    have e : (2 : Int) ^ (n + 1) = 2 * 2 ^ n := by rw [Int.pow_succ]; omega
    rw [bitsUpto]
    cases p n <;> simp only [cond_true, cond_false] <;> omega

theorem bitsUpto_U (p : Nat → Bool) {n : Nat} (hn : n ≤ 64) : U64 (bitsUpto p n) := by
  have := bitsUpto_lt p n
  have h1 : (2 : Nat) ^ n ≤ 2 ^ 64 := Nat.pow_le_pow_right (by decide) hn
  rw [pow64] at h1
  obtain ⟨m, e, e'⟩ := two_pow_cast n
  unfold U64
  omega

theorem tb_upto (p : Nat → Bool) : ∀ n k, tb (bitsUpto p n) k = (decide (k < n) && p k)
  | 0, k => by simp [bitsUpto, tb_zero]
  | n + 1, k => by
    have hl := bitsUpto_lt p n
    have ih := tb_upto p n k
    obtain ⟨m, e, e'⟩ := two_pow_cast n
    have hlt : (bitsUpto p n).toNat < 2 ^ n := by omega
    rw [bitsUpto]
    cases hp : p n with
    | false =>
      simp only [cond_false]
      rw [ih]
      rcases Nat.lt_trichotomy k n with h | h | h
      · simp [h, Nat.lt_succ_of_lt h]
      · subst h; simp [hp]
      · simp [show ¬ k < n by omega, show ¬ k < n + 1 by omega]
    | true =>
      simp only [cond_true]
      have et : (bitsUpto p n + 2 ^ n).toNat = 2 ^ n + (bitsUpto p n).toNat := by omega
      unfold tb at ih ⊢
      rw [et]
      rcases Nat.lt_trichotomy k n with h | h | h
      · rw [Nat.testBit_two_pow_add_gt h, ih]
        simp [h, Nat.lt_succ_of_lt h]
      · subst h
        rw [Nat.testBit_two_pow_add_eq, Nat.testBit_lt_two_pow hlt]
        simp [hp]
      · have : 2 ^ n + (bitsUpto p n).toNat < 2 ^ k := by
          have : (2 : Nat) ^ (n + 1) ≤ 2 ^ k := Nat.pow_le_pow_right (by decide) h
          rw [Nat.pow_succ] at this
          omega
        rw [Nat.testBit_lt_two_pow this]
        simp [show ¬ k < n + 1 by omega]

/-- A word is the bits that it has. -/
theorem eq_upto {x : Int} (hx : U64 x) : x = bitsUpto (tb x) 64 := tb_ext hx (bitsUpto_U _ (Nat.le_refl _)) fun k hk => by rw [tb_upto]; simp [hk]

/-- The numbers of the elements of which something is so. -/
def idxL {α : Type} (f : Nat → α → Bool) : List α → Nat → List Int
  | [], _ => []
  | x :: r, i => bif f i x then (i : Int) :: idxL f r (i + 1) else idxL f r (i + 1)

/-- Is something so of the element that has number k, where the list begins at number i? -/
def hasB {α : Type} (f : Nat → α → Bool) (l : List α) (i k : Nat) : Bool := decide (i ≤ k) && (match l[k - i]? with | some x => f k x | none => false)

theorem hasB_nil {α : Type} (f : Nat → α → Bool) (i k : Nat) : hasB f [] i k = false := by simp [hasB]
theorem hasB_cons {α : Type} (f : Nat → α → Bool) (x : α) (r : List α) (i k : Nat) : hasB f (x :: r) i k = ((decide (k = i) && f i x) || hasB f r (i + 1) k) := by
  unfold hasB
  rcases Nat.lt_trichotomy k i with h | h | h
  · simp [show ¬ i ≤ k by omega, show ¬ i + 1 ≤ k by omega, show ¬ k = i by omega]
  · subst h; simp [show ¬ k + 1 ≤ k by omega]
  · have e : k - i = (k - (i + 1)) + 1 := by omega
    simp [show i ≤ k by omega, show i + 1 ≤ k by omega, show ¬ k = i by omega, e]
theorem hasB_zero {α : Type} (f : Nat → α → Bool) (d : α) (l : List α) (k : Nat) : hasB f l 0 k = (decide (k < l.length) && f k (l.getD k d)) := by
  unfold hasB
  rcases Nat.lt_or_ge k l.length with h | h
  · simp [h, List.getD]
  · simp [Nat.not_lt.2 h, List.getElem?_eq_none h]

theorem idx_loop {α : Type} (f : Nat → α → Bool) (G : List α → List Int → Nat → List Int) (h0 : ∀ out i, G [] out i = out) (h1 : ∀ x r out i, G (x :: r) out i = bif f i x then G r (out ++ [(i : Int)]) (i + 1) else G r out (i + 1)) : ∀ (l : List α) (out : List Int) (i : Nat), G l out i = out ++ idxL f l i
  | [], out, i => by rw [h0, idxL, List.append_nil]
  | x :: r, out, i => by
    rw [h1, idxL]
    cases f i x with
    | true => simp only [cond_true]; rw [idx_loop f G h0 h1 r]; simp
    | false => simp only [cond_false]; exact idx_loop f G h0 h1 r out (i + 1)

end Go.Fw
namespace Go.Fw
set_option linter.unusedSimpArgs false
set_option linter.unusedVariables false
open Go.RowKit Go.ChangeShapes Go.WideShapes Go.Deep

/-- THE LAW's STEP. -/
theorem law_lifted_laid {C : Checked} {os : Os} {f : FuncId} {fn : Func} {s : ChangeSpec} {laid0 : List (String × DataW Unit)} {conds : List PathCond} {apart fresh handsOn again : Bool} {H : Type} {enc : TypeId × Value → H} {Q : List AVal → Prop} {tb : TypeId}
    (own : ownKnob C.prog.godebug = none) (started : os.Started) (noInit : C.prog.inits.idxOf? f = none) (hfn : C.prog.funcs[f]? = some fn)
    (witness : ∃ (w : World) (tape : Tape) (i : Input), w.os = os ∧ (w.forCall tape i).Shaped C.prog ∧ i.vars = [] ∧ Input.okWide C.prog (w.forCall tape i) .any w.heap.size f i ∧
      ((s.pre enc C.prog fn conds apart (w.forCall tape i).memory i.args ∧ laidMetH C.prog laid0 (w.forCall tape i).memory) ∧ sizedMet enc C.prog fn (OpenSpec.ofChange s) apart (w.forCall tape i).memory i.args) ∧ ({} : Assume).holds C.prog (lone (Frame.enter C.prog f i.args .normal) [] (w.forCall tape i)))
    (hvars : s.vars = []) (hres : fn.resultTypes = #[tb]) (hbool : C.prog.underlying tb = some .bool) (laid : laidOutB C.prog = true)
    (hts : fn.params.toList.all (fun t => C.prog.readableRec t && decide (t < C.prog.types.size)) = true)
    (hspec : ∀ ds : List (DataW H), ds.length = fn.params.size → s.fn H ds = { results := [.lit (.bool true)], args := ds })
    (hargs : ArgsAs C.prog fn.params.toList Q) (hlaw : ∀ l, Q l → AGives C.prog f l [] (.lit (.bool true))) :
    ReturnsInHanded {} C os f .any (fun w args => (s.pre enc C.prog fn conds apart w args ∧ laidMetH C.prog laid0 w) ∧ sizedMet enc C.prog fn (OpenSpec.ofChange s) apart w args) (s.post enc C.prog fn apart fresh handsOn again) := by
  refine returnsInHanded_of_change_and (X := fun w _ => laidMetH C.prog laid0 w) (fun _ _ _ hh h => h.of_heap hh) own started noInit hfn witness ?_
  intro W base args ds gs before hval hW hcnd _ _ _
  have hW' := hW
  obtain ⟨p, q, hA, hV, hpq, hfz, hnd⟩ := hW
  rw [hvars] at hV
  obtain ⟨rfl, rfl⟩ := trodVars_none hV
  rw [List.append_nil] at hpq
  subst hpq
  obtain ⟨l, hQ, hreps⟩ := hargs.read (base := base) (vs := args.toList) (fun j t v hj hv => hval j t v (by simpa using hj) (by simpa using hv)) hA
  have hc := law_calls (hlaw l hQ) hreps
  rw [show args.toList.toArray = args by simp] at hc
  refine hc.mono fun e W' ⟨he, hb⟩ => ?_
  subst he
  have hlen : ds.length = fn.params.size := by
    have : ∀ {ts : List TypeId} {vs : List Value} {ds : List (DataW H)} {ps : List MemPlace}, DataW.TrodAll enc C.prog W 0 (fun _ => true) true ts vs ds ps → ds.length = ts.length := by
      intro ts
      induction ts with
      | nil => intro vs ds ps h; obtain ⟨rfl, rfl, rfl⟩ := trodAll_nil h; rfl
      | cons t ts ih => intro vs ds ps h; obtain ⟨v, vs', d, ds', p, q, rfl, rfl, rfl, hd, hrest⟩ := trodAll_cons h; simp [ih hrest]
    simpa using this hA
  have hfn2 := hspec ds hlen
  have hold : ∀ p ∈ before, p.block < W.heap.size := fun p hp => by simpa using hW'.lt p hp
  have hR : ∀ (b : Nat) (sp : Nat → Bool) (hd : Bool), DataW.TrodAll enc C.prog W' b sp hd fn.resultTypes.toList ((Value.bool true).resultList fn.resultTypes.size) (s.fn H (ds ++ [])).results [] := by
    intro b sp hd
    rw [List.append_nil, hfn2, hres]
    exact trodAll_cons_mk (shut_bool hbool _) trodAll_mk0
  have hAr : ∀ sp : Nat → Bool, (∀ p ∈ before, sp p.block = true) → DataW.TrodAll enc C.prog W' 0 sp true fn.params.toList args.toList (s.fn H (ds ++ [])).args before := by
    intro sp hsp
    rw [List.append_nil, hfn2]
    exact trodAll_below laid hb hts hA hold hsp
  have hVr : ∀ sp : Nat → Bool, DataW.TrodVars enc C.prog W' sp s.vars (s.fn H (ds ++ [])).vars [] := by
    intro sp
    rw [List.append_nil, hfn2, hvars]
    rfl
  refine ⟨_, rfl, ds, [], before, [], before, [], hW', hR _ _ _, hAr _ (fun p hp => by simpa using hold p hp), hVr _, hb.frame _, fun _ => ⟨ok_one hres rfl (okWide_bool_mk hbool _), _, _, ([] ++ before) ++ [], ⟨[] ++ before, [], trodAll_append (hAr _ (fun _ _ => rfl)) (hR _ _ _), hVr _, rfl, ?_, ?_⟩, ?_⟩⟩
  · intro b off hp
    have hp : MemPlace.cell b off ∈ before := by simpa using hp
    rw [hb.frozen (p := ⟨b, off, none⟩) (hold _ hp)]
    exact hfz b off (by simpa using hp)
  · intro ha
    simpa using hnd ha
  · intro p hp _
    simpa using hp

end Go.Fw
namespace Go.Proofs.YtoionleakeemlaaGreatDoor
set_option linter.unusedSimpArgs false
set_option linter.unusedVariables false
open Go.Fw

set_option maxRecDepth 100000

theorem ty3 : Tryz.prog.underlying 36 = some (.int .u64) := by kernel_rfl
theorem ty2 : Tryz.prog.underlying 9 = some (.string) := by kernel_rfl
theorem ty1 : Tryz.prog.underlying 4 = some (.bool) := by kernel_rfl
theorem ty0 : Tryz.prog.underlying 3 = some (.int .i64) := by kernel_rfl
def Node.wf (x : Node) : Prop := (Lit.int .i64 x.state).wf = true ∧ (Lit.int .i64 x.job).wf = true ∧ (Lit.int .i64 x.epoch).wf = true ∧ True ∧ (Lit.int .i64 x.want).wf = true ∧ (Lit.int .i64 x.since).wf = true ∧ (Lit.int .i64 x.asked).wf = true ∧ True
theorem readNode : ReadAs Tryz.prog 48 Node.cells Node.wf := by
  have h := ReadAs.struct (P := Tryz.prog) (t := 48) rfl (by kernel_rfl) (.cons rfl (ReadAs.int ty0) (.cons rfl (ReadAs.int ty0) (.cons rfl (ReadAs.int ty0) (.cons rfl (ReadAs.bool ty1) (.cons rfl (ReadAs.int ty0) (.cons rfl (ReadAs.int ty0) (.cons rfl (ReadAs.int ty0) .nil)))))))
  exact h.map (fun p => (⟨p.1, p.2.1, p.2.2.1, p.2.2.2.1, p.2.2.2.2.1, p.2.2.2.2.2.1, p.2.2.2.2.2.2.1⟩ : Node)) (fun _ => rfl) (fun _ h => h)
theorem readNodes : ReadAs Tryz.prog 22 (fun l => [nodeL l]) fun l => l.length ≤ maxLen ∧ ∀ a ∈ l, Node.wf a :=
  ReadAs.slice Node.zero rfl (by kernel_rfl) (by decide) readNode (fun _ => rfl)
def Alt.wf (x : Alt) : Prop := (Lit.int .i64 x.nodes).wf = true ∧ (Lit.int .i64 x.wall).wf = true ∧ True
theorem readAlt : ReadAs Tryz.prog 56 Alt.cells Alt.wf := by
  have h := ReadAs.struct (P := Tryz.prog) (t := 56) rfl (by kernel_rfl) (.cons rfl (ReadAs.int ty0) (.cons rfl (ReadAs.int ty0) .nil))
  exact h.map (fun p => (⟨p.1, p.2.1⟩ : Alt)) (fun _ => rfl) (fun _ h => h)
theorem readAlts : ReadAs Tryz.prog 49 (fun l => [altL l]) fun l => l.length ≤ maxLen ∧ ∀ a ∈ l, Alt.wf a :=
  ReadAs.slice Alt.zero rfl (by kernel_rfl) (by decide) readAlt (fun _ => rfl)
def Shape.wf (x : Shape) : Prop := (Lit.int .i64 x.kind).wf = true ∧ (x.alts.length ≤ maxLen ∧ ∀ a ∈ x.alts, Alt.wf a) ∧ (Lit.int .i64 x.min).wf = true ∧ (Lit.int .i64 x.max).wf = true ∧ (Lit.int .i64 x.wall).wf = true ∧ True
theorem readShape : ReadAs Tryz.prog 51 Shape.cells Shape.wf := by
  have h := ReadAs.struct (P := Tryz.prog) (t := 51) rfl (by kernel_rfl) (.cons rfl (ReadAs.int ty0) (.cons rfl (readAlts) (.cons rfl (ReadAs.int ty0) (.cons rfl (ReadAs.int ty0) (.cons rfl (ReadAs.int ty0) .nil)))))
  exact h.map (fun p => (⟨p.1, p.2.1, p.2.2.1, p.2.2.2.1, p.2.2.2.2.1⟩ : Shape)) (fun _ => rfl) (fun _ h => h)
def Dep.wf (x : Dep) : Prop := (Lit.int .i64 x.how).wf = true ∧ (Lit.int .i64 x.job).wf = true ∧ True
theorem readDep : ReadAs Tryz.prog 58 Dep.cells Dep.wf := by
  have h := ReadAs.struct (P := Tryz.prog) (t := 58) rfl (by kernel_rfl) (.cons rfl (ReadAs.int ty0) (.cons rfl (ReadAs.int ty0) .nil))
  exact h.map (fun p => (⟨p.1, p.2.1⟩ : Dep)) (fun _ => rfl) (fun _ h => h)
theorem readDeps : ReadAs Tryz.prog 52 (fun l => [depL l]) fun l => l.length ≤ maxLen ∧ ∀ a ∈ l, Dep.wf a :=
  ReadAs.slice Dep.zero rfl (by kernel_rfl) (by decide) readDep (fun _ => rfl)
def Job.wf (x : Job) : Prop := (Lit.int .i64 x.id).wf = true ∧ x.name.size ≤ maxLen ∧ x.user.size ≤ maxLen ∧ x.account.size ≤ maxLen ∧ Shape.wf x.shape ∧ (Lit.int .i64 x.prio).wf = true ∧ (x.after.length ≤ maxLen ∧ ∀ a ∈ x.after, Dep.wf a) ∧ (Lit.int .i64 x.state).wf = true ∧ True ∧ (Lit.int .i64 x.born).wf = true ∧ (Lit.int .i64 x.promise).wf = true ∧ (Lit.int .i64 x.choice).wf = true ∧ (Lit.int .i64 x.start).wf = true ∧ (Lit.int .i64 x.limit).wf = true ∧ (Lit.int .u64 x.nodes).wf = true ∧ (Lit.int .i64 x.used).wf = true ∧ True
theorem readJob : ReadAs Tryz.prog 54 Job.cells Job.wf := by
  have h := ReadAs.struct (P := Tryz.prog) (t := 54) rfl (by kernel_rfl) (.cons rfl (ReadAs.int ty0) (.cons rfl (ReadAs.string ty2) (.cons rfl (ReadAs.string ty2) (.cons rfl (ReadAs.string ty2) (.cons rfl (readShape) (.cons rfl (ReadAs.int ty0) (.cons rfl (readDeps) (.cons rfl (ReadAs.int ty0) (.cons rfl (ReadAs.bool ty1) (.cons rfl (ReadAs.int ty0) (.cons rfl (ReadAs.int ty0) (.cons rfl (ReadAs.int ty0) (.cons rfl (ReadAs.int ty0) (.cons rfl (ReadAs.int ty0) (.cons rfl (ReadAs.int ty3) (.cons rfl (ReadAs.int ty0) .nil))))))))))))))))
  exact h.map (fun p => (⟨p.1, p.2.1, p.2.2.1, p.2.2.2.1, p.2.2.2.2.1, p.2.2.2.2.2.1, p.2.2.2.2.2.2.1, p.2.2.2.2.2.2.2.1, p.2.2.2.2.2.2.2.2.1, p.2.2.2.2.2.2.2.2.2.1, p.2.2.2.2.2.2.2.2.2.2.1, p.2.2.2.2.2.2.2.2.2.2.2.1, p.2.2.2.2.2.2.2.2.2.2.2.2.1, p.2.2.2.2.2.2.2.2.2.2.2.2.2.1, p.2.2.2.2.2.2.2.2.2.2.2.2.2.2.1, p.2.2.2.2.2.2.2.2.2.2.2.2.2.2.2.1⟩ : Job)) (fun _ => rfl) (fun _ h => h)
theorem readJobs : ReadAs Tryz.prog 23 (fun l => [jobL l]) fun l => l.length ≤ maxLen ∧ ∀ a ∈ l, Job.wf a :=
  ReadAs.slice Job.zero rfl (by kernel_rfl) (by decide) readJob (fun _ => rfl)
def Resize.wf (x : Resize) : Prop := (Lit.int .i64 x.job).wf = true ∧ True ∧ (Lit.int .u64 x.nodes).wf = true ∧ (Lit.int .u64 x.said).wf = true ∧ (Lit.int .i64 x.since).wf = true ∧ True
theorem readResize : ReadAs Tryz.prog 38 Resize.cells Resize.wf := by
  have h := ReadAs.struct (P := Tryz.prog) (t := 38) rfl (by kernel_rfl) (.cons rfl (ReadAs.int ty0) (.cons rfl (ReadAs.bool ty1) (.cons rfl (ReadAs.int ty3) (.cons rfl (ReadAs.int ty3) (.cons rfl (ReadAs.int ty0) .nil)))))
  exact h.map (fun p => (⟨p.1, p.2.1, p.2.2.1, p.2.2.2.1, p.2.2.2.2.1⟩ : Resize)) (fun _ => rfl) (fun _ h => h)
theorem readResizes : ReadAs Tryz.prog 24 (fun l => [resizeL l]) fun l => l.length ≤ maxLen ∧ ∀ a ∈ l, Resize.wf a :=
  ReadAs.slice Resize.zero rfl (by kernel_rfl) (by decide) readResize (fun _ => rfl)
def Book.wf (x : Book) : Prop := (Lit.int .i64 x.id).wf = true ∧ (Lit.int .i64 x.from_).wf = true ∧ (Lit.int .i64 x.to).wf = true ∧ (Lit.int .i64 x.nodes).wf = true ∧ True
theorem readBook : ReadAs Tryz.prog 60 Book.cells Book.wf := by
  have h := ReadAs.struct (P := Tryz.prog) (t := 60) rfl (by kernel_rfl) (.cons rfl (ReadAs.int ty0) (.cons rfl (ReadAs.int ty0) (.cons rfl (ReadAs.int ty0) (.cons rfl (ReadAs.int ty0) .nil))))
  exact h.map (fun p => (⟨p.1, p.2.1, p.2.2.1, p.2.2.2.1⟩ : Book)) (fun _ => rfl) (fun _ h => h)
theorem readBooks : ReadAs Tryz.prog 25 (fun l => [bookL l]) fun l => l.length ≤ maxLen ∧ ∀ a ∈ l, Book.wf a :=
  ReadAs.slice Book.zero rfl (by kernel_rfl) (by decide) readBook (fun _ => rfl)
def Usage.wf (x : Usage) : Prop := x.user.size ≤ maxLen ∧ x.account.size ≤ maxLen ∧ (Lit.int .i64 x.used).wf = true ∧ (Lit.int .i64 x.share).wf = true ∧ True
theorem readUsage : ReadAs Tryz.prog 62 Usage.cells Usage.wf := by
  have h := ReadAs.struct (P := Tryz.prog) (t := 62) rfl (by kernel_rfl) (.cons rfl (ReadAs.string ty2) (.cons rfl (ReadAs.string ty2) (.cons rfl (ReadAs.int ty0) (.cons rfl (ReadAs.int ty0) .nil))))
  exact h.map (fun p => (⟨p.1, p.2.1, p.2.2.1, p.2.2.2.1⟩ : Usage)) (fun _ => rfl) (fun _ h => h)
theorem readUsages : ReadAs Tryz.prog 26 (fun l => [usageL l]) fun l => l.length ≤ maxLen ∧ ∀ a ∈ l, Usage.wf a :=
  ReadAs.slice Usage.zero rfl (by kernel_rfl) (by decide) readUsage (fun _ => rfl)
def State.wf (x : State) : Prop := (Lit.int .i64 x.now).wf = true ∧ (x.nodes.length ≤ maxLen ∧ ∀ a ∈ x.nodes, Node.wf a) ∧ (x.jobs.length ≤ maxLen ∧ ∀ a ∈ x.jobs, Job.wf a) ∧ (x.resizes.length ≤ maxLen ∧ ∀ a ∈ x.resizes, Resize.wf a) ∧ (x.books.length ≤ maxLen ∧ ∀ a ∈ x.books, Book.wf a) ∧ (x.ledger.length ≤ maxLen ∧ ∀ a ∈ x.ledger, Usage.wf a) ∧ (Lit.int .i64 x.nextJob).wf = true ∧ (Lit.int .i64 x.nextBook).wf = true ∧ True
theorem readState : ReadAs Tryz.prog 28 State.cells State.wf := by
  have h := ReadAs.struct (P := Tryz.prog) (t := 28) rfl (by kernel_rfl) (.cons rfl (ReadAs.int ty0) (.cons rfl (readNodes) (.cons rfl (readJobs) (.cons rfl (readResizes) (.cons rfl (readBooks) (.cons rfl (readUsages) (.cons rfl (ReadAs.int ty0) (.cons rfl (ReadAs.int ty0) .nil))))))))
  exact h.map (fun p => (⟨p.1, p.2.1, p.2.2.1, p.2.2.2.1, p.2.2.2.2.1, p.2.2.2.2.2.1, p.2.2.2.2.2.2.1, p.2.2.2.2.2.2.2.1⟩ : State)) (fun _ => rfl) (fun _ h => h)

end Go.Proofs.YtoionleakeemlaaGreatDoor
namespace Go.Proofs.YtoionleakeemlaaGreatDoor
set_option linter.unusedSimpArgs false
set_option linter.unusedVariables false
open Go.Fw

theorem Shape.wf_szM {x : Shape} (h : x.wf) : x.szM := h.2.1.1
theorem Job.wf_szM {x : Job} (h : x.wf) : x.szM := ⟨h.2.1, h.2.2.1, h.2.2.2.1, Shape.wf_szM h.2.2.2.2.1, h.2.2.2.2.2.2.1.1⟩
theorem Usage.wf_szM {x : Usage} (h : x.wf) : x.szM := ⟨h.1, h.2.1⟩
theorem State.wf_szM {x : State} (h : x.wf) : x.szM :=
  ⟨h.2.1.1, h.2.2.1.1, fun y hy => Job.wf_szM (h.2.2.1.2 y hy), h.2.2.2.1.1, h.2.2.2.2.1.1, h.2.2.2.2.2.1.1, fun y hy => Usage.wf_szM (h.2.2.2.2.2.1.2 y hy)⟩

end Go.Proofs.YtoionleakeemlaaGreatDoor
namespace Go.Proofs.YtoionleakeemlaaGreatDoor
set_option linter.unusedSimpArgs false
set_option linter.unusedVariables false

theorem awake25 : law25_awake = true := by kernel_rfl

end Go.Proofs.YtoionleakeemlaaGreatDoor
namespace Go.Proofs.YtoionleakeemlaaGreatDoor
set_option linter.unusedSimpArgs false
set_option linter.unusedVariables false
open Go.Fw

theorem nodeset_one_eq {k : Nat} (h : k < 64) : nodeset_one (k : Int) = (2 : Int) ^ k := by
  unfold nodeset_one
  have e : wu64 (k : Int) = (k : Int) := wu64_id ⟨by omega, by omega⟩
  rw [e, Int.toNat_natCast, Nat.min_eq_left (by omega), Int.one_mul, wu64_id (pow_U h)]

theorem and_one {s : Int} (hs : U64 s) {k : Nat} (hk : k < 64) : ((wu64 (BitVec.ofInt 64 s &&& BitVec.ofInt 64 (nodeset_one (k : Int))).toNat) != 0) = tb s k := by
  have hp : U64 ((2 : Int) ^ k) := pow_U hk
  rw [nodeset_one_eq hk]
  cases hb : tb s k with
  | true =>
    refine (ne_zero_iff (wu64_U _)).2 ⟨k, hk, ?_⟩
    rw [tb_and hs hp, hb, tb_pow]
    simp
  | false =>
    cases hx : ((wu64 (BitVec.ofInt 64 s &&& BitVec.ofInt 64 ((2 : Int) ^ k)).toNat) != 0) with
    | false => rfl
    | true =>
      obtain ⟨j, hj, h⟩ := (ne_zero_iff (wu64_U _)).1 hx
      rw [tb_and hs hp, tb_pow] at h
      simp only [Bool.and_eq_true, decide_eq_true_eq] at h
      rw [← h.2, hb] at h
      cases h.1

theorem nodeset_Has_eq {s : Int} (hs : U64 s) (k : Nat) : nodeset_Has s (k : Int) = (decide (k < 64) && tb s k) := by
  unfold nodeset_Has
  rcases Nat.lt_or_ge k 64 with h | h
  · rw [and_one hs h]
    simp [h]
    omega
  · have : ¬ ((k : Int) < 64) := by omega
    simp [this, Nat.not_lt.2 h]

theorem nodeset_Of_idx {α : Type} (f : Nat → α → Bool) : ∀ (l : List α) (i : Nat) (s : Int) (j : Nat), i + l.length ≤ 64 → U64 s → (∀ k, i ≤ k → tb s k = false) →
    (nodeset_Of_g1 (idxL f l i) s j).2 = 0 ∧ U64 (nodeset_Of_g1 (idxL f l i) s j).1 ∧ ∀ k, tb (nodeset_Of_g1 (idxL f l i) s j).1 k = (tb s k || hasB f l i k)
  | [], i, s, j, _, hs, _ => ⟨rfl, hs, fun k => by rw [hasB_nil, Bool.or_false]; rfl⟩
  | x :: r, i, s, j, hl, hs, hf => by
    simp only [List.length_cons] at hl
    rw [idxL]
    cases hx : f i x with
    | false =>
      simp only [cond_false]
      obtain ⟨a, b, c⟩ := nodeset_Of_idx f r (i + 1) s j (by omega) hs (fun k hk => hf k (by omega))
      exact ⟨a, b, fun k => by rw [c, hasB_cons, hx]; simp⟩
    | true =>
      simp only [cond_true]
      have hi : i < 64 := by omega
      have hg : (((decide ((i : Int) < 0)) || (decide ((i : Int) ≥ 64))) || ((wu64 (BitVec.ofInt 64 s &&& BitVec.ofInt 64 (nodeset_one (i : Int))).toNat) != 0)) = false := by
        rw [and_one hs hi, hf i (Nat.le_refl _)]
        simp
        omega
      rw [nodeset_Of_g1, hg]
      simp only [cond_false]
      have hp : U64 ((2 : Int) ^ i) := pow_U hi
      have ht : ∀ k, tb (wu64 (BitVec.ofInt 64 s ||| BitVec.ofInt 64 (nodeset_one (i : Int))).toNat) k = (tb s k || decide (i = k)) := fun k => by
        rw [nodeset_one_eq hi, tb_or hs hp, tb_pow]
      obtain ⟨a, b, c⟩ := nodeset_Of_idx f r (i + 1) (wu64 (BitVec.ofInt 64 s ||| BitVec.ofInt 64 (nodeset_one (i : Int))).toNat) (j + 1) (by omega) (wu64_U _) (fun k hk => by
        rw [ht, hf k (by omega)]
        simp
        omega)
      refine ⟨a, b, fun k => ?_⟩
      rw [c, ht, hasB_cons, hx, Bool.and_true, Bool.or_assoc]
      congr 2
      simp [eq_comm]

theorem set_where {α : Type} (f : Nat → α → Bool) (d : α) (l : List α) (hl : l.length ≤ 64) : U64 (nodeset_Of (idxL f l 0)).1 ∧ ∀ k, tb (nodeset_Of (idxL f l 0)).1 k = (decide (k < l.length) && f k (l.getD k d)) := by
  obtain ⟨_, b, c⟩ := nodeset_Of_idx f l 0 0 0 (by omega) .zero (fun k _ => tb_zero k)
  exact ⟨b, fun k => (c k).trans (by rw [tb_zero, Bool.false_or, hasB_zero f d])⟩

theorem fleet_where_bits (l : List Node) (is : Node → Bool) (hc : fleet_Check l = 0) (hl : l.length ≤ 64) : U64 (fleet_where l is) ∧ ∀ k, tb (fleet_where l is) k = (decide (k < l.length) && is (l.getD k Node.zero)) := by
  have e : fleet_where l is = (nodeset_Of (idxL (fun _ x => is x) l 0)).1 := by
    unfold fleet_where
    rw [hc]
    show fleet_where_k1 (fleet_where_g1 is l [] 0) = _
    rw [fleet_where_k1, idx_loop (fun _ x => is x) (fleet_where_g1 is) (fun _ _ => rfl) (fun _ _ _ _ => rfl), List.nil_append]
  rw [e]
  exact set_where (fun _ x => is x) Node.zero l hl

theorem nodeset_All_bits {n : Nat} (h : n ≤ 64) : U64 (nodeset_All (n : Int)) ∧ ∀ k, tb (nodeset_All (n : Int)) k = decide (k < n) := by
  have low : ∀ m : Nat, m < 64 → U64 (((2 : Int) ^ m) - 1) ∧ ∀ k, tb (((2 : Int) ^ m) - 1) k = decide (k < m) := by
    intro m hm
    have hu := pow_U hm
    obtain ⟨q, e, e'⟩ := two_pow_cast m
    have hq : 0 < q := by rw [← e']; exact Nat.pow_pos (by decide)
    refine ⟨by unfold U64 at *; omega, fun k => ?_⟩
    have : ((2 : Int) ^ m - 1).toNat = 2 ^ m - 1 := by omega
    rw [tb, this, Nat.testBit_two_pow_sub_one]
  unfold nodeset_All
  rcases Nat.eq_zero_or_pos n with h0 | h0
  · subst h0
    exact ⟨.zero, fun k => by simp [tb_zero]⟩
  · have h1 : decide ((n : Int) ≤ 0) = false := decide_eq_false (by omega)
    rw [h1]
    rcases Nat.lt_or_ge n 64 with h2 | h2
    · have h3 : decide ((n : Int) ≥ 64) = false := decide_eq_false (by omega)
      rw [h3]
      simp only [cond_false]
      rw [nodeset_one_eq h2, wu64_id (low n h2).1]
      exact low n h2
    · have h3 : decide ((n : Int) ≥ 64) = true := decide_eq_true (by omega)
      rw [h3]
      obtain rfl : n = 64 := by omega
      refine ⟨⟨by decide, by decide⟩, fun k => ?_⟩
      show tb 18446744073709551615 k = _
      have : (18446744073709551615 : Int).toNat = 2 ^ 64 - 1 := by decide
      rw [tb, this, Nat.testBit_two_pow_sub_one]

end Go.Proofs.YtoionleakeemlaaGreatDoor
namespace Go.Proofs.YtoionleakeemlaaGreatDoor
set_option linter.unusedSimpArgs false
set_option linter.unusedVariables false
open Go.Fw

theorem or_f {a b : Bool} (h : (a || b) = false) : a = false ∧ b = false := by simpa using h

theorem plan_Check_parts {s : State} (h : plan_Check s = 0) : fleet_Check s.nodes = 0 ∧ table_Check s.jobs = 0 := by
  unfold plan_Check at h
  cases h1 : (room_Check s != 0) with
  | true => rw [h1] at h; cases h
  | false =>
    have hr : room_Check s = 0 := by simpa using h1
    unfold room_Check at hr
    cases h2 : (((((decide (s.now < 0)) || (decide (s.now > 1000000))) || ((fleet_Check s.nodes) != 0)) || ((table_Check s.jobs) != 0)) || ((book_Check s.books) != 0)) with
    | true => rw [h2] at hr; cases hr
    | false =>
      obtain ⟨h3, _⟩ := or_f h2
      obtain ⟨h4, h5⟩ := or_f h3
      obtain ⟨_, h6⟩ := or_f h4
      exact ⟨by simpa using h6, by simpa using h5⟩

theorem check_held (s : State) (a b : Int) (c : List (Int × Job)) : ∀ (l : List Resize) (i : Nat) (c2 : List (Int × Resize)), state_Check_g4 s a b c l i c2 = 0 →
    c.all (fun (en : Int × Job) => (bif ((alloc_Held s.nodes en.1) != en.2.nodes) then false else true)) = true
  | [], i, c2, h => by
    rw [state_Check_g4] at h
    cases h1 : ((((!true) || (!(state_next s.nextJob a))) || (!(state_next s.nextBook b))) || (!(state_nodes s c c2))) with
    | true => rw [h1] at h; cases h
    | false =>
      rw [h1] at h
      simp only [cond_false] at h
      cases h2 : c.all (fun (en : Int × Job) => (bif ((alloc_Held s.nodes en.1) != en.2.nodes) then false else true)) with
      | true => rfl
      | false => rw [h2] at h; cases h
  | x :: r, i, c2, h => by
    rw [state_Check_g4] at h
    cases h1 : (((!(getM x.job c).isSome) || ((decide ((i : Int) > 0)) && (decide ((s.resizes.getD (Int.toNat (w64 ((i : Int) - 1))) Resize.zero).job ≥ x.job)))) || (!(state_resize s x ((getM x.job c).getD Job.zero)))) with
    | true => rw [h1] at h; cases h
    | false =>
      rw [h1] at h
      exact check_held s a b c r (i + 1) _ h

theorem setM_mem {α β : Type} [BEq α] [LawfulBEq α] (k : α) (v : β) : ∀ l : List (α × β), (k, v) ∈ setM k v l
  | [] => by simp [setM]
  | p :: r => by
    rw [setM]
    cases hk : k == p.1 with
    | true => simp
    | false => simp [setM_mem k v r]
theorem setM_keep {α β : Type} [BEq α] [LawfulBEq α] (k k' : α) (v v' : β) (hne : k ≠ k') : ∀ l : List (α × β), (k, v) ∈ l → (k, v) ∈ setM k' v' l
  | [], h => nomatch h
  | p :: r, h => by
    rw [setM]
    cases hk : k' == p.1 with
    | true =>
      have e := eq_of_beq hk
      rcases List.mem_cons.1 h with h | h
      · exact absurd (by rw [e, ← h]) hne
      · exact List.mem_cons_of_mem _ h
    | false =>
      rcases List.mem_cons.1 h with h | h
      · rw [← h]; exact List.mem_cons_self ..
      · exact List.mem_cons_of_mem _ (setM_keep k k' v v' hne r h)

theorem running_mem (x : Job) : ∀ (l : List Job) (i : Nat) (c : List (Int × Job)), ((x.id, x) ∈ c ∧ (∀ y ∈ l, y.id ≠ x.id)) ∨ (x ∈ l ∧ x.state = 2 ∧ l.Pairwise (fun a b => a.id < b.id)) → (x.id, x) ∈ state_Check_g3 l i c
  | [], i, c, h => by
    rcases h with ⟨h, _⟩ | ⟨h, _⟩
    · exact h
    · exact nomatch h
  | y :: r, i, c, h => by
    rw [state_Check_g3]
    rcases h with ⟨h, hn⟩ | ⟨h, hs, hp⟩
    · have hy := hn y (List.mem_cons_self ..)
      cases (y.state == 2) with
      | true => exact running_mem x r (i + 1) _ (.inl ⟨setM_keep _ _ _ _ (Ne.symm hy) c h, fun z hz => hn z (List.mem_cons_of_mem _ hz)⟩)
      | false => exact running_mem x r (i + 1) _ (.inl ⟨h, fun z hz => hn z (List.mem_cons_of_mem _ hz)⟩)
    · obtain ⟨h1, h2⟩ := List.pairwise_cons.1 hp
      rcases List.mem_cons.1 h with rfl | h
      · rw [beq_iff_eq.2 hs]
        exact running_mem x r (i + 1) _ (.inl ⟨setM_mem _ _ c, fun z hz => by have := h1 z hz; omega⟩)
      · cases (y.state == 2) with
        | true => exact running_mem x r (i + 1) _ (.inr ⟨h, hs, h2⟩)
        | false => exact running_mem x r (i + 1) _ (.inr ⟨h, hs, h2⟩)

theorem table_rows (l : List Job) (hn : l.length ≤ 40) : ∀ (r : List Job) (i : Nat), r = l.drop i → i + r.length = l.length → table_Check_g1 l r i = 0 →
    (∀ x ∈ r, job_Check x = 0) ∧ r.Pairwise (fun a b => a.id < b.id) ∧ (∀ y, 0 < i → l[i - 1]? = some y → ∀ x ∈ r, y.id < x.id)
  | [], i, _, _, _ => ⟨fun x hx => (nomatch hx), .nil, fun _ _ _ x hx => (nomatch hx)⟩
  | x :: r, i, hr, hlen, h => by
    simp only [List.length_cons] at hlen
    rw [table_Check_g1] at h
    cases h1 : (((job_Check x) != 0) || ((decide ((i : Int) > 0)) && (decide ((l.getD (Int.toNat (w64 ((i : Int) - 1))) Job.zero).id ≥ x.id)))) with
    | true => rw [h1] at h; cases h
    | false =>
      rw [h1] at h
      obtain ⟨h2, h3⟩ := or_f h1
      have hx : job_Check x = 0 := by simpa using h2
      have hi : l[i]? = some x := by
        have := congrArg (fun q => q[0]?) hr
        simpa [List.getElem?_drop] using this.symm
      have hr' : r = l.drop (i + 1) := by rw [← List.drop_drop, ← hr]; rfl
      obtain ⟨ih1, ih2, ih3⟩ := table_rows l hn r (i + 1) hr' (by omega) h
      have hxr : ∀ z ∈ r, x.id < z.id := ih3 x (by omega) hi
      refine ⟨fun z hz => ?_, List.pairwise_cons.2 ⟨hxr, ih2⟩, fun y hi0 hy z hz => ?_⟩
      · rcases List.mem_cons.1 hz with rfl | hz
        · exact hx
        · exact ih1 z hz
      · have hyx : y.id < x.id := by
          have hw : w64 ((i : Int) - 1) = (i : Int) - 1 := wr (by omega)
          have ht : Int.toNat ((i : Int) - 1) = i - 1 := by omega
          have hg : l.getD (i - 1) Job.zero = y := by simp [List.getD, hy]
          rw [hw, ht, hg] at h3
          simp at h3
          omega
        rcases List.mem_cons.1 hz with rfl | hz
        · exact hyx
        · exact Int.lt_trans hyx (hxr z hz)

theorem job_bounds {j : Job} (h : job_Check j = 0) : 1 ≤ j.id ∧ j.id ≤ 99999 := by
  unfold job_Check at h
  cases h1 : ((((((decide (j.id < 1)) || (decide (j.id > 99999))) || (!(job_tick j.born))) || (j.used != (sat_Usage j.used))) || ((cmd_Check (job_view_submission j)) != 0)) || (slices_ContainsFunc_Dep j.after (fun (y : Dep) => (decide (y.job ≥ j.id))))) with
  | true => rw [h1] at h; cases h
  | false =>
    obtain ⟨h2, _⟩ := or_f h1
    obtain ⟨h3, _⟩ := or_f h2
    obtain ⟨h4, _⟩ := or_f h3
    obtain ⟨h5, _⟩ := or_f h4
    simp at h5
    omega

theorem job_runs {j : Job} (h : job_Check j = 0) (hs : j.state = 2) : shape_Allows j.shape j.choice (nodeset_Count j.nodes) = true := by
  unfold job_Check at h
  cases h1 : ((((((decide (j.id < 1)) || (decide (j.id > 99999))) || (!(job_tick j.born))) || (j.used != (sat_Usage j.used))) || ((cmd_Check (job_view_submission j)) != 0)) || (slices_ContainsFunc_Dep j.after (fun (y : Dep) => (decide (y.job ≥ j.id))))) with
  | true => rw [h1] at h; cases h
  | false =>
    rw [h1, hs] at h
    cases h2 : job_view_running j with
    | false => rw [h2] at h; cases h
    | true =>
      unfold job_view_running at h2
      revert h2
      cases (((((((!(job_view_option j j.choice).2) || j.held) || (!(job_tick j.start))) || (!(job_tick j.promise))) || (decide (j.promise < j.start))) || (!(job_tick j.limit))) || ((w64 (j.limit - j.start)) != (job_view_option j j.choice).1.wall)) with
      | true => intro h2; cases h2
      | false =>
        intro h2
        simp only [cond_false, Bool.and_eq_true] at h2
        exact h2.2

/-- Binary search finds what is there. -/
theorem search_ok (l : List Job) (id : Int) (hn : l.length ≤ 40) (hid : 1 ≤ id ∧ id ≤ 99999) (hb : ∀ y ∈ l, 1 ≤ y.id ∧ y.id ≤ 99999) (hs : ∀ (a b : Nat) (x y : Job), a < b → l[a]? = some x → l[b]? = some y → x.id < y.id) (p : Nat) (x : Job) (hp : l[p]? = some x) (hx : x.id = id) :
    ∀ (m : Nat) (i j : Int), Int.toNat (j - i) < m → 0 ≤ i → i ≤ (p : Int) → (p : Int) ≤ j → j ≤ (l.length : Int) → (∀ k : Nat, j ≤ (k : Int) → ∀ y, l[k]? = some y → id ≤ y.id) →
      (slices_BinarySearchFunc_int_g1 l id (fun (y : Job) (y1 : Int) => (w64 (y.id - y1))) m i j).1 = (p : Int)
  | 0, i, j, hm, _, _, _, _, _ => absurd hm (by omega)
  | m + 1, i, j, hm, h0, h1, h2, h3, h4 => by
    have hpl : p < l.length := (List.getElem?_eq_some_iff.1 hp).1
    rw [slices_BinarySearchFunc_int_g1]
    cases hd : decide (i < j) with
    | false =>
      have := of_decide_eq_false hd
      show i = (p : Int)
      omega
    | true =>
      have hlt := of_decide_eq_true hd
      rw [half_ok h0 hlt h3 (by omega)]
      simp only [cond_true]
      obtain ⟨q, hq⟩ : ∃ q : Nat, (i + j) / 2 = (q : Int) := ⟨((i + j) / 2).toNat, by omega⟩
      rw [hq]
      have hql : q < l.length := by omega
      have hy : l[q]? = some l[q] := List.getElem?_eq_getElem hql
      have hyd : l.getD (Int.toNat (q : Int)) Job.zero = l[q] := by simp [List.getD, hy]
      have hyb := hb l[q] (List.getElem_mem hql)
      rw [hyd]
      have hw : w64 ((l[q]).id - id) = (l[q]).id - id := wr (by omega)
      rw [hw]
      cases hc : decide ((l[q]).id - id < 0) with
      | true =>
        have hc' := of_decide_eq_true hc
        have hw2 : w64 ((q : Int) + 1) = (q : Int) + 1 := wr (by omega)
        simp only [cond_true]
        rw [hw2]
        refine search_ok l id hn hid hb hs p x hp hx m _ _ (by omega) (by omega) ?_ h2 h3 h4
        rcases Nat.lt_or_ge q p with h | h
        · omega
        · rcases Nat.eq_or_lt_of_le h with h | h
          · subst h
            rw [hy] at hp
            cases hp
            omega
          · have := hs p q x _ h hp hy
            omega
      | false =>
        have hc' := of_decide_eq_false hc
        simp only [cond_false]
        refine search_ok l id hn hid hb hs p x hp hx m _ _ (by omega) h0 h1 ?_ (by omega) ?_
        · rcases Nat.lt_or_ge q p with h | h
          · have := hs q p _ x h hy hp
            omega
          · omega
        · intro k hk y hky
          rcases Nat.eq_or_lt_of_le (show q ≤ k by omega) with h | h
          · subst h
            rw [hy] at hky
            cases hky
            omega
          · have := hs q k _ y h hy hky
            omega

theorem pairwise_get {l : List Job} (h : l.Pairwise (fun a b => a.id < b.id)) : ∀ (a b : Nat) (x y : Job), a < b → l[a]? = some x → l[b]? = some y → x.id < y.id := by
  intro a b x y hab ha hb
  obtain ⟨ha1, rfl⟩ := List.getElem?_eq_some_iff.1 ha
  obtain ⟨hb1, rfl⟩ := List.getElem?_eq_some_iff.1 hb
  exact List.pairwise_iff_getElem.1 h a b ha1 hb1 hab

theorem table_parts {l : List Job} (h : table_Check l = 0) : l.length ≤ 40 ∧ (∀ x ∈ l, job_Check x = 0) ∧ l.Pairwise (fun a b => a.id < b.id) := by
  unfold table_Check at h
  cases h1 : (decide ((l.length : Int) > 40)) with
  | true => rw [h1] at h; cases h
  | false =>
    rw [h1] at h
    have h2 := of_decide_eq_false h1
    obtain ⟨a, b, _⟩ := table_rows l (by omega) l 0 (by simp) (by omega) h
    exact ⟨by omega, a, b⟩

theorem table_Find_ok {l : List Job} (h : table_Check l = 0) {p : Nat} {x : Job} (hp : l[p]? = some x) : table_Find l x.id = (x, true) := by
  obtain ⟨hn, hj, hs⟩ := table_parts h
  have hb : ∀ y ∈ l, 1 ≤ y.id ∧ y.id ≤ 99999 := fun y hy => job_bounds (hj y hy)
  have hx := hb x (List.mem_of_getElem? hp)
  have hpl : p < l.length := (List.getElem?_eq_some_iff.1 hp).1
  have hpi : (table_place l x.id).1 = (p : Int) :=
    search_ok l x.id hn hx hb (pairwise_get hs) p x hp rfl _ 0 (l.length : Int) (by omega) (by omega) (by omega) (by omega) (by omega) (fun k hk y hy => absurd (List.getElem?_eq_some_iff.1 hy).1 (by omega))
  have hp2 : (table_place l x.id).2 = true := by
    have e : (table_place l x.id).2 = ((decide ((table_place l x.id).1 < (l.length : Int))) && ((w64 ((l.getD (Int.toNat (table_place l x.id).1) Job.zero).id - x.id)) == 0)) := rfl
    rw [e, hpi, Int.toNat_natCast]
    have hg : l.getD p Job.zero = x := by simp [List.getD, hp]
    rw [hg, Int.sub_self]
    have h1 : decide ((p : Int) < (l.length : Int)) = true := decide_eq_true (by omega)
    rw [h1]
    rfl
  unfold table_Find
  rw [h, hp2, hpi]
  have hk : table_known x.id = true := by unfold table_known; simp; omega
  rw [hk]
  have hw : w64 ((p : Int) + 1) = (p : Int) + 1 := wr (by omega)
  have ht : Int.toNat ((p : Int) + 1) = p + 1 := by omega
  rw [hw, ht, Int.toNat_natCast]
  show ((List.drop p (List.take (p + 1) l)).getD 0 Job.zero, true) = (x, true)
  have : (List.drop p (List.take (p + 1) l)).getD 0 Job.zero = x := by
    simp [List.getD, List.getElem?_drop, List.getElem?_take, hp]
  rw [this]

section
variable {s : State}

theorem check_parts (h : state_Check s = 0) : plan_Check s = 0 ∧ ∀ x ∈ s.jobs, x.state = 2 → alloc_Held s.nodes x.id = x.nodes := by
  have h0 := h
  unfold state_Check at h
  cases h1 : (plan_Check s != 0) with
  | true => rw [h1] at h; cases h
  | false =>
    rw [h1] at h
    have hp : plan_Check s = 0 := by simpa using h1
    refine ⟨hp, fun x hx hs => ?_⟩
    obtain ⟨_, _, ho⟩ := table_parts (plan_Check_parts hp).2
    have hall := check_held s _ _ _ _ _ _ h
    have hm := running_mem x s.jobs 0 [] (.inr ⟨hx, hs, ho⟩)
    have := List.all_eq_true.1 hall _ hm
    simp only at this
    cases hq : (alloc_Held s.nodes x.id != x.nodes) with
    | false => simpa using hq
    | true => rw [hq] at this; cases this

theorem config_ok (h : state_Check s = 0) {x : Job} (hx : x ∈ s.jobs) : state_Config s x.id = bif x.state == 2 then x.nodes else 0 := by
  obtain ⟨hp, _⟩ := check_parts h
  obtain ⟨p, hpx⟩ := List.getElem?_of_mem hx
  unfold state_Config
  rw [table_Find_ok (plan_Check_parts hp).2 hpx, h]
  cases hs : x.state == 2 with
  | true =>
    have : x.state = 2 := by simpa using hs
    rw [this]
    rfl
  | false =>
    have : (x.state != 2) = true := by simpa using hs
    rw [this]
    rfl

theorem held_bits (h : state_Check s = 0) {x : Job} (hx : x ∈ s.jobs) (hr : x.state = 2) (hl : s.nodes.length ≤ 64) :
    U64 x.nodes ∧ ∀ k, tb x.nodes k = (decide (k < s.nodes.length) && (((s.nodes.getD k Node.zero).job == x.id) && ((s.nodes.getD k Node.zero).state == 1))) := by
  obtain ⟨hp, hh⟩ := check_parts h
  obtain ⟨hf, ht⟩ := plan_Check_parts hp
  have hb := job_bounds ((table_parts ht).2.1 x hx)
  have e := hh x hx hr
  unfold alloc_Held at e
  rw [decide_eq_false (show ¬ x.id < 1 by omega)] at e
  simp only [cond_false, fleet_Of] at e
  rw [← e]
  exact fleet_where_bits s.nodes _ hf hl

theorem apart_loop (h : state_Check s = 0) (hl : s.nodes.length ≤ 64) : ∀ (r : List Job) (all_ : Int) (i : Nat), r = s.jobs.drop i → U64 all_ →
    (∀ k, tb all_ k = true → k < s.nodes.length ∧ (s.nodes.getD k Node.zero).state = 1 ∧ ∀ x ∈ r, (s.nodes.getD k Node.zero).job ≠ x.id) → law25_StateApart_g1 s r all_ i = true
  | [], all_, i, _, hu, hi => by
    obtain ⟨hp, _⟩ := check_parts h
    obtain ⟨hf, _⟩ := plan_Check_parts hp
    obtain ⟨fu, fb⟩ := fleet_where_bits s.nodes (fun (y : Node) => ((y.state == 0) && (!y.drain))) hf hl
    rw [law25_StateApart_g1, awake25, Bool.and_true]
    refine (eq_zero_iff (wu64_U _)).2 fun k _ => ?_
    show tb (wu64 (BitVec.ofInt 64 all_ &&& BitVec.ofInt 64 (fleet_where s.nodes (fun (y : Node) => ((y.state == 0) && (!y.drain))))).toNat) k = false
    rw [tb_and hu fu, fb]
    cases hb : tb all_ k with
    | false => rfl
    | true =>
      obtain ⟨_, h2, _⟩ := hi k hb
      rw [h2]
      simp
  | x :: r, all_, i, hr, hu, hi => by
    obtain ⟨hp, _⟩ := check_parts h
    obtain ⟨hf, ht⟩ := plan_Check_parts hp
    obtain ⟨_, hj, ho⟩ := table_parts ht
    have hx : x ∈ s.jobs := List.mem_of_mem_drop (i := i) (by rw [← hr]; exact List.mem_cons_self ..)
    have hr' : r = s.jobs.drop (i + 1) := by rw [← List.drop_drop, ← hr]; rfl
    have hpr : (x :: r).Pairwise (fun a b : Job => a.id < b.id) := by rw [hr]; exact ho.drop
    have hxr : ∀ z ∈ r, x.id < z.id := (List.pairwise_cons.1 hpr).1
    obtain ⟨au, ab⟩ := nodeset_All_bits hl
    rw [law25_StateApart_g1, config_ok h hx]
    cases hs : x.state == 2 with
    | false =>
      simp only [cond_false, Bool.false_and, Bool.or_false]
      have z1 : ((wu64 (BitVec.ofInt 64 0 &&& BitVec.ofInt 64 all_).toNat) != 0) = false := by
        have := (eq_zero_iff (wu64_U ((BitVec.ofInt 64 0 &&& BitVec.ofInt 64 all_).toNat : Int))).2 fun k _ => by rw [tb_and .zero hu, tb_zero]; rfl
        simpa using this
      have z2 : ((wu64 (BitVec.ofInt 64 0 &&& ~~~(BitVec.ofInt 64 (nodeset_All (s.nodes.length : Int)))).toNat) != 0) = false := by
        have := (eq_zero_iff (wu64_U ((BitVec.ofInt 64 0 &&& ~~~(BitVec.ofInt 64 (nodeset_All (s.nodes.length : Int)))).toNat : Int))).2 fun k _ => by rw [tb_andnot .zero au, tb_zero]; rfl
        simpa using this
      rw [z1, z2]
      refine apart_loop h hl r _ (i + 1) hr' (wu64_U _) fun k hk => ?_
      rw [tb_or hu .zero, tb_zero, Bool.or_false] at hk
      obtain ⟨a, b, c⟩ := hi k hk
      exact ⟨a, b, fun z hz => c z (List.mem_cons_of_mem _ hz)⟩
    | true =>
      have hs' : x.state = 2 := by simpa using hs
      obtain ⟨xu, xb⟩ := held_bits h hx hs' hl
      have hal := job_runs (hj x hx) hs'
      simp only [cond_true, Bool.true_and]
      have z1 : ((wu64 (BitVec.ofInt 64 x.nodes &&& BitVec.ofInt 64 all_).toNat) != 0) = false := by
        have := (eq_zero_iff (wu64_U ((BitVec.ofInt 64 x.nodes &&& BitVec.ofInt 64 all_).toNat : Int))).2 fun k _ => by
          rw [tb_and xu hu, xb]
          cases hb : tb all_ k with
          | false => simp
          | true =>
            have := (hi k hb).2.2 x (List.mem_cons_self ..)
            have e : ((s.nodes.getD k Node.zero).job == x.id) = false := by simpa using this
            rw [e]
            simp
        simpa using this
      have z2 : ((wu64 (BitVec.ofInt 64 x.nodes &&& ~~~(BitVec.ofInt 64 (nodeset_All (s.nodes.length : Int)))).toNat) != 0) = false := by
        have := (eq_zero_iff (wu64_U ((BitVec.ofInt 64 x.nodes &&& ~~~(BitVec.ofInt 64 (nodeset_All (s.nodes.length : Int)))).toNat : Int))).2 fun k _ => by
          rw [tb_andnot xu au, xb, ab]
          cases decide (k < s.nodes.length) <;> simp
        simpa using this
      rw [z1, z2, hal]
      refine apart_loop h hl r _ (i + 1) hr' (wu64_U _) fun k hk => ?_
      rw [tb_or hu xu, Bool.or_eq_true] at hk
      rcases hk with hk | hk
      · obtain ⟨a, b, c⟩ := hi k hk
        exact ⟨a, b, fun z hz => c z (List.mem_cons_of_mem _ hz)⟩
      · rw [xb] at hk
        simp only [Bool.and_eq_true, decide_eq_true_eq, beq_iff_eq] at hk
        exact ⟨hk.1, hk.2.2, fun z hz => by have := hxr z hz; omega⟩

end

theorem stateApart_true (s : State) : law25_StateApart s = true := by
  unfold law25_StateApart
  cases hc : ((!(law20_Few s)) || ((state_Check s) != 0)) with
  | true => exact awake25
  | false =>
    have h : state_Check s = 0 := by simpa using (or_f hc).2
    have hf := (plan_Check_parts (check_parts h).1).1
    have hl : s.nodes.length ≤ 48 := by
      unfold fleet_Check at hf
      cases h1 : (((decide ((s.nodes.length : Int) < 1)) || (decide ((s.nodes.length : Int) > 48))) || (slices_ContainsFunc_Node s.nodes (fun (y : Node) => (!(fleet_fine y))))) with
      | true => rw [h1] at hf; cases hf
      | false =>
        have := (or_f (or_f h1).1).2
        simp at this
        omega
    exact apart_loop h (by omega) s.jobs 0 0 (by simp) .zero fun k hk => by rw [tb_zero] at hk; cases hk

end Go.Proofs.YtoionleakeemlaaGreatDoor
namespace Go.Proofs.YtoionleakeemlaaGreatDoor
set_option linter.unusedSimpArgs false
set_option linter.unusedVariables false
open Go.Fw Go.RowKit Go.ChangeShapes Go.WideShapes

theorem lawOwn : ownKnob Tryz.prog.godebug = none := by kernel_rfl
theorem lawLaid : laidOutB Tryz.prog = true := by kernel_rfl
theorem lawBool : Tryz.prog.underlying 4 = some .bool := by kernel_rfl

set_option maxRecDepth 100000 in
theorem lawDoor (os : Os) (args : Array Value) : laidMetH Tryz.prog Rows.stateApartRow.laid ((World.doorLaid Tryz.prog 400 os).forCall (fun _ _ => 0) ⟨#[], args, []⟩).memory :=
  laidMetH_of_parts3 (fuel := 8) (laidMet_of_run' 8 (by kernel_rfl) (by kernel_rfl)) (by kernel_rfl) (by kernel_rfl)

set_option maxRecDepth 100000 in
theorem stateApart_lifted (law : ∀ (a0 : State), State.wf a0 → AGives Tryz.prog 6 [State.a a0] [] (.lit (.bool true))) (os : Os) (started : os.Started) (H : Type) (enc : TypeId × Value → H) :
    ReturnsInHanded {} Tryz.checked os 6 .any (fun w args => (Rows.stateApartSpec.pre enc Tryz.prog Tryz.f6 [] false w args ∧ laidMetH Tryz.prog Rows.stateApartRow.laid w) ∧ sizedMet enc Tryz.prog Tryz.f6 (OpenSpec.ofChange Rows.stateApartSpec) false w args)
      (Rows.stateApartSpec.post enc Tryz.prog Tryz.f6 false true false false) := by
  refine law_lifted_laid (C := Tryz.checked) (tb := 4) lawOwn started (by kernel_rfl) Tryz.func6
    (ChangeSpec.witness_shaped (enc := enc) (C := Tryz.checked) (os := os) (X := fun w _ => laidMetH Tryz.prog Rows.stateApartRow.laid w) false (World.doorLaid Tryz.prog 400 os) #[.agg #[.int .i64 0, .slice none 0 0, .slice none 0 0, .slice none 0 0, .slice none 0 0, .slice none 0 0, .int .i64 0, .int .i64 0]] 8 rfl (World.shaped_of_RefB (by kernel_rfl) (by kernel_rfl)) (by kernel_rfl) (by kernel_rfl) (by kernel_rfl) (lawDoor os _)) rfl (by kernel_rfl) lawBool lawLaid (by kernel_rfl) ?_
    (.cons _ _ _ _ _ (ArgAs.struct rfl readState) .nil) ?_
  · intro ds hd
    match ds, hd with
    | [_], _ => rfl
  · rintro l ⟨a0, m0, g0, rfl, rfl⟩
    exact law a0 g0

theorem stateApart_holds0 (law : ∀ (a0 : State), State.wf a0 → AGives Tryz.prog 6 [State.a a0] [] (.lit (.bool true))) : Rows.StateApartSaid :=
  OpenClaim.holds_of_wide 6 Tryz.f6 rfl rfl rfl rfl rfl rfl rfl ⟨rfl, rfl, rfl, rfl, rfl⟩ rfl rfl rfl rfl rfl (by kernel_rfl) Tryz.func6 (by kernel_rfl)
    (of_decide_eq_true (by kernel_rfl)) (by unfold Func.isWrapper; first | (rw [if_pos (by decide +kernel)]; kernel_rfl) | (rw [if_neg (by decide +kernel)]; exact ⟨rfl, rfl⟩))
    (fun os started H enc _ => stateApart_lifted law os started H enc)

theorem stateApart_card0 (law : ∀ (a0 : State), State.wf a0 → AGives Tryz.prog 6 [State.a a0] [] (.lit (.bool true))) : Rows.StateApartCardSaid :=
  Claim7.holds_tied_plain_at .later [] [.data, .data, .data, .sentinel, .sentinel] true (true, "912960aecad79bc6638f11a3a8ee6bfcf760c9d76e3e2340151ccd96f30b319f") true
    (stateApart_holds0 law) (fun _ h => by cases h) (by kernel_rfl) (fun _ h => by cases h) stateApart_row_tie rfl ⟨rfl, rfl⟩ (by kernel_rfl) rfl
    (fun f fn hf hfn => by
      obtain rfl : f = 6 := Option.some.inj ((show Tryz.prog.funcNamed "muster/musterlaw25.StateApart" = some 6 by kernel_rfl).symm.trans hf) |>.symm
      obtain rfl : fn = Tryz.f6 := (Option.some.inj (Tryz.func6.symm.trans hfn)).symm
      exact ⟨by kernel_rfl, fun j t ht => by
        rcases j with _ | j
        · obtain rfl : t = 28 := (Option.some.inj ((show Tryz.f6.params[0]? = some 28 by kernel_rfl).symm.trans ht)).symm
          exact (show Tryz.prog.wantsStandIn 28 = false by kernel_rfl)
        · exact absurd ht (by rw [show Tryz.f6.params[j + 1]? = none from Array.getElem?_eq_none (by show Tryz.f6.params.size ≤ j + 1; rw [show Tryz.f6.params.size = 1 by kernel_rfl]; omega)]; exact fun h => nomatch h)⟩)
    (by kernel_rfl)
#print axioms stateApart_card0
end Go.Proofs.YtoionleakeemlaaGreatDoor
namespace Go.Proofs.YtoionleakeemlaaGreatDoor
set_option linter.unusedSimpArgs false
set_option linter.unusedVariables false
open Go.Fw

theorem stateApart_gives (a : State) (ha : a.wf) : AGives Tryz.prog 6 [State.a a] [] (.lit (.bool true)) := by
  have h := law25_StateApart_c a (State.wf_szM ha) []
  rw [stateApart_true] at h
  exact h

theorem stateApart_card : Rows.StateApartCardSaid := stateApart_card0 stateApart_gives
#print axioms stateApart_card
end Go.Proofs.YtoionleakeemlaaGreatDoor
