/-
  The evaluator of this claim, part 7: what it reckons is so of the program. No condition.
-/
import Derived.Test.YtalhamokkblnjaaGreatDoorQ6
import Derived.Test.YtalhamokkblnjaaGreatDoorProg
import Derived.Laws.RangeString
import Derived.Laws.RangeAny
import Derived.Lib.Strings
import Derived.Lib.Slices
import Derived.Lib.Walk
import Derived.Lib.Bytealg
import Derived.Shelf.Strings.BuilderX
import Derived.Shelf.RegionOpenPlain
import Derived.Lib.Builder
import Derived.Lib.AppendStr
import Derived.Lib.UnsafeStr
import Derived.Lib.MakeNoZero
import Derived.WalkKit
import Derived.Laws.Externs
import Derived.Laws.IdiomCopy
import Derived.Laws.BitsLemmas
import Derived.KernelRfl

namespace Go.Fw
set_option linter.unusedSimpArgs false
set_option linter.unusedVariables false
open Go.RowKit

/-- A block of an object that is handed over. -/
def selB (K : Ctx) (objs : Objs) (ks : List Nat) (b : Nat) : Prop := ∃ o p, o ∈ ks ∧ objs[o]? = some p ∧ K.C o p.1 ≠ 0 ∧ b = K.ρ o p.1

open Classical in
/-- The callee's context: the objects of ks, each as of now; all else is as it is. -/
noncomputable def Ctx.sel (K : Ctx) (w : World) (objs : Objs) (ks : List Nat) : Ctx :=
  { K with
    n := ks.length
    ρ := fun i _ => K.ρ (ks.getD i 0) (K.vs (ks.getD i 0))
    C := fun i _ => K.C (ks.getD i 0) (K.vs (ks.getD i 0))
    vs := fun _ => 0
    B := fun b => if selB K objs ks b then none else w.heap[b]?
    w0 := w }

/-- The caller's context behind the call. -/
def Ctx.back (K K2 : Ctx) (n0 c : Nat) : Ctx :=
  { M := K2.M
    ρ := fun o v => if o < K.n then K.ρ o v else K2.ρ (n0 + (o - K.n)) 0
    C := fun o v => if o < K.n then K.C o v else K2.C (n0 + (o - K.n)) 0
    n := K.n + c
    vs := fun o => if o < K.n then K.vs o else 0
    B := K.B
    w0 := K.w0 }

/-- The caller's x may be told as y in the callee's numbers. -/
def Dn (m : List (Nat × Nat)) (y x : AVal) : Prop := ∀ {K L : Ctx}, Agree m K L → (∀ b i u, L.M b i = some u → K.M b i = some u) → ∀ {v : Value}, Rep L x v → Rep K y v

inductive DnL (m : List (Nat × Nat)) : List AVal → List AVal → Prop where
  | nil : DnL m [] []
  | cons (y x : AVal) (ys xs : List AVal) (h : Dn m y x) (t : DnL m ys xs) : DnL m (y :: ys) (x :: xs)

theorem DnL.length {m : List (Nat × Nat)} {ys xs : List AVal} (h : DnL m ys xs) : ys.length = xs.length := by
  induction h with
  | nil => rfl
  | cons _ _ _ _ _ _ ih => simp [ih]

theorem DnL.get {m : List (Nat × Nat)} {ys xs : List AVal} (h : DnL m ys xs) : ∀ (i : Nat) (y x : AVal), ys[i]? = some y → xs[i]? = some x → Dn m y x := by
  induction h with
  | nil => intro i y x h; simp at h
  | cons y x ys xs h _ ih =>
    intro i y' x' hy hx
    cases i with
    | zero => simp at hy hx; subst hy hx; exact h
    | succ i => simp at hy hx; exact ih i y' x' hy hx

theorem dn_low {m : List (Nat × Nat)} {x : AVal} (h : Low 0 x) : Dn m x x := fun _ hM _ hr => Rep.low0 hM hr h
theorem dn_ren {m : List (Nat × Nat)} {y x : AVal} (h : Ren m y x) : Dn m y x := fun hA hM _ hr => h.down hA hM hr
theorem dn_as {m : List (Nat × Nat)} {y x : AVal} (h : AsA x y) (hl : Low 0 y) : Dn m y x := fun _ hM _ hr => Rep.low0 hM (h _ _ hr) hl
theorem dn_ptr {m : List (Nat × Nat)} {i o v k a b : Nat} (h : m[i]? = some (o, v)) : Dn m (.ptr i 0 k a b) (.ptr o v k a b) := dn_ren (.ptr _ _ _ _ _ _ h)
theorem dn_own {m : List (Nat × Nat)} {i o v k a b : Nat} (h : m[i]? = some (o, v)) : Dn m (.own i 0 k a b) (.own o v k a b) := dn_ren (.own _ _ _ _ _ _ h)
theorem dn_ownl {m : List (Nat × Nat)} {i o v k a b b' : Nat} (h : m[i]? = some (o, v)) (e : b' = b) : Dn m (.own i 0 k a b) (.own o v k a b') := by subst e; exact dn_own h
theorem dn_nil {m : List (Nat × Nat)} {i k : Nat} {q : Nat × Nat} (h : m[i]? = some q) : Dn m (.own i 0 k 0 0) (.lit (.slice none 0 0)) := by
  intro K L hA _ v hr
  have := rep_lit hr
  subst this
  exact .ownNil _ _ _ (hA.lt i q.1 q.2 h) (Nat.zero_le _)
theorem dn_agg {m : List (Nat × Nat)} {ys xs : List AVal} (h : DnL m ys xs) : Dn m (.agg ys) (.agg xs) := by
  intro K L hA hM v hr
  obtain ⟨vs, rfl, hx, h1⟩ := rep_agg hr
  refine .agg ys vs (by rw [hx.1, h.length]) h1 fun i y v hy hv => ?_
  have hi : i < xs.length := by have := (List.getElem?_eq_some_iff.1 hy).1; have := h.length; omega
  exact h.get i y _ hy (List.getElem?_eq_getElem hi) hA hM (hx.2 i _ v (List.getElem?_eq_getElem hi) hv)
theorem dn_fn {m : List (Nat × Nat)} {f : Fn} {ys xs ys' xs' : List AVal} (h : DnL m ys xs) (h' : DnL m ys' xs') : Dn m (.fn f ys ys') (.fn f xs xs') := by
  intro K L hA hM v hr
  obtain ⟨vs, us, rfl, hx, hy⟩ := rep_fn hr
  refine .fn f ys ys' vs us (by rw [hx.1, h.length]) (by rw [hy.1, h'.length]) (fun i y v hyy hv => ?_) (fun i y v hyy hv => ?_)
  · have hi : i < xs.length := by have := (List.getElem?_eq_some_iff.1 hyy).1; have := h.length; omega
    exact h.get i y _ hyy (List.getElem?_eq_getElem hi) hA hM (hx.2 i _ v (List.getElem?_eq_getElem hi) hv)
  · have hi : i < xs'.length := by have := (List.getElem?_eq_some_iff.1 hyy).1; have := h'.length; omega
    exact h'.get i y _ hyy (List.getElem?_eq_getElem hi) hA hM (hy.2 i _ v (List.getElem?_eq_getElem hi) hv)

/-- An object that is handed over. -/
inductive DnO (m : List (Nat × Nat)) : AObj → AObj → Prop where
  | same (x : AObj) (h : LowObj 0 x) : DnO m x x
  | row1 (t : TypeId) (k : Nat) (ys xs : List AVal) (h : DnL m ys xs) : DnO m (.row t k [ys]) (.row t k [xs])

theorem dn_row {m : List (Nat × Nat)} {t : TypeId} {k : Nat} {es es' : List (List AVal)} (e : es' = es) (h : ∀ q ∈ es, LowL 0 q) : DnO m (.row t k es) (.row t k es') := by subst e; exact .same _ h

theorem DnO.down {m : List (Nat × Nat)} {K L : Ctx} {w : World} (hA : Agree m K L) (hM : ∀ b i u, L.M b i = some u → K.M b i = some u) {Y X : AObj} {i o v : Nat} (hρ : K.ρ i 0 = L.ρ o v) (hC : K.C i 0 = L.C o v) (h : DnO m Y X) (hs : ObjSat L w o v X) : ObjSat K w i 0 Y := by
  cases h with
  | same x hl => exact RenO.down hA hM hρ hC (.same _ hl) hs
  | row1 t k ys xs h =>
    obtain ⟨h1, h2, h3⟩ := hs
    refine ⟨fun e he => by rw [List.mem_singleton.1 he, h.length]; exact h1 xs (by simp), by rw [hC]; exact h2, fun hc => ?_⟩
    rw [hC] at hc
    obtain ⟨c, q1, q2, q3, q4⟩ := h3 hc
    refine ⟨c, by rw [hρ]; exact q1, by rw [hC]; exact q2, q3, fun i' j e x he hx => ?_⟩
    cases i' with
    | succ i' => simp at he
    | zero =>
      simp at he
      subst he
      have hj : j < xs.length := by have := (List.getElem?_eq_some_iff.1 hx).1; have := h.length; omega
      obtain ⟨u, hu, hr⟩ := q4 0 j xs _ rfl (List.getElem?_eq_getElem hj)
      exact ⟨u, hu, h.get j x _ hx (List.getElem?_eq_getElem hj) hA hM hr⟩

inductive DnOs (m : List (Nat × Nat)) : Objs → List AObj → Prop where
  | nil : DnOs m [] []
  | cons (Y X : AObj) (ys : Objs) (xs : List AObj) (h : DnO m Y X) (t : DnOs m ys xs) : DnOs m ((0, Y) :: ys) (X :: xs)

theorem DnOs.length {m : List (Nat × Nat)} {ys : Objs} {xs : List AObj} (h : DnOs m ys xs) : ys.length = xs.length := by
  induction h with
  | nil => rfl
  | cons _ _ _ _ _ _ ih => simp [ih]

theorem DnOs.get {m : List (Nat × Nat)} {ys : Objs} {xs : List AObj} (h : DnOs m ys xs) : ∀ {i : Nat} {q : Nat × AObj}, ys[i]? = some q → q.1 = 0 ∧ ∃ X, xs[i]? = some X ∧ DnO m q.2 X := by
  induction h with
  | nil => intro i q h; simp at h
  | cons Y X ys xs h _ ih =>
    intro i q hq
    cases i with
    | zero => simp at hq; subst hq; exact ⟨rfl, X, rfl, h⟩
    | succ i => simp at hq; simpa using ih hq

/-- An object without elements beside the others. -/
theorem ACalls.pad {P : Program} {f : FuncId} {args : List AVal} {objs : Objs} {R : AVal → Objs → Prop} (t : TypeId) (k : Nat) (h : ACalls P f args (objs ++ [(0, .row t k [])]) R) : ACalls P f args objs R := by
  intro K w vs hm hreps
  refine (h (K.newObj 0 0) w vs (hm.addNone t k) (hreps.mono (le_newObj K 0 0))).mono ?_
  rintro e w' ⟨v, r, o, K', rfl, hle, hm', hr, hR⟩
  exact ⟨v, r, o, K', rfl, (le_newObj K 0 0).trans hle, hm', hr, hR⟩

open Classical in
theorem AMoves.at {P : Program} {f : FuncId} {args args1 : List AVal} {base objs base' : Objs} {n0 : Nat} {r rc : AVal} {xs : List AObj} (ks : List Nat) (h : AMoves P f args base n0 r base')
    (hnd : ks.Nodup) (hlt : ∀ k ∈ ks, k < objs.length) (hn0 : n0 ≤ ks.length) (hn1 : n0 ≤ base'.length)
    (hin : DnOs (mIn ks objs) base (picks ks objs)) (hlive : allLive (picks ks objs) = true) (hargs : DnL (mIn ks objs) args args1)
    (hout : RenOs (mOut ks n0 objs (base'.length - n0)) base' xs) (hr : Ren (mOut ks n0 objs (base'.length - n0)) r rc) :
    ACalls P f args1 objs fun r' o' => r' = rc ∧ o' = moved ks n0 xs objs := by
  intro K w vs hm hreps
  have hKn : objs.length = K.n := hm.len
  -- the objects that are handed over
  have pk : ∀ (i o : Nat), ks[i]? = some o → ∃ p, objs[o]? = some p ∧ p.2.live = true ∧ K.vs o = p.1 ∧ (picks ks objs)[i]? = some p.2 ∧ o < K.n := by
    intro i o hi
    have ho := hlt o (mem_get hi)
    have hp : objs[o]? = some objs[o] := List.getElem?_eq_getElem ho
    have hpk : (picks ks objs)[i]? = some objs[o].2 := by
      have : ∀ {ks : List Nat} {i : Nat}, ks[i]? = some o → (picks ks objs)[i]? = some objs[o].2 := by
        intro ks
        induction ks with
        | nil => intro i h; simp at h
        | cons k ks ih =>
          intro i h
          cases i with
          | zero => simp at h; subst h; simp [picks, hp]
          | succ i => simp at h; simpa [picks] using ih h
      exact this hi
    exact ⟨_, hp, allLive_get hlive hpk, (hm.ver o _ hp).symm, hpk, by omega⟩
  have mi : ∀ (i o v : Nat), (mIn ks objs)[i]? = some (o, v) → ks[i]? = some o ∧ v = K.vs o ∧ o < K.n := by
    intro i o v hi
    obtain ⟨h1, h2⟩ := mIn_get hi
    obtain ⟨p, hp, _, hv, _, hlt'⟩ := pk i o h1
    rw [hp] at h2
    exact ⟨h1, by rw [h2, hv], hlt'⟩
  have gD : ∀ {i o : Nat}, ks[i]? = some o → ks.getD i 0 = o := fun hi => by simp [List.getD, hi]
  let K1 : Ctx := K.sel w objs ks
  have hA1 : Agree (mIn ks objs) K1 K := by
    refine ⟨fun i o v hi => ?_, fun i o v hi => ?_, fun i o v hi => ?_, fun i o v hi => ?_⟩
    · obtain ⟨h1, rfl, _⟩ := mi i o v hi; show K.ρ (ks.getD i 0) (K.vs (ks.getD i 0)) = _; rw [gD h1]
    · obtain ⟨h1, rfl, _⟩ := mi i o v hi; show K.C (ks.getD i 0) (K.vs (ks.getD i 0)) = _; rw [gD h1]
    · obtain ⟨h1, _, _⟩ := mi i o v hi; exact (List.getElem?_eq_some_iff.1 h1).1
    · obtain ⟨h1, rfl, h3⟩ := mi i o v hi; exact ⟨h3, Nat.le_refl _⟩
  have hlb : base.length = ks.length := by
    rw [hin.length]
    have : ∀ ks : List Nat, (picks ks objs).length = ks.length := by
      intro ks; induction ks with
      | nil => rfl
      | cons k ks ih => simp [picks, ih]
    exact this ks
  have bs : ∀ (i : Nat) (q : Nat × AObj), base[i]? = some q → q.1 = 0 ∧ ∃ o p, ks[i]? = some o ∧ objs[o]? = some p ∧ DnO (mIn ks objs) q.2 p.2 ∧ p.2.live = true ∧ K.vs o = p.1 ∧ o < K.n ∧ K1.ρ i 0 = K.ρ o p.1 ∧ K1.C i 0 = K.C o p.1 := by
    intro i q hq
    obtain ⟨h1, X, hX, hR⟩ := hin.get hq
    obtain ⟨o, ho, _⟩ := picks_get hX
    obtain ⟨p, hp, hl, hv, hpk, hlt'⟩ := pk i o ho
    rw [hX] at hpk
    simp only [Option.some.injEq] at hpk
    subst hpk
    exact ⟨h1, o, p, ho, hp, hR, hl, hv, hlt', by show K.ρ (ks.getD i 0) (K.vs (ks.getD i 0)) = _; rw [gD ho, hv], by show K.C (ks.getD i 0) (K.vs (ks.getD i 0)) = _; rw [gD ho, hv]⟩
  have selN : ∀ {b : Nat}, selB K objs ks b → K.B b = none ∧ b < w.heap.size ∧ ∀ i, K.M b i = none := by
    rintro b ⟨o, p, ho, hp, hC, rfl⟩
    obtain ⟨i, hi, he⟩ := List.getElem_of_mem ho
    obtain ⟨p', hp', hl', _⟩ := pk i o (by rw [List.getElem?_eq_getElem hi, he])
    rw [hp] at hp'
    simp only [Option.some.injEq] at hp'
    subst hp'
    exact hm.lo o p hp hl' hC
  have hm1 : MemSat K1 base w := by
    refine ⟨hlb, fun i q hq => (bs i q hq).1, fun i q hq => ?_, fun i q hq hlv hC => ?_, fun i i' q q' hq hq' hlv hlv' hC hC' hne => ?_, hm.mem, ⟨rfl, rfl, rfl, Nat.le_refl _, fun b x hx => ?_⟩⟩
    · obtain ⟨h0, o, p, ho, hp, hR, hl, hv, hlt', hρ, hC⟩ := bs i q hq
      rw [h0]
      exact hR.down hA1 (fun _ _ _ h => h) hρ hC (hm.obj o p hp)
    · obtain ⟨h0, o, p, ho, hp, hR, hl, hv, hlt', hρ, hCe⟩ := bs i q hq
      rw [h0] at hC ⊢
      rw [hCe] at hC
      rw [hρ]
      have hs : selB K objs ks (K.ρ o p.1) := ⟨o, p, mem_get ho, hp, hC, rfl⟩
      obtain ⟨q1, q2, q3⟩ := selN hs
      exact ⟨if_pos hs, q2, q3⟩
    · obtain ⟨h0, o, p, ho, hp, hR, hl, hv, hlt', hρ, hCe⟩ := bs i q hq
      obtain ⟨h0', o', p', ho', hp', hR', hl', hv', hlt'', hρ', hCe'⟩ := bs i' q' hq'
      rw [h0] at hC ⊢
      rw [h0'] at hC' ⊢
      rw [hCe] at hC
      rw [hCe'] at hC'
      rw [hρ, hρ']
      refine hm.dis o o' p p' hp hp' hl hl' hC hC' ?_
      rintro rfl
      have h2 := (List.getElem?_eq_some_iff.1 ho)
      have h3 := (List.getElem?_eq_some_iff.1 ho')
      exact hne (nodup_inj hnd h2.1 h3.1 (h2.2.trans h3.2.symm))
    · simp only [K1, Ctx.sel] at hx
      split at hx
      · cases hx
      · exact hx
  have hr1 : Reps K1 args vs := by
    refine ⟨by rw [hreps.1, hargs.length], fun i y v hy hv => ?_⟩
    have hi : i < args1.length := by have := (List.getElem?_eq_some_iff.1 hy).1; have := hargs.length; omega
    exact hargs.get i y _ hy (List.getElem?_eq_getElem hi) hA1 (fun _ _ _ h => h) (hreps.2 i _ v (List.getElem?_eq_getElem hi) hv)
  refine (h K1 w vs hm1 hr1).mono ?_
  rintro e w' ⟨v, K2, rfl, hle, hm2, hrep⟩
  have hsz : w.heap.size ≤ w'.heap.size := by have := hm2.below.size; rw [hle.w0] at this; exact this
  have hB : ∀ b x, ¬ selB K objs ks b → w.heap[b]? = some x → w'.heap[b]? = some x := fun b x hnb hx => hm2.below.block b x (hle.B b x (by show (if _ then _ else _) = _; rw [if_neg hnb]; exact hx))
  have hM0 : ∀ b i x, ¬ selB K objs ks b → w.heap[b]? = some x → K2.M b i = K.M b i := fun b i x hnb hx => hle.M0 b i x (by show (if _ then _ else _) = _; rw [if_neg hnb]; exact hx)
  have blk : ∀ b, b < w.heap.size → ∃ x, w.heap[b]? = some x := fun b hb => ⟨_, Array.getElem?_eq_getElem hb⟩
  have notB : ∀ b x, K.B b = some x → ¬ selB K objs ks b := fun b x hx hs => by rw [(selN hs).1] at hx; cases hx
  have B2 : ∀ {b : Nat}, K2.B b = none → selB K objs ks b ∨ w.heap.size ≤ b := by
    intro b hb
    by_cases hs : selB K objs ks b
    · exact .inl hs
    · refine .inr ?_
      rcases Nat.lt_or_ge b w.heap.size with hlt' | hge
      · obtain ⟨x, hx⟩ := blk b hlt'
        have h2 := hle.B b x (by show (if _ then _ else _) = _; rw [if_neg hs]; exact hx)
        rw [h2] at hb
        cases hb
      · exact hge
  have hn2 : base'.length = K2.n := hm2.len
  let c := base'.length - n0
  let K3 : Ctx := K.back K2 n0 c
  have r3 : ∀ o v, o < K.n → K3.ρ o v = K.ρ o v := fun o v ho => by show (if _ then _ else _) = _; rw [if_pos ho]
  have c3 : ∀ o v, o < K.n → K3.C o v = K.C o v := fun o v ho => by show (if _ then _ else _) = _; rw [if_pos ho]
  have v3 : ∀ o, o < K.n → K3.vs o = K.vs o := fun o ho => by show (if _ then _ else _) = _; rw [if_pos ho]
  have r3' : ∀ j v, K3.ρ (K.n + j) v = K2.ρ (n0 + j) 0 := fun j v => by show (if _ then _ else _) = _; rw [if_neg (by omega), show K.n + j - K.n = j by omega]
  have c3' : ∀ j v, K3.C (K.n + j) v = K2.C (n0 + j) 0 := fun j v => by show (if _ then _ else _) = _; rw [if_neg (by omega), show K.n + j - K.n = j by omega]
  have idρ : ∀ (i o : Nat), i < n0 → ks[i]? = some o → K2.ρ i 0 = K.ρ o (K.vs o) ∧ K2.C i 0 = K.C o (K.vs o) := by
    intro i o hi ho
    have e1 := hle.ρ i 0 hi (Nat.zero_le _)
    have e2 := hle.C i 0 hi (Nat.zero_le _)
    rw [e1, e2]
    constructor
    · show K.ρ (ks.getD i 0) (K.vs (ks.getD i 0)) = _; rw [gD ho]
    · show K.C (ks.getD i 0) (K.vs (ks.getD i 0)) = _; rw [gD ho]
  -- the map of numbers behind the call
  have mo : ∀ (i o v : Nat), (mOut ks n0 objs c)[i]? = some (o, v) → (i < n0 ∧ ks[i]? = some o ∧ v = K.vs o ∧ o < K.n) ∨ (n0 ≤ i ∧ o = K.n + (i - n0) ∧ v = 0 ∧ i - n0 < c) := by
    intro i o v hi
    have htl : ((mIn ks objs).take n0).length = n0 := by rw [List.length_take, mIn_length]; omega
    unfold mOut at hi
    by_cases h0 : i < n0
    · rw [List.getElem?_append_left (by omega), List.getElem?_take, if_pos h0] at hi
      obtain ⟨q1, q2, q3⟩ := mi i o v hi
      exact .inl ⟨h0, q1, q2, q3⟩
    · rw [List.getElem?_append_right (by omega), htl] at hi
      obtain ⟨q1, q2, q3⟩ := mNew_get hi
      exact .inr ⟨by omega, by rw [q1, hKn], q2, q3⟩
  have hA2 : Agree (mOut ks n0 objs c) K2 K3 := by
    refine ⟨fun i o v hi => ?_, fun i o v hi => ?_, fun i o v hi => ?_, fun i o v hi => ?_⟩
    · rcases mo i o v hi with ⟨q1, q2, rfl, q4⟩ | ⟨q1, rfl, rfl, q4⟩
      · rw [r3 o _ q4]; exact (idρ i o q1 q2).1
      · rw [r3', show n0 + (i - n0) = i by omega]
    · rcases mo i o v hi with ⟨q1, q2, rfl, q4⟩ | ⟨q1, rfl, rfl, q4⟩
      · rw [c3 o _ q4]; exact (idρ i o q1 q2).2
      · rw [c3', show n0 + (i - n0) = i by omega]
    · rcases mo i o v hi with ⟨q1, _, _, _⟩ | ⟨q1, _, _, q4⟩
      · omega
      · have : c = base'.length - n0 := rfl; omega
    · rcases mo i o v hi with ⟨q1, q2, rfl, q4⟩ | ⟨q1, rfl, rfl, q4⟩
      · exact ⟨by show o < K.n + c; omega, by rw [v3 o q4]; exact Nat.le_refl _⟩
      · exact ⟨by show K.n + (i - n0) < K.n + c; omega, Nat.zero_le _⟩
  have hKL : K.le K3 := ⟨hle.M, fun o v ho _ => r3 o v ho, fun o v ho _ => c3 o v ho, by show K.n ≤ K.n + c; omega, fun o ho => by rw [v3 o ho]; exact Nat.le_refl _, rfl, fun _ _ h => h, fun b i x hx => hM0 b i x (notB b x hx) (hm.below.block b x hx)⟩
  have hxl := hout.length
  -- the objects behind the call
  have ob : ∀ (o : Nat) (q : Nat × AObj), (moved ks n0 xs objs)[o]? = some q →
      (o < K.n ∧ o ∉ ks ∧ objs[o]? = some q) ∨
      (o < K.n ∧ q.1 = K.vs o ∧ ∃ i Y, i < n0 ∧ ks[i]? = some o ∧ base'[i]? = some (0, Y) ∧ RenO (mOut ks n0 objs c) Y q.2) ∨
      (o < K.n ∧ q.1 = K.vs o ∧ q.2 = .dead) ∨
      (∃ j Y, o = K.n + j ∧ j < c ∧ q.1 = 0 ∧ base'[n0 + j]? = some (0, Y) ∧ RenO (mOut ks n0 objs c) Y q.2) := by
    intro o q hq
    unfold moved at hq
    by_cases ho : o < K.n
    · rw [List.getElem?_append_left (by rw [mvd_length]; omega), mvd_get, Nat.zero_add] at hq
      cases hp : objs[o]? with
      | none => rw [hp] at hq; simp at hq
      | some p =>
        rw [hp] at hq
        simp only [Option.map_some, Option.some.injEq] at hq
        subst hq
        have hver := hm.ver o p hp
        unfold mvd1
        cases hid : idxN ks o 0 with
        | none => exact .inl ⟨ho, idxN_none hid, rfl⟩
        | some i =>
          have hki := (idxN_some hid).2
          rw [Nat.sub_zero] at hki
          cases hb : Nat.blt i n0 with
          | false =>
            exact .inr (.inr (.inl ⟨ho, by simp only [hb, cond_false]; exact hver, by simp only [hb, cond_false]⟩))
          | true =>
            simp only [hb, cond_true]
            have hi : i < n0 := by simpa using hb
            have hib : i < base'.length := by omega
            obtain ⟨h0, X, hX, hR⟩ := hout.get (List.getElem?_eq_getElem hib)
            refine .inr (.inl ⟨ho, hver, i, base'[i].2, hi, hki, ?_, ?_⟩)
            · rw [List.getElem?_eq_getElem hib, ← h0]
            · rw [show xs.getD i .dead = X by simp [List.getD, hX]]; exact hR
    · rw [List.getElem?_append_right (by rw [mvd_length]; omega), mvd_length, laid_get, hKn, List.getElem?_drop] at hq
      cases hx : xs[n0 + (o - K.n)]? with
      | none => rw [hx] at hq; simp at hq
      | some X =>
        rw [hx] at hq
        simp only [Option.map_some, Option.some.injEq] at hq
        subst hq
        have hlt' : n0 + (o - K.n) < base'.length := by have := (List.getElem?_eq_some_iff.1 hx).1; omega
        obtain ⟨h0, X', hX', hR⟩ := hout.get (List.getElem?_eq_getElem hlt')
        rw [hx] at hX'
        simp only [Option.some.injEq] at hX'
        subst hX'
        exact .inr (.inr (.inr ⟨o - K.n, base'[n0 + (o - K.n)].2, by omega, by have : c = base'.length - n0 := rfl; omega, rfl, by rw [List.getElem?_eq_getElem hlt', ← h0], hR⟩))
  have oldB : ∀ {o : Nat} {p : Nat × AObj}, objs[o]? = some p → p.2.live = true → K.C o p.1 ≠ 0 → o ∉ ks → ¬ selB K objs ks (K.ρ o p.1) := by
    rintro o p hp hl hC hk ⟨o2, p2, ho2, hp2, hC2, he⟩
    obtain ⟨i, hi, hie⟩ := List.getElem_of_mem ho2
    obtain ⟨p', hp', hl', _⟩ := pk i o2 (by rw [List.getElem?_eq_getElem hi, hie])
    rw [hp2] at hp'
    simp only [Option.some.injEq] at hp'
    subst hp'
    exact hm.dis o o2 p p2 hp hp2 hl hl' hC hC2 (fun e => hk (e ▸ ho2)) he
  -- where the block of an object lies
  have place : ∀ (o : Nat) (q : Nat × AObj), (moved ks n0 xs objs)[o]? = some q → q.2.live = true → K3.C o q.1 ≠ 0 →
      (o < K.n ∧ o ∉ ks ∧ objs[o]? = some q ∧ K3.ρ o q.1 = K.ρ o q.1 ∧ K.C o q.1 ≠ 0) ∨ (∃ i Y, base'[i]? = some (0, Y) ∧ Y.live = true ∧ K3.ρ o q.1 = K2.ρ i 0 ∧ K2.C i 0 ≠ 0 ∧ ((i < n0 ∧ ks[i]? = some o) ∨ (n0 ≤ i ∧ o = K.n + (i - n0)))) := by
    intro o q hq hlv hC
    rcases ob o q hq with ⟨h1, h2, h3⟩ | ⟨h1, h2, i, Y, h3, h4, h5, h6⟩ | ⟨h1, h2, h3⟩ | ⟨j, Y, rfl, h2, h3, h4, h5⟩
    · rw [c3 o _ h1] at hC
      exact .inl ⟨h1, h2, h3, r3 o _ h1, hC⟩
    · rw [c3 o _ h1, h2, ← (idρ i o h3 h4).2] at hC
      exact .inr ⟨i, Y, h5, by rw [h6.live]; exact hlv, by rw [r3 o _ h1, h2]; exact (idρ i o h3 h4).1.symm, hC, .inl ⟨h3, h4⟩⟩
    · rw [h3] at hlv; cases hlv
    · rw [c3'] at hC
      exact .inr ⟨n0 + j, Y, h4, by rw [h5.live]; exact hlv, r3' j _, hC, .inr ⟨by omega, by omega⟩⟩
  refine ⟨v, rc, moved ks n0 xs objs, K3, rfl, hKL, ⟨?_, fun o q hq => ?_, fun o q hq => ?_, fun o q hq hlv hC => ?_, fun o o' q q' hq hq' hlv hlv' hC hC' hne => ?_, hm2.mem, ⟨?_, ?_, ?_, Nat.le_trans hm.below.size hsz, fun b x hx => hB b x (notB b x hx) (hm.below.block b x hx)⟩⟩, hr.up hA2 (fun _ _ _ h => h) hrep, rfl, rfl⟩
  · show (moved ks n0 xs objs).length = K.n + c
    unfold moved
    rw [List.length_append, mvd_length, laid_length, List.length_drop, hKn, ← hxl]
  · rcases ob o q hq with ⟨h1, h2, h3⟩ | ⟨h1, h2, _⟩ | ⟨h1, h2, h3⟩ | ⟨j, Y, rfl, h2, h3, _⟩
    · rw [v3 o h1]; exact hm.ver o q h3
    · rw [v3 o h1]; exact h2
    · rw [v3 o h1]; exact h2
    · rw [h3]; show 0 = (if _ then _ else _); rw [if_neg (by omega)]
  · rcases ob o q hq with ⟨h1, h2, h3⟩ | ⟨h1, h2, i, Y, h3, h4, h5, h6⟩ | ⟨h1, h2, h3⟩ | ⟨j, Y, rfl, h2, h3, h4, h5⟩
    · refine (hm.obj o q h3).mono hKL h1 (by rw [hm.ver o q h3]; exact Nat.le_refl _) (fun hlv hC => ?_)
      obtain ⟨x, hx⟩ := blk _ (hm.lo o q h3 hlv hC).2.1
      rw [hx]
      exact hB _ x (oldB h3 hlv hC h2) hx
    · have hs := hm2.obj i _ h5
      exact h6.up hA2 (fun _ _ _ h => h) (by rw [r3 o _ h1, h2]; exact (idρ i o h3 h4).1) (by rw [c3 o _ h1, h2]; exact (idρ i o h3 h4).2) hs
    · rw [h3]; trivial
    · have hs := hm2.obj _ _ h4
      rw [h3]
      exact h5.up hA2 (fun _ _ _ h => h) (r3' j 0).symm (c3' j 0).symm hs
  · rcases place o q hq hlv hC with ⟨h1, h2, h3, h4, h5⟩ | ⟨i, Y, h1, h2, h3, h4, h5⟩
    · obtain ⟨q1, q2, q3⟩ := hm.lo o q h3 hlv h5
      rw [h4]
      obtain ⟨x, hx⟩ := blk _ q2
      exact ⟨q1, Nat.lt_of_lt_of_le q2 hsz, fun j => (hM0 _ j x (oldB h3 hlv h5 h2) hx).trans (q3 j)⟩
    · obtain ⟨q1, q2, q3⟩ := hm2.lo i _ h1 h2 h4
      rw [h3]
      refine ⟨?_, q2, q3⟩
      rcases B2 q1 with hs | hge
      · exact (selN hs).1
      · exact hm.below.fresh hge
  · have mixed : ∀ (o o' : Nat) (q q' : Nat × AObj), (o < K.n ∧ o ∉ ks ∧ objs[o]? = some q ∧ K3.ρ o q.1 = K.ρ o q.1 ∧ K.C o q.1 ≠ 0) → q.2.live = true → (∃ i Y, base'[i]? = some (0, Y) ∧ Y.live = true ∧ K3.ρ o' q'.1 = K2.ρ i 0 ∧ K2.C i 0 ≠ 0 ∧ ((i < n0 ∧ ks[i]? = some o') ∨ (n0 ≤ i ∧ o' = K.n + (i - n0)))) → K3.ρ o q.1 ≠ K3.ρ o' q'.1 := by
      rintro o o' q q' ⟨h1, h2, h3, h4, h5⟩ hl ⟨i, Y, g1, g2, g3, g4, _⟩ he
      rw [h4, g3] at he
      obtain ⟨q1, q2, q3⟩ := hm2.lo i _ g1 g2 g4
      rw [← he] at q1
      rcases B2 q1 with hs | hge
      · exact oldB h3 hl h5 h2 hs
      · have := (hm.lo o q h3 hl h5).2.1; omega
    rcases place o q hq hlv hC with h | h
    · rcases place o' q' hq' hlv' hC' with h' | h'
      · obtain ⟨h1, h2, h3, h4, h5⟩ := h
        obtain ⟨h1', h2', h3', h4', h5'⟩ := h'
        rw [h4, h4']
        exact hm.dis o o' q q' h3 h3' hlv hlv' h5 h5' hne
      · exact mixed o o' q q' h hlv h'
    · rcases place o' q' hq' hlv' hC' with h' | h'
      · exact fun e => mixed o' o q' q h' hlv' h e.symm
      · obtain ⟨i, Y, h1, h2, h3, h4, h5⟩ := h
        obtain ⟨i', Y', h1', h2', h3', h4', h5'⟩ := h'
        rw [h3, h3']
        refine hm2.dis i i' _ _ h1 h1' h2 h2' h4 h4' ?_
        rintro rfl
        rcases h5 with ⟨a1, a2⟩ | ⟨a1, a2⟩
        · rcases h5' with ⟨b1, b2⟩ | ⟨b1, b2⟩
          · rw [a2] at b2; simp only [Option.some.injEq] at b2; exact hne b2
          · omega
        · rcases h5' with ⟨b1, b2⟩ | ⟨b1, b2⟩
          · omega
          · exact hne (a2.trans b2.symm)
  · have := hm2.below.os; rw [hle.w0] at this; exact this.trans hm.below.os
  · have := hm2.below.tape; rw [hle.w0] at this; exact this.trans hm.below.tape
  · have := hm2.below.output; rw [hle.w0] at this; exact this.trans hm.below.output

theorem turn_row1 {objs : Objs} {n : Nat} {ks : List Nat} {t : TypeId} {k : Nat} {xs ys : List AVal} (h : TurnCs objs n ks xs ys) : TurnO objs n ks (.row t k [xs]) (.row t k [ys]) := .row _ _ _ _ (.cons _ _ _ _ h .nil)

theorem ret_moves {α : Type} (enc : α → AVal) (eo : α → Objs) {n0 : Nat} {R leaf : α} {r0 : AVal} {o : Objs} (e : leaf = R) (h : Told n0 r0 o (enc leaf) (eo leaf)) : ∃ r objs', Told n0 r0 o r objs' ∧ (r = enc R ∧ objs' = eo R) := by
  subst e
  exact ⟨_, _, h, rfl, rfl⟩

/-- A call by its contract, and what stands behind it. -/
theorem ACalls.use {P : Program} {f : FuncId} {args : List AVal} {objs : Objs} {r : AVal} {o : Objs} {K : AVal → Objs → Prop} (h : ACalls P f args objs fun r' o' => r' = r ∧ o' = o) (k : K r o) : ACalls P f args objs K :=
  h.mono fun _ _ ⟨e1, e2⟩ => by subst e1 e2; exact k

end Go.Fw

namespace Go.Fw
set_option linter.unusedSimpArgs false
set_option linter.unusedVariables false
open Go.RowKit

theorem turn_as {objs : Objs} {n : Nat} {ks : List Nat} {x y : AVal} (h : AsA x y) (hl : Low n y) : TurnV objs n ks x y := fun K w v hm hr => turn_low hl K w v hm (h K v hr)

theorem seen_as {objs : Objs} {x y : AVal} (h : AsA x y) : Seen objs x y := fun K w v hm hr => (h K v hr).mono (le_still K objs w)

/-- An own slice told as a list; it is not written any more. -/
theorem turn_listL {α : Type} {objs : Objs} {n : Nat} {ks : List Nat} {o ver k len : Nat} {t : TypeId} {es : List (List AVal)} {c : α → List AVal} (d : α) (l : List α) (hp : objs[o]? = some (ver, .row t k es)) (hn : n ≤ o) (hk : o ∉ ks) (he : es = l.map c) (hc : ∀ x, LowL n (c x)) (hlen : len = l.length) :
    TurnV objs n ks (.own o ver k 0 len) (listA k c d l) :=
  turn_list d l hp hn hk (by subst he; exact .map (fun x => .low (hc x)) l) hlen

theorem as_nilseq {α : Type} {k : Nat} {t : Bool} {f : Nat → List AVal} {c : α → List AVal} {d : α} : AsA (.seq k 0 t f) (listA k c d []) := as_list _ rfl fun i hi => absurd hi (by omega)

theorem as_same {α : Type} {k n : Nat} {t : Bool} {f : Nat → List AVal} {c : α → List AVal} {d : α} (l : List α) (hn : n = l.length) (h : ∀ i, i < n → f i = c (l.getD i d)) : AsA (.seq k n t f) (listA k c d l) := as_list l hn h

theorem as_lits {α : Type} {k n : Nat} {t : Bool} {f : Nat → List AVal} {c : α → List AVal} {d : α} (l : List α) (h : (List.range n).map f = l.map c) : AsA (.seq k n t f) (listA k c d l) := by
  have hn : n = l.length := by have := congrArg List.length h; simpa using this
  refine as_list l hn fun i hi => ?_
  have h1 : ((List.range n).map f)[i]? = some (f i) := by simp [hi]
  rw [h] at h1
  have hl : i < l.length := by omega
  simp [List.getElem?_eq_getElem hl] at h1
  simp [List.getD, List.getElem?_eq_getElem hl, h1]

/-- A contract at a call: all that is reckoned is reckoned. -/
theorem AMoves.on {P : Program} {f : FuncId} {args args1 : List AVal} {base objs base' : Objs} {n0 : Nat} {r rc : AVal} {xs : List AObj} (ks : List Nat) (h : AMoves P f args base n0 r base')
    (hnd : ks.Nodup) (hlt : (ks.all fun k => Nat.blt k objs.length) = true) (hn0 : Nat.ble n0 ks.length = true) (hn1 : Nat.ble n0 base'.length = true)
    (hin : DnOs (mIn ks objs) base (picks ks objs)) (hlive : allLive (picks ks objs) = true) (hargs : DnL (mIn ks objs) args args1)
    (hout : RenOs (mOut ks n0 objs (base'.length - n0)) base' xs) (hr : Ren (mOut ks n0 objs (base'.length - n0)) r rc) :
    ACalls P f args1 objs fun r' o' => r' = rc ∧ o' = moved ks n0 xs objs :=
  AMoves.at ks h hnd (fun k hk => by have := List.all_eq_true.1 hlt k hk; simpa using this) (Nat.le_of_ble_eq_true hn0) (Nat.le_of_ble_eq_true hn1) hin hlive hargs hout hr

theorem turn_map {objs : Objs} {n : Nat} {ks : List Nat} {o : Nat} {p : AObj} (i : Nat) (hi : ks[i]? = some o) (hp : objs[o]? = some (0, p)) : TurnV objs n ks (.map o) (.map (n + i)) := by
  intro K w v hm hr
  have hver : 0 = K.vs o := hm.ver o _ hp
  have hlt : i < ks.length := (List.getElem?_eq_some_iff.1 hi).1
  have hg : ks.getD i 0 = o := by simp [List.getD, hi]
  obtain ⟨rfl, _⟩ := rep_map hr
  have := Rep.map (K := K.shed w objs n ks) (n + i) (by simp [Ctx.shed]; omega)
  simp only [Ctx.shed, if_neg (show ¬ n + i < n by omega), show n + i - n = i by omega, hg, ← hver] at this
  exact this

theorem mk_ok {P : Program} {e : TypeId} {n m : Int} (b : Nat) (hb : bytesA P e = b) (h : 0 ≤ n ∧ n ≤ m ∧ m * (b : Int) ≤ 70368744177664 ∧ m ≤ 70368744177664) : decide (0 ≤ n ∧ n ≤ m ∧ m * (bytesA P e : Int) ≤ 70368744177664 ∧ m ≤ 70368744177664) = true := by
  rw [hb]
  exact decide_eq_true h

theorem AGives.as2 {P : Program} {f : FuncId} {args args' : List AVal} {objs : Objs} {r : AVal} (h : AGives P f args' objs r) (ha : AsL args args') : AGives P f args objs r := AGives.as ha h

theorem Told.pad {n0 : Nat} {r0 r : AVal} {objs objs' : Objs} (t : TypeId) (k : Nat) (h : Told n0 r0 (objs ++ [(0, .row t k [])]) r objs') : Told n0 r0 objs r objs' := by
  intro K0 K w v h0 hle hm hrep
  exact h K0 (K.newObj 0 0) w v h0 (hle.trans (le_newObj K 0 0)) (hm.addNone t k) (hrep.mono (le_newObj K 0 0))

theorem elemI_map {α : Type} {c : α → List AVal} {l : List α} {i : Nat} (d : α) (h : i < l.length) : elemI (l.map c) i = some (c (l.getD i d)) := by
  rw [elemI_eq]
  simp [List.getD, List.getElem?_eq_getElem h]

theorem elemI_at {α : Type} {c : α → List AVal} {l : List α} {i : Nat} (d : α) (j : Nat) (e : i = j) (h : j < l.length) : elemI (l.map c) i = some (c (l.getD j d)) := by
  subst e
  exact elemI_map d h

theorem set_map {α : Type} {c : α → List AVal} {l : List α} {i : Nat} {y : List AVal} (j : Nat) (x : α) (e : i = j) (h : y = c x) : (l.map c).set i y = (l.set j x).map c := by
  subst e h
  rw [List.map_set]

theorem wru {n : Int} (h : 0 ≤ n ∧ n < 18446744073709551616) : wu64 n = n := by
  simp only [IntKind.wrap, IntKind.bits, IntKind.signed]
  simp
  omega

theorem half_ok {i j n : Int} (h0 : 0 ≤ i) (h1 : i < j) (h2 : j ≤ n) (hn : n ≤ 4294967296) : w64 (Int.fdiv (wu64 (w64 (i + j))) (2 ^ (min (Int.toNat 1) 64))) = (i + j) / 2 := by
  have e1 : w64 (i + j) = i + j := wr (by omega)
  have e2 : wu64 (i + j) = i + j := wru (by omega)
  have e3 : (2 : Int) ^ (min (Int.toNat 1) 64) = 2 := rfl
  rw [e1, e2, e3, Int.fdiv_eq_ediv_of_nonneg _ (by omega)]
  exact wr (by omega)

end Go.Fw

namespace Go.Fw
set_option linter.unusedSimpArgs false
set_option linter.unusedVariables false
open Go.RowKit

/-- A contract that only reads is one that writes nothing. -/
theorem AMoves.of_gives {P : Program} {f : FuncId} {args : List AVal} {objs : Objs} {r : AVal} (h : AGives P f args objs r) : AMoves P f args objs objs.length r objs := by
  intro K w vs hm hreps
  refine (h K w vs hm hreps).mono ?_
  rintro e w' ⟨v, r', o', K', rfl, hle, hm', hrep, rfl, rfl⟩
  exact ⟨v, K', rfl, (cut_le (by rw [hm.len]; exact Nat.le_refl _)).trans hle, hm', hrep⟩

inductive AsLL : List (List AVal) → List (List AVal) → Prop where
  | nil : AsLL [] []
  | cons (xs ys : List AVal) (aS bs : List (List AVal)) (h : AsL xs ys) (t : AsLL aS bs) : AsLL (xs :: aS) (ys :: bs)

theorem AsLL.length {aS bs : List (List AVal)} (h : AsLL aS bs) : aS.length = bs.length := by
  induction h with
  | nil => rfl
  | cons _ _ _ _ _ _ ih => simp [ih]

theorem AsLL.get {aS bs : List (List AVal)} (h : AsLL aS bs) : ∀ (i : Nat) (x y : List AVal), aS[i]? = some x → bs[i]? = some y → AsL x y := by
  induction h with
  | nil => intro i x y hx; simp at hx
  | cons xs ys aS bs h t ih =>
    intro i x y hx hy
    cases i with
    | zero => simp at hx hy; subst hx hy; exact h
    | succ i => simp at hx hy; exact ih i x y hx hy

theorem AsL.len {xs ys : List AVal} (h : AsL xs ys) : xs.length = ys.length := by
  induction h with
  | nil => rfl
  | cons _ _ _ _ _ _ ih => simp [ih]

theorem AsL.at {xs ys : List AVal} (h : AsL xs ys) : ∀ (i : Nat) (x y : AVal), xs[i]? = some x → ys[i]? = some y → AsA x y := by
  induction h with
  | nil => intro i x y hx; simp at hx
  | cons a b aS bs h t ih =>
    intro i x y hx hy
    cases i with
    | zero => simp at hx hy; subst hx hy; exact h
    | succ i => simp at hx hy; exact ih i x y hx hy

/-- A slice literal, element by element. -/
theorem as_deep {α : Type} {k n : Nat} {t : Bool} {f : Nat → List AVal} {c : α → List AVal} {d : α} (l : List α) (h : AsLL ((List.range n).map f) (l.map c)) : AsA (.seq k n t f) (listA k c d l) := by
  have hn : n = l.length := by have := h.length; simpa using this
  intro K v hr
  have key : ∀ i, i < n → AsL (f i) (c (l.getD i d)) := fun i hi => by
    refine h.get i _ _ (by simp [hi]) ?_
    have hl : i < l.length := by omega
    simp [List.getD, List.getElem?_eq_getElem hl]
  unfold listA
  rw [← hn]
  cases hr with
  | nil => exact Rep.nil _ _ _
  | empty _ _ _ a c' ht => exact Rep.empty _ _ _ a c' (fun h => by cases h)
  | seq _ _ _ _ b off c' u hc ht hk hM hel =>
    refine Rep.seq _ _ _ _ b off c' u hc (fun h => by cases h) (fun i hi => (key i hi).len ▸ hk i hi) hM ?_
    intro i j x hi hx
    have hlen := (key i hi).len
    have hj : j < (f i).length := by
      have := (List.getElem?_eq_some_iff.1 hx).1
      omega
    exact (key i hi).at j _ _ (List.getElem?_eq_getElem hj) hx K _ (hel i j _ hi (List.getElem?_eq_getElem hj))

theorem app_eq {α : Type} {a b c d : List α} (h1 : a = c) (h2 : b = d) : a ++ b = c ++ d := by rw [h1, h2]

theorem encode_size (r : Int) : (Utf8.encode r).size ≤ 4 := by
  unfold Utf8.encode
  simp only
  repeat' split
  all_goals exact Nat.le_of_ble_eq_true rfl

theorem runesBytes_size (ns : List Int) : (runesBytes ns).size ≤ 4 * ns.length := by
  unfold runesBytes
  have : ∀ (l : List Int) (b : ByteArray), (l.foldl (fun r n => r ++ Utf8.encode n) b).size ≤ b.size + 4 * l.length := by
    intro l
    induction l with
    | nil => intro b; simp
    | cons x r ih =>
      intro b
      simp only [List.foldl_cons, List.length_cons]
      refine Nat.le_trans (ih _) ?_
      have := encode_size x
      simp only [ByteArray.size_append]
      omega
  have h := this ns ByteArray.empty
  simpa using h

end Go.Fw

namespace Go.Fw
set_option linter.unusedSimpArgs false
set_option linter.unusedVariables false
open Go.RowKit

/-- A list of pairs as a map's entries: stamped by their places. -/
def mapEs {α β : Type} (ek : α → Value) (ev : β → AVal) : Nat → List (α × β) → List (Value × AVal × Nat)
  | _, [] => []
  | i, p :: r => (ek p.1, ev p.2, i) :: mapEs ek ev (i + 1) r

def setM {α β : Type} [BEq α] (k : α) (v : β) : List (α × β) → List (α × β)
  | [] => [(k, v)]
  | p :: r => bif k == p.1 then (k, v) :: r else p :: setM k v r

def getM {α β : Type} [BEq α] (k : α) : List (α × β) → Option β
  | [] => none
  | p :: r => bif k == p.1 then some p.2 else getM k r

def ik (n : Int) : Value := .int .i64 n
def sk (s : ByteArray) : Value := .string s

/-- Keys that are told apart as their names are. -/
class Keys {α : Type} [BEq α] (ek : α → Value) : Prop where
  same : ∀ a b, sameK (ek a) (ek b) = (a == b)

instance : Keys ik := ⟨fun _ _ => rfl⟩
instance : Keys sk := ⟨fun _ _ => rfl⟩

section
variable {α β : Type} [BEq α] {ek : α → Value} [Keys ek] {ev : β → AVal}

omit [BEq α] [Keys ek] in
theorem mapEs_length (s : Nat) (l : List (α × β)) : (mapEs ek ev s l).length = l.length := by
  induction l generalizing s with
  | nil => rfl
  | cons p r ih => simp [mapEs, ih]

omit [BEq α] [Keys ek] in
theorem mapEs_append (s : Nat) (l : List (α × β)) (p : α × β) : mapEs ek ev s (l ++ [p]) = mapEs ek ev s l ++ [(ek p.1, ev p.2, s + l.length)] := by
  induction l generalizing s with
  | nil => simp [mapEs]
  | cons q r ih => simp [mapEs, ih]; omega

theorem find_none (k : α) (v : β) (l : List (α × β)) : ∀ s j, findM (ek k) (mapEs ek ev s l) j = none → setM k v l = l ++ [(k, v)] ∧ getM k l = none := by
  induction l with
  | nil => intro s j _; exact ⟨rfl, rfl⟩
  | cons p r ih =>
    intro s j h
    simp only [mapEs, findM, Keys.same] at h
    cases hk : (k == p.1) with
    | true => rw [hk] at h; cases h
    | false =>
      rw [hk] at h
      obtain ⟨h1, h2⟩ := ih _ _ h
      simp [setM, getM, hk, h1, h2]

theorem find_some (k : α) (v : β) (l : List (α × β)) : ∀ s j i y st, findM (ek k) (mapEs ek ev s l) j = some (i, y, st) →
    ∃ n v', i = j + n ∧ st = s + n ∧ y = ev v' ∧ getM k l = some v' ∧ (mapEs ek ev s l).set n (ek k, ev v, st) = mapEs ek ev s (setM k v l) ∧ (setM k v l).length = l.length := by
  induction l with
  | nil => intro s j i y st h; cases h
  | cons p r ih =>
    intro s j i y st h
    simp only [mapEs, findM, Keys.same] at h
    cases hk : (k == p.1) with
    | true =>
      rw [hk] at h
      simp only [cond_true, Option.some.injEq, Prod.mk.injEq] at h
      obtain ⟨rfl, rfl, rfl⟩ := h
      exact ⟨0, p.2, by simp, by simp, rfl, by simp [getM, hk], by simp [mapEs, setM, hk], by simp [setM, hk]⟩
    | false =>
      rw [hk] at h
      obtain ⟨n, v', h1, h2, h3, h4, h5, h6⟩ := ih _ _ _ _ _ h
      refine ⟨n + 1, v', by omega, by omega, h3, by simp [getM, hk, h4], ?_, by simp [setM, hk, h6]⟩
      simp [mapEs, setM, hk, h5]

theorem putM_map (k : α) (v : β) (l : List (α × β)) {x : AVal} {c : Nat} (hx : x = ev v) (hc : c = l.length) : putM (ek k) x (mapEs ek ev 0 l) c = (mapEs ek ev 0 (setM k v l), (setM k v l).length) := by
  subst hx hc
  unfold putM
  cases h : findM (ek k) (mapEs ek ev 0 l) 0 with
  | none =>
    obtain ⟨h1, _⟩ := find_none k v l _ _ h
    simp [h1, mapEs_append]
  | some q =>
    obtain ⟨i, y, st⟩ := q
    obtain ⟨n, v', rfl, rfl, rfl, _, h5, h6⟩ := find_some k v l _ _ _ _ _ h
    simp only [Nat.zero_add] at h5 ⊢
    rw [h5, h6]

theorem lookP_map (k : α) (l : List (α × β)) {z : AVal} (d : β) (hz : AsA z (ev d)) : LookP (ek k) (mapEs ek ev 0 l) z (ev ((getM k l).getD d)) (getM k l).isSome := by
  unfold LookP
  cases h : findM (ek k) (mapEs ek ev 0 l) 0 with
  | none =>
    obtain ⟨_, h2⟩ := find_none k d l _ _ h
    simp only [h2]
    exact ⟨hz, rfl⟩
  | some q =>
    obtain ⟨i, y, st⟩ := q
    obtain ⟨n, v', _, _, rfl, h4, _, _⟩ := find_some k d l _ _ _ _ _ h
    simp only [h4]
    exact ⟨fun _ _ h => h, rfl⟩
end

theorem keys_int {β : Type} {P : Program} {kt : TypeId} {ev : β → AVal} (hk : P.underlying kt = some (.int .i64)) (k : Int) (l : List (Int × β)) : keysOK P kt (.int .i64 k) (mapEs ik ev 0 l) := by
  unfold keysOK
  rw [hk]
  have : ∀ s, ((mapEs ik ev s l).all fun e => keyOK (some (.int .i64)) e.1) = true := by
    induction l with
    | nil => intro s; rfl
    | cons p r ih => intro s; rw [mapEs, List.all_cons, ih]; rfl
  rw [this]; rfl

theorem keys_str {β : Type} {P : Program} {kt : TypeId} {ev : β → AVal} (hk : P.underlying kt = some .string) (k : ByteArray) (l : List (ByteArray × β)) : keysOK P kt (.string k) (mapEs sk ev 0 l) := by
  unfold keysOK
  rw [hk]
  have : ∀ s, ((mapEs sk ev s l).all fun e => keyOK (some .string) e.1) = true := by
    induction l with
    | nil => intro s; rfl
    | cons p r ih => intro s; rw [mapEs, List.all_cons, ih]; rfl
  rw [this]; rfl

/-- A map told anew. -/
theorem turn_mapO {α β : Type} {objs : Objs} {n : Nat} {ks : List Nat} {ek : α → Value} {ev : β → AVal} {es : List (Value × AVal × Nat)} {c : Nat} (l : List (α × β)) (he : es = mapEs ek ev 0 l) (hc : c = l.length) (hl : ∀ x, Low n (ev x)) : TurnO objs n ks (.other (.map es c)) (.other (.map (mapEs ek ev 0 l) l.length)) := by
  subst he hc
  refine .map _ _ _ rfl fun i k y st h => ⟨y, h, turn_low ?_⟩
  have : ∀ (s : Nat) (l : List (α × β)) (i : Nat), (mapEs ek ev s l)[i]? = some (k, y, st) → Low n y := by
    intro s l
    induction l generalizing s with
    | nil => intro i h; simp [mapEs] at h
    | cons p r ih =>
      intro i h
      cases i with
      | zero => simp [mapEs] at h; rw [← h.2.1]; exact hl _
      | succ i => simp [mapEs] at h; exact ih _ _ h
  exact this 0 l i h

end Go.Fw

namespace Go.Fw
set_option linter.unusedSimpArgs false
set_option linter.unusedVariables false
variable {α β : Type} {ek : α → Value} {ev : β → AVal}

theorem mapEs_mem {k : Value} {x : AVal} {st : Nat} (d : α × β) : ∀ {l : List (α × β)} {s : Nat}, (k, x, st) ∈ mapEs ek ev s l → ∃ j, st = s + j ∧ j < l.length ∧ k = ek (l.getD j d).1 ∧ x = ev (l.getD j d).2
  | [], s, h => by simp [mapEs] at h
  | p :: l, s, h => by
    simp only [mapEs, List.mem_cons, Prod.mk.injEq] at h
    rcases h with ⟨rfl, rfl, rfl⟩ | h
    · exact ⟨0, by simp, by simp, by simp, by simp⟩
    · obtain ⟨j, rfl, hj, rfl, rfl⟩ := mapEs_mem d h
      exact ⟨j + 1, by omega, by simp; omega, by simp, by simp⟩

theorem mapEs_get (d : α × β) : ∀ {l : List (α × β)} {s j : Nat}, j < l.length → (ek (l.getD j d).1, ev (l.getD j d).2, s + j) ∈ mapEs ek ev s l
  | [], s, j, h => absurd h (by simp)
  | p :: l, s, 0, h => by simp [mapEs]
  | p :: l, s, j + 1, h => by
    have := mapEs_get d (l := l) (s := s + 1) (j := j) (by simpa using h)
    rw [show s + 1 + j = s + (j + 1) by omega] at this
    simp only [mapEs, List.mem_cons]
    exact Or.inr (by simpa using this)

theorem mapEs_findB (d : α × β) : ∀ {l : List (α × β)} {s j : Nat}, j < l.length → findB (s + j) (mapEs ek ev s l) = some (ek (l.getD j d).1, ev (l.getD j d).2)
  | [], s, j, h => absurd h (by simp)
  | p :: l, s, 0, h => by simp [mapEs, findB]
  | p :: l, s, j + 1, h => by
    have := mapEs_findB d (l := l) (s := s + 1) (j := j) (by simpa using h)
    rw [show s + 1 + j = s + (j + 1) by omega] at this
    have hb : Nat.beq s (s + (j + 1)) = false := by
      cases hq : Nat.beq s (s + (j + 1)) with
      | false => rfl
      | true => have := Nat.eq_of_beq_eq_true hq; omega
    simp only [mapEs, findB, hb]
    simpa using this

/-- One round of a way through a map. -/
theorem map_round {l : List (α × β)} (d : α × β) {seen : Array Nat} {A : Value → AVal → Nat → Prop} {B : Prop}
    (hA : ∀ j, j < l.length → seen.contains j = false → A (ek (l.getD j d).1) (ev (l.getD j d).2) j) (hB : (∀ j, j < l.length → seen.contains j = true) → B) :
    ((mapEs ek ev 0 l).all (fun e => decide (e.2.2 < l.length)) && (seen.isEmpty || (mapEs ek ev 0 l).isEmpty || !((mapEs ek ev 0 l).all fun e => decide (e.2.2 ≥ l.length)))) = true ∧
    (∀ k x st, (k, x, st) ∈ (mapEs ek ev 0 l).filter (fun e => !seen.contains e.2.2) → A k x st) ∧ ((mapEs ek ev 0 l).filter (fun e => !seen.contains e.2.2) = [] → B) := by
  have hlt : ∀ e ∈ mapEs ek ev 0 l, e.2.2 < l.length := by
    rintro ⟨k, x, st⟩ he
    obtain ⟨j, rfl, hj, _, _⟩ := mapEs_mem d he
    simpa using hj
  refine ⟨?_, fun k x st h => ?_, fun h => hB fun j hj => ?_⟩
  · rw [Bool.and_eq_true]
    refine ⟨List.all_eq_true.2 fun e he => decide_eq_true (hlt e he), ?_⟩
    cases hm : mapEs ek ev 0 l with
    | nil => simp
    | cons e r =>
      have h1 := hlt e (by rw [hm]; exact List.mem_cons_self)
      rw [Bool.or_eq_true]
      right
      simp only [List.all_cons, Bool.not_eq_true', Bool.and_eq_false_iff]
      left
      exact decide_eq_false (by omega)
  · obtain ⟨h1, h2⟩ := List.mem_filter.1 h
    obtain ⟨j, rfl, hj, rfl, rfl⟩ := mapEs_mem d h1
    simp only [Nat.zero_add] at h2 ⊢
    exact hA j hj (by simpa using h2)
  · have h1 := mapEs_get (ek := ek) (ev := ev) d (s := 0) hj
    cases hc : seen.contains j with
    | true => rfl
    | false =>
      have : (ek (l.getD j d).1, ev (l.getD j d).2, 0 + j) ∈ (mapEs ek ev 0 l).filter (fun e => !seen.contains e.2.2) := List.mem_filter.2 ⟨h1, by show (!seen.contains (0 + j)) = true; rw [Nat.zero_add, hc]; rfl⟩
      rw [h] at this
      cases this

theorem entry_map {l : List (α × β)} (d : α × β) {objs : Objs} {i ob since c j : Nat} {seen : Array Nat} (hi : objs[i]? = some (0, .other (.mapIter ob since (seen.push j) c))) (hm : mapObj objs ob = some (mapEs ek ev 0 l, c)) (hj : j < l.length) :
    entryA (.ptr i 0 1 0 0) objs = some (.tup [.lit (ek (l.getD j d).1), ev (l.getD j d).2]) := by
  unfold entryA
  simp only [hi, hm, Array.back?_push]
  have h1 : Nat.beq c c = true := Nat.beq_refl c
  have h2 := mapEs_findB (ek := ek) (ev := ev) d (s := 0) hj
  rw [Nat.zero_add] at h2
  rw [h1, h2]

def unseen (n : Nat) (seen : Array Nat) : Nat := ((List.range n).filter fun j => !seen.contains j).length

theorem unseen_push {n j : Nat} {seen : Array Nat} (hj : j < n) (hs : seen.contains j = false) : unseen n (seen.push j) < unseen n seen := by
  unfold unseen
  have h1 : ((List.range n).filter fun i => !(seen.push j).contains i) = (((List.range n).filter fun i => !seen.contains i).filter fun i => !(i == j)) := by
    rw [List.filter_filter]
    congr 1
    funext i
    rw [Array.contains_push]
    cases seen.contains i <;> cases h : (i == j) <;> simp_all
  rw [h1]
  refine List.length_filter_lt_length_iff_exists.2 ⟨j, List.mem_filter.2 ⟨List.mem_range.2 hj, by show (!seen.contains j) = true; rw [hs]; rfl⟩, by simp⟩

theorem all_f {l : List (α × β)} {d : α × β} {p : α × β → Bool} {j : Nat} (hj : j < l.length) (h : p (l.getD j d) = false) : l.all p = false := by
  rw [List.all_eq_false]
  have e : l.getD j d = l[j] := by simp [List.getD, List.getElem?_eq_getElem hj]
  exact ⟨l[j], List.getElem_mem hj, by rw [← e, h]; simp⟩

theorem all_t {l : List (α × β)} {d : α × β} {p : α × β → Bool} {seen : Array Nat} (hs : ∀ j, j < l.length → seen.contains j = true) (h : ∀ j, j < l.length → seen.contains j = true → p (l.getD j d) = true) : l.all p = true := by
  rw [List.all_eq_true]
  intro e he
  obtain ⟨j, hj, rfl⟩ := List.getElem_of_mem he
  have := h j hj (hs j hj)
  simpa [List.getD, List.getElem?_eq_getElem hj] using this

theorem seen_push {l : List (α × β)} {d : α × β} {p : α × β → Bool} {seen : Array Nat} {j : Nat} (h : ∀ i, i < l.length → seen.contains i = true → p (l.getD i d) = true) (hp : p (l.getD j d) = true) : ∀ i, i < l.length → (seen.push j).contains i = true → p (l.getD i d) = true := by
  intro i hi hc
  rw [Array.contains_push, Bool.or_eq_true] at hc
  rcases hc with hc | hc
  · exact h i hi hc
  · rw [eq_of_beq hc]; exact hp

theorem low_mapEs {n : Nat} {l : List (α × β)} {c : Nat} (h : ∀ x, Low n (ev x)) : LowObj n (.other (.map (mapEs ek ev 0 l) c)) := by
  rintro ⟨k, x, st⟩ he
  cases l with
  | nil => simp [mapEs] at he
  | cons p r =>
    obtain ⟨j, _, _, _, rfl⟩ := mapEs_mem p he
    exact h _

theorem set_map_same {α : Type} {c : α → List AVal} {l : List α} {i : Nat} {y : List AVal} (d : α) (j : Nat) (e : i = j) (h : j < l.length) (hy : y = c (l.getD j d)) : (l.map c).set i y = l.map c := by
  subst e hy
  rw [show c (l.getD i d) = (l.map c)[i]'(by simpa using h) by simp [List.getD, List.getElem?_eq_getElem h]]
  exact List.set_getElem_self _

theorem turn_csAs {objs : Objs} {n : Nat} {ks : List Nat} {xs ys : List AVal} (h : AsL xs ys) (hl : LowL n ys) : TurnCs objs n ks xs ys := by
  induction h with
  | nil => exact .nil
  | cons x y xs ys h _ ih =>
    exact .cons _ _ _ _ (turn_as h (hl y List.mem_cons_self)) (ih fun e he => hl e (List.mem_cons_of_mem _ he))

theorem turn_esAs {objs : Objs} {n : Nat} {ks : List Nat} {es es' : List (List AVal)} (h : AsLL es es') (hl : ∀ e ∈ es', LowL n e) : TurnEs objs n ks es es' := by
  induction h with
  | nil => exact .nil
  | cons x y xs ys h _ ih => exact .cons _ _ _ _ (turn_csAs h (hl y List.mem_cons_self)) (ih fun e he => hl e (List.mem_cons_of_mem _ he))

/-- A row of a literal, told by what its slices are. -/
theorem turn_rowAs {objs : Objs} {n : Nat} {ks : List Nat} {t : TypeId} {k : Nat} {es es' : List (List AVal)} (h : AsLL es es') (hl : ∀ e ∈ es', LowL n e) : TurnO objs n ks (.row t k es) (.row t k es') := .row _ _ _ _ (turn_esAs h hl)

theorem seen_listAs {γ : Type} {k : Nat} {c : γ → List AVal} (d : γ) {objs : Objs} {o ver len : Nat} {t : TypeId} {es : List (List AVal)} (l : List γ) (hp : objs[o]? = some (ver, .row t k es)) (he : AsLL es (l.map c)) (hlen : len = l.length) : Seen objs (.own o ver k 0 len) (listA k c d l) := by
  subst hlen
  have hl : es.length = l.length := by have := he.length; simpa using this
  have h := Seen.own (off := 0) (len := l.length) hp (by omega)
  refine h.trans' fun K v hr => as_deep l ?_ K v hr
  have e : (List.range l.length).map (fun i => es.getD (0 + i) []) = es := by
    rw [← hl]
    refine List.ext_getElem (by simp) fun i h1 h2 => ?_
    simp [List.getD, List.getElem?_eq_getElem h2]
  rw [e]
  exact he

theorem newsP_ownE {o ver k len : Nat} {objs : Objs} {te : TypeId} {es l : List (List AVal)} (hr : rowOf objs o ver k = some (te, es)) (he : es = l) (hl : len = es.length) : NewsP k (.own o ver k 0 len) objs l := by
  subst he
  exact newsP_own hr hl

theorem bytesStr_size1 : ∀ (l : List Int) (r : ByteArray), (l.foldl (fun r n => r.push (UInt8.ofNat n.toNat)) r).size = r.size + l.length
  | [], r => by simp
  | n :: l, r => by
    rw [List.foldl_cons, bytesStr_size1 l]
    simp only [ByteArray.size_push, List.length_cons]
    omega

theorem bytesStr_size (l : List Int) : (bytesStr l).size = l.length := by
  unfold bytesStr
  rw [bytesStr_size1]
  simp

theorem dn_sel {m : List (Nat × Nat)} {i o v k a b : Nat} (h : m[i]? = some (o, v)) : Dn m (.sel i 0 k a b) (.sel o v k a b) := dn_ren (.sel _ _ _ _ _ _ h)
theorem dn_selnil {m : List (Nat × Nat)} {i k a b : Nat} : Dn m (.sel i 0 k a b) (.lit (.pointer none)) := by
  intro K L _ _ v hr
  cases hr with
  | lit => exact .selNil _ _ _ _ _
theorem sel_of_ptr {K : Ctx} {o ver k i j : Nat} {v : Value} (h : Rep K (.ptr o ver k i j) v) : Rep K (.sel o ver k i j) v := by
  cases h with
  | ptr _ _ _ _ _ ho hv => exact .selPtr _ _ _ _ _ ho hv
theorem dn_selptr {m : List (Nat × Nat)} {i o v k a b : Nat} (h : m[i]? = some (o, v)) : Dn m (.sel i 0 k a b) (.ptr o v k a b) := by
  intro K L hA hM u hr
  exact sel_of_ptr (dn_ptr h hA hM hr)
theorem turn_selptr {objs : Objs} {n : Nat} {ks : List Nat} {o ver k i' j : Nat} {p : AObj} (i : Nat) (hi : ks[i]? = some o) (hp : objs[o]? = some (ver, p)) : TurnV objs n ks (.ptr o ver k i' j) (.sel (n + i) 0 k i' j) := fun K w v hm hr => sel_of_ptr (turn_ptr i hi hp K w v hm hr)
theorem turn_selnil {objs : Objs} {n : Nat} {ks : List Nat} {o k i' j : Nat} : TurnV objs n ks (.lit (.pointer none)) (.sel o 0 k i' j) := by
  intro K w v hm hr
  cases hr with
  | lit => exact .selNil _ _ _ _ _
theorem turn_sel {objs : Objs} {n : Nat} {ks : List Nat} {o ver k i' j : Nat} {p : AObj} (i : Nat) (hi : ks[i]? = some o) (hp : objs[o]? = some (ver, p)) : TurnV objs n ks (.sel o ver k i' j) (.sel (n + i) 0 k i' j) := by
  intro K w v hm hr
  cases hr with
  | selNil => exact .selNil _ _ _ _ _
  | selPtr _ _ _ _ _ ho hv => exact turn_selptr i hi hp K w _ hm (.ptr _ _ _ _ _ ho hv)

theorem own_of_buf {K : Ctx} {o ver k len : Nat} {v : Value} (h : Rep K (.buf o ver k len) v) : Rep K (.own o ver k 0 len) v := by
  cases h with
  | bufNil _ _ _ ho hv => exact .ownNil _ _ _ ho hv
  | bufSome _ _ _ _ c ho hv hl hc hC => exact .own _ _ _ _ _ ho hv _ c hl (by omega) (fun _ => by simp)
theorem buf_of_own {K : Ctx} {o ver k len : Nat} {v : Value} (hn : len ≠ 0) (h : Rep K (.own o ver k 0 len) v) : Rep K (.buf o ver k len) v := by
  cases h with
  | ownNil _ _ _ ho hv => exact absurd rfl hn
  | own _ _ _ _ _ ho hv a c hl hC ha =>
    have e := ha (by omega)
    subst e
    have := Rep.bufSome (K := K) o ver k len c ho hv hl (by omega) (by omega)
    simpa using this
theorem dn_buf {m : List (Nat × Nat)} {i o v k b : Nat} (h : m[i]? = some (o, v)) : Dn m (.own i 0 k 0 b) (.buf o v k b) := by
  intro K L hA hM u hr
  exact dn_own h hA hM (own_of_buf hr)
theorem turn_ownbuf {objs : Objs} {n : Nat} {ks : List Nat} {o ver k len len' : Nat} {p : AObj} (i : Nat) (hi : ks[i]? = some o) (hp : objs[o]? = some (ver, p)) (e : len = len') (hn : len' ≠ 0) : TurnV objs n ks (.own o ver k 0 len) (.buf (n + i) 0 k len') := by
  subst e
  intro K w v hm hr
  exact buf_of_own hn (turn_own i hi hp rfl K w v hm hr)
theorem turn_nilbuf {objs : Objs} {n : Nat} {ks : List Nat} {o k : Nat} (i : Nat) (hi : ks[i]? = some o) : TurnV objs n ks (.lit (.slice none 0 0)) (.buf (n + i) 0 k 0) := by
  intro K w v hm hr
  have h := turn_nilown (n := n) (k := k) i hi K w v hm hr
  have e := rep_lit hr
  subst e
  cases h with
  | ownNil _ _ _ ho hv => exact .bufNil _ _ _ ho hv
theorem turn_buf {objs : Objs} {n : Nat} {ks : List Nat} {o ver k len : Nat} {p : AObj} (i : Nat) (hi : ks[i]? = some o) (hp : objs[o]? = some (ver, p)) : TurnV objs n ks (.buf o ver k len) (.buf (n + i) 0 k len) := by
  intro K w v hm hr
  have h := turn_own (n := n) i hi hp rfl K w v hm (own_of_buf hr)
  cases hr with
  | bufNil _ _ _ ho hv =>
    cases h with
    | ownNil _ _ _ ho hv => exact .bufNil _ _ _ ho hv
  | bufSome _ _ _ _ c ho hv hl hc hC =>
    cases h with
    | own _ _ _ _ _ ho hv a c hl hC ha =>
      have e := ha hc
      rw [e]
      have := Rep.bufSome (K := K.shed w objs n ks) (n + i) 0 k len c ho hv hl hc (by omega)
      simpa using this

theorem dn_any {m : List (Nat × Nat)} {x : AVal} : Dn m .any x := fun _ _ _ _ => .any _
theorem dn_bufbuf {m : List (Nat × Nat)} {i o v k b : Nat} (h : m[i]? = some (o, v)) : Dn m (.buf i 0 k b) (.buf o v k b) := by
  intro K L hA hM u hr
  have h' := dn_own h hA hM (own_of_buf hr)
  cases hr with
  | bufNil _ _ _ ho hv =>
    cases h' with
    | ownNil _ _ _ ho hv => exact .bufNil _ _ _ ho hv
  | bufSome _ _ _ _ c ho hv hl hc hC =>
    cases h' with
    | own _ _ _ _ _ ho hv a c hl hC ha =>
      have e := ha hc
      rw [e]
      have := Rep.bufSome (K := K) i 0 k b c ho hv hl hc (by omega)
      simpa using this
theorem dn_ownbuf {m : List (Nat × Nat)} {i o v k b b' : Nat} (h : m[i]? = some (o, v)) (e : b' = b) (hn : b ≠ 0) : Dn m (.buf i 0 k b) (.own o v k 0 b') := by
  subst e
  intro K L hA hM u hr
  exact buf_of_own hn (dn_own h hA hM hr)
theorem dn_nilbuf {m : List (Nat × Nat)} {i k : Nat} {q : Nat × Nat} (h : m[i]? = some q) : Dn m (.buf i 0 k 0) (.lit (.slice none 0 0)) := by
  intro K L hA hM u hr
  have h' := dn_nil (k := k) h hA hM hr
  have e := rep_lit hr
  subst e
  cases h' with
  | ownNil _ _ _ ho hv => exact .bufNil _ _ _ ho hv

theorem turn_miter {objs : Objs} {n : Nat} {ks : List Nat} {o since last : Nat} {seen : Array Nat} {p : AObj} (i : Nat) (hi : ks[i]? = some o) (hp : objs[o]? = some (0, p)) : TurnO objs n ks (.other (.mapIter o since seen last)) (.other (.mapIter (n + i) since seen last)) := .mapIter o i since seen last p hi hp
end Go.Fw

namespace Go.Fw
set_option linter.unusedSimpArgs false
set_option linter.unusedVariables false
open Go.RowKit

theorem ct {α : Type} {c : Bool} {a b z : α} (h : c = true) (k : a = z) : (bif c then a else b) = z := (cond_t h).trans k
theorem cf {α : Type} {c : Bool} {a b z : α} (h : c = false) (k : b = z) : (bif c then a else b) = z := (cond_f h).trans k

theorem ai {a b : Prop} (h : a) (k : b) : a ∧ b := ⟨h, k⟩
theorem us {P : Program} {f : FuncId} {args : List AVal} {objs : Objs} {r : AVal} {o : Objs} {K : AVal → Objs → Prop} (h : ACalls P f args objs fun r' o' => r' = r ∧ o' = o) (k : K r o) : ACalls P f args objs K := ACalls.use h k

theorem ga {P : Program} {f : FuncId} {fn : Func} {c : Code} {args : List AVal} {r : AVal} (ha : LowL 0 args) (hl : Low 0 r) (keep : Nat → Bool) (hf : P.funcs[f]? = some fn)
    (h : cwp P fn.ntmps ([] : Objs).length keep c (CRet P fn ([] : Objs).length fun r' o => r' = r ∧ o = []) (initSlots 0 args) []) (hb : fn.body = some c := by exact rfl) (hlen : Nat.ble args.length fn.ntmps = true := by exact rfl) : ∀ objs, AGives P f args objs r :=
  AGives.any' ha hl (ACalls.of_cwp keep hf hb hlen h)
theorem mo {P : Program} {f : FuncId} {fn : Func} {c : Code} {args : List AVal} {objs : Objs} {n0 : Nat} {r0 : AVal} {objs0 : Objs} (keep : Nat → Bool) (hf : P.funcs[f]? = some fn)
    (h : cwp P fn.ntmps n0 keep c (CRet P fn n0 fun r o => r = r0 ∧ o = objs0) (initSlots 0 args) objs) (hb : fn.body = some c := by exact rfl) (hlen : Nat.ble args.length fn.ntmps = true := by exact rfl) (hn0 : Nat.ble n0 objs.length = true := by exact rfl) : AMoves P f args objs n0 r0 objs0 :=
  AMoves.of_cwp keep hf hb hlen hn0 h

theorem rq {n0 : Nat} {r0 X : AVal} {o Y : Objs} (h : Told n0 r0 o X Y) : ∃ r objs', Told n0 r0 o r objs' ∧ (r = X ∧ objs' = Y) := ⟨X, Y, h, rfl, rfl⟩
theorem fo2 {α β : Type} (F : α → β) (b : α) {a : α} {R : β} (h : F a = R) (e : a = b) : F b = R := e ▸ h
theorem sr {o : Objs} {r : AVal} : Seen o r r := Seen.refl _ _

section
variable {P : Program} {f : FuncId} {args : List AVal} {objs o : Objs} {r : AVal}
theorem u2 {K : AVal → Objs → Prop} (h : ACalls P f args objs fun a b => a = r ∧ b = o) (k : K r o) : ∃ r' o', ACalls P f args objs (fun a b => a = r' ∧ b = o') ∧ K r' o' := ⟨r, o, h, k⟩
theorem u3 {g : Bool} {K : AVal → Objs → Prop} (h : ACalls P f args objs fun a b => a = r ∧ b = objs) (k : K r objs) : ∃ r' o', (g = true → ACalls P f args objs (fun a b => a = r' ∧ b = o')) ∧ (g = false → o' = objs) ∧ K r' o' := ⟨r, objs, fun _ => h, fun _ => rfl, k⟩
theorem u4 {g : Bool} {K : AVal → Prop} (h : AGives P f args objs r) (k : K r) : ∃ r', (g = true → AGives P f args objs r') ∧ K r' := ⟨r, fun _ => h, k⟩
end

/-- Which slots are kept: the first n, and those of a list; j: where ways are joined. -/
def inL (t : Nat) : List Nat → Bool
  | [] => false
  | a :: r => bif Nat.beq t a then true else inL t r
def kp (n : Nat) (l : List Nat) (t : Nat) : Bool := bif Nat.ble 1000000 t then true else bif Nat.blt t n then true else inL t l
def kj (js : List Nat) (n : Nat) (l : List Nat) (t : Nat) : Bool := bif inL t js then false else kp n l t

class LowC {α : Type} (c : α → List AVal) : Prop where
  low : ∀ n x, LowL n (c x)
instance : LowC (fun n : Int => [I n]) := ⟨fun _ _ => lowL1 rfl⟩
instance : LowC (fun n : Int => [Y n]) := ⟨fun _ _ => lowL1 rfl⟩
instance : LowC (fun n : Int => [J n]) := ⟨fun _ _ => lowL1 rfl⟩
instance : LowC (fun n : Int => [U n]) := ⟨fun _ _ => lowL1 rfl⟩
instance : LowC (fun n : ByteArray => [Sg n]) := ⟨fun _ _ => lowL1 rfl⟩
instance : LowC (fun n : Bool => [Bo n]) := ⟨fun _ _ => lowL1 rfl⟩
theorem lw {α : Type} {k : Nat} {c : α → List AVal} [h : LowC c] {d : α} {l : List α} {n : Nat} : Low n (listA k c d l) := listA_low' (h.low n)
theorem lm {α : Type} {c : α → List AVal} [h : LowC c] {l : List α} {n : Nat} : ∀ e ∈ l.map c, LowL n e := low_map (h.low n)
theorem lx {n : Nat} {x : AVal} (h : low2 x = true := by exact rfl) : Low n x := low2_sound h

theorem l1 {n : Nat} {x : AVal} {xs : List AVal} (t : LowL n xs) (h : low2 x = true := by exact rfl) : LowL n (x :: xs) := .cons (low2_sound h) t
theorem lv {n : Nat} {x : AVal} {xs : List AVal} (h : Low n x) (t : LowL n xs) : LowL n (x :: xs) := .cons h t

section
variable {objs : Objs} {n : Nat} {ks : List Nat}
theorem t1 {x : AVal} (h : low2 x = true := by exact rfl) : TurnV objs n ks x x := turn_low (low2_sound h)
theorem to {o ver k off len len' : Nat} {p : AObj} (i : Nat) (hl : len = len') (hi : ks[i]? = some o := by exact rfl) (hp : objs[o]? = some (ver, p) := by exact rfl) : TurnV objs n ks (.own o ver k off len) (.own (n + i) 0 k off len') := turn_own i hi hp hl
theorem sv {s : List (Nat × AVal)} {t : Nat} {v : AVal} {r : List (Nat × AVal)} (h : TurnV objs n ks (getSlot s t) v) (hr : SubT objs n ks s r) : SubT objs n ks s ((t, v) :: r) := .cons _ _ _ h hr
theorem s1 {s : List (Nat × AVal)} {t : Nat} {v : AVal} {r : List (Nat × AVal)} (hr : SubT objs n ks s r) (e : getSlot s t = v := by exact rfl) (h : low2 v = true := by exact rfl) : SubT objs n ks s ((t, v) :: r) := .cons _ _ _ (by rw [e]; exact turn_low (low2_sound h)) hr
theorem sl {s : List (Nat × AVal)} {t : Nat} {v : AVal} {r : List (Nat × AVal)} (h : Low 0 v) (hr : SubT objs 0 ks s r) (e : getSlot s t = v := by exact rfl) : SubT objs 0 ks s ((t, v) :: r) := .cons _ _ _ (by rw [e]; exact turn_low h) hr
theorem cv {x y : AVal} {xs ys : List AVal} (h : TurnV objs n ks x y) (t : TurnCs objs n ks xs ys) : TurnCs objs n ks (x :: xs) (y :: ys) := .cons _ _ _ _ h t
theorem c1 {x : AVal} {xs ys : List AVal} (t : TurnCs objs n ks xs ys) (h : low2 x = true := by exact rfl) : TurnCs objs n ks (x :: xs) (x :: ys) := .cons _ _ _ _ (turn_low (low2_sound h)) t
theorem tO {o : Nat} {os : List Nat} {p : Nat × AObj} {q : AObj} {r : Objs} (hp : objs[o]? = some p) (hq : TurnO objs n ks p.2 q) (hr : TurnL objs n ks os r) : TurnL objs n ks (o :: os) ((0, q) :: r) := .cons _ _ _ _ _ hp hq hr
theorem ts {t : TypeId} {k : Nat} {c : List AVal} (h : LowL n c) : TurnO objs n ks (.row t k [c]) (.row t k [c]) := turn_same rfl (low_es1 h)
theorem tl {α : Type} {t : TypeId} {k : Nat} {c : α → List AVal} [h : LowC c] {l : List α} {es : List (List AVal)} (e : es = l.map c) : TurnO objs n ks (.row t k es) (.row t k (l.map c)) := turn_same e (low_map (h.low n))
theorem wk {nt n0 : Nat} {objs : Objs} {s s' : List (Nat × AVal)} {new : Objs} (ks : List Nat) (hT : TurnL objs 0 ks ks new) (hs : SubT objs 0 ks s s') (hid : idOK n0 ks objs = true := by exact rfl) (hnd : ks.Nodup := by decide) : Weaker nt n0 ⟨s, objs⟩ ⟨s', new⟩ := weaker_turnI ks hid hnd hT hs
theorem tt {n0 : Nat} {objs : Objs} {r0 r : AVal} {new : Objs} (ks : List Nat) (hT : TurnL objs 0 ks ks new) (hr : TurnV objs 0 ks r0 r) (hid : idOK n0 ks objs = true := by exact rfl) (hnd : ks.Nodup := by decide) : Told n0 r0 objs r new := told_turnI ks hid hnd hT hr
end

section
variable {m : List (Nat × Nat)}
theorem dv {y x : AVal} {ys xs : List AVal} (h : Dn m y x) (t : DnL m ys xs) : DnL m (y :: ys) (x :: xs) := .cons _ _ _ _ h t
theorem d1 {x : AVal} {ys xs : List AVal} (t : DnL m ys xs) (h : low2 x = true := by exact rfl) : DnL m (x :: ys) (x :: xs) := .cons _ _ _ _ (dn_low (low2_sound h)) t
theorem dl {x : AVal} {ys xs : List AVal} (h : Low 0 x) (t : DnL m ys xs) : DnL m (x :: ys) (x :: xs) := .cons _ _ _ _ (dn_low h) t
theorem dp {i o v k a b : Nat} {ys xs : List AVal} (t : DnL m ys xs) (h : m[i]? = some (o, v) := by exact rfl) : DnL m (.ptr i 0 k a b :: ys) (.ptr o v k a b :: xs) := .cons _ _ _ _ (dn_ptr h) t
theorem dO {Y X : AObj} {ys : Objs} {xs : List AObj} (h : DnO m Y X) (t : DnOs m ys xs) : DnOs m ((0, Y) :: ys) (X :: xs) := .cons _ _ _ _ h t
theorem ds {t : TypeId} {k : Nat} {c : List AVal} (h : LowL 0 c) : DnO m (.row t k [c]) (.row t k [c]) := .same _ (low_es1 h)
theorem dr {α : Type} {t : TypeId} {k : Nat} {c : α → List AVal} [h : LowC c] {l : List α} {es' : List (List AVal)} (e : es' = l.map c) : DnO m (.row t k (l.map c)) (.row t k es') := dn_row e (low_map (h.low 0))
theorem dc {t : TypeId} {k : Nat} {ys xs : List AVal} (h : DnL m ys xs) : DnO m (.row t k [ys]) (.row t k [xs]) := .row1 _ _ _ _ h
theorem rv {y x : AVal} {ys xs : List AVal} (h : Ren m y x) (t : RenL m ys xs) : RenL m (y :: ys) (x :: xs) := .cons _ _ _ _ h t
theorem r1 {x : AVal} {ys xs : List AVal} (t : RenL m ys xs) (h : low2 x = true := by exact rfl) : RenL m (x :: ys) (x :: xs) := .cons _ _ _ _ (.low _ (low2_sound h)) t
theorem rO {Y X : AObj} {ys : Objs} {xs : List AObj} (h : RenO m Y X) (t : RenOs m ys xs) : RenOs m ((0, Y) :: ys) (X :: xs) := .cons _ _ _ _ h t
theorem re {t : TypeId} {k : Nat} {c : List AVal} (h : LowL 0 c) : RenO m (.row t k [c]) (.row t k [c]) := .same _ (low_es1 h)
theorem rr {α : Type} {t : TypeId} {k : Nat} {c : α → List AVal} [h : LowC c] {l : List α} : RenO m (.row t k (l.map c)) (.row t k (l.map c)) := .same _ (low_map (h.low 0))
theorem rc {t : TypeId} {k : Nat} {ys xs : List AVal} (h : RenL m ys xs) : RenO m (.row t k [ys]) (.row t k [xs]) := .row1 _ _ _ _ h
theorem rx {x : AVal} (h : low2 x = true := by exact rfl) : Ren m x x := .low _ (low2_sound h)
theorem rp {i k a b : Nat} (o v : Nat) (h : m[i]? = some (o, v)) : Ren m (.ptr i 0 k a b) (.ptr o v k a b) := .ptr _ _ _ _ _ _ h
theorem rw_ {i k a b : Nat} (o v : Nat) (h : m[i]? = some (o, v)) : Ren m (.own i 0 k a b) (.own o v k a b) := .own _ _ _ _ _ _ h
end

theorem mv {P : Program} {f : FuncId} {args args1 : List AVal} {base objs base' : Objs} {n0 : Nat} {r rc : AVal} {xs : List AObj} (ks : List Nat) (h : AMoves P f args base n0 r base')
    (hin : DnOs (mIn ks objs) base (picks ks objs)) (hargs : DnL (mIn ks objs) args args1) (hout : RenOs (mOut ks n0 objs (base'.length - n0)) base' xs) (hr : Ren (mOut ks n0 objs (base'.length - n0)) r rc)
    (hnd : ks.Nodup := by decide) (hlt : (ks.all fun k => Nat.blt k objs.length) = true := by exact rfl) (hn0 : Nat.ble n0 ks.length = true := by exact rfl) (hn1 : Nat.ble n0 base'.length = true := by exact rfl) (hlive : allLive (picks ks objs) = true := by exact rfl) :
    ACalls P f args1 objs fun r' o' => r' = rc ∧ o' = moved ks n0 xs objs := AMoves.on ks h hnd hlt hn0 hn1 hin hlive hargs hout hr

section
variable {objs : Objs}
theorem ev {x y : AVal} {xs ys : List AVal} (h : Seen objs x y) (t : SeenL objs xs ys) : SeenL objs (x :: xs) (y :: ys) := .cons _ _ _ _ h t
theorem e1 {x : AVal} {xs ys : List AVal} (t : SeenL objs xs ys) : SeenL objs (x :: xs) (x :: ys) := .cons _ _ _ _ (Seen.refl _ _) t
theorem av {x y : AVal} {xs ys : List AVal} (h : AsA x y) (t : AsL xs ys) : AsL (x :: xs) (y :: ys) := .cons _ _ _ _ h t
theorem a1 {x : AVal} {xs ys : List AVal} (t : AsL xs ys) : AsL (x :: xs) (x :: ys) := .cons _ _ _ _ (AsA.refl _) t
end
end Go.Fw

namespace Go.Fw
set_option linter.unusedSimpArgs false
set_option linter.unusedVariables false
open Go.RowKit

def LoopI1 {A0 : Type} (inv : A0 → Prop) (ms : A0 → Nat) (sl : A0 → List (Nat × AVal)) (ob : A0 → Objs) : Nat → List (Nat × AVal) → Objs → Prop := fun m s o => ∃ x0, inv x0 ∧ m = ms x0 ∧ s = sl x0 ∧ o = ob x0
theorem loop_next1 {A0 : Type} {inv : A0 → Prop} {ms : A0 → Nat} {sl : A0 → List (Nat × AVal)} {ob : A0 → Objs} {nt n0 m : Nat} {s : St} (x0 : A0) (hw : Weaker nt n0 s ⟨sl x0, ob x0⟩) (hlt : ms x0 < m) (hi : inv x0) : ∃ m' s'' o'', m' < m ∧ Weaker nt n0 s ⟨s'', o''⟩ ∧ LoopI1 inv ms sl ob m' s'' o'' := ⟨_, _, _, hlt, hw, x0, hi, rfl, rfl, rfl⟩
theorem loop_start1 {A0 : Type} (inv : A0 → Prop) (ms : A0 → Nat) (sl : A0 → List (Nat × AVal)) (ob : A0 → Objs) (x0 : A0) {nt n0 : Nat} {s : St} {B : (Nat → List (Nat × AVal) → Objs → Prop) → Nat → List (Nat × AVal) → Objs → Prop} (hw : Weaker nt n0 s ⟨sl x0, ob x0⟩) (hi : inv x0) (hb : ∀ x0, inv x0 → B (LoopI1 inv ms sl ob) (ms x0) (sl x0) (ob x0)) : ∃ I n s1 o1, Weaker nt n0 s ⟨s1, o1⟩ ∧ I n s1 o1 ∧ ∀ m s o, I m s o → B I m s o :=
  ⟨LoopI1 inv ms sl ob, _, _, _, hw, ⟨x0, hi, rfl, rfl, rfl⟩, by rintro _ _ _ ⟨x0, hy, rfl, rfl, rfl⟩; exact hb x0 hy⟩
def JoinI1 {A0 : Type} (inv : A0 → Prop) (sl : A0 → List (Nat × AVal)) (ob : A0 → Objs) : List (Nat × AVal) → Objs → Prop := fun s o => ∃ x0, inv x0 ∧ s = sl x0 ∧ o = ob x0
theorem join_here1 {A0 : Type} {inv : A0 → Prop} {sl : A0 → List (Nat × AVal)} {ob : A0 → Objs} {nt n0 : Nat} {s : St} (x0 : A0) (hw : Weaker nt n0 s ⟨sl x0, ob x0⟩) (hi : inv x0) : ∃ s'' o'', Weaker nt n0 s ⟨s'', o''⟩ ∧ JoinI1 inv sl ob s'' o'' := ⟨_, _, hw, x0, hi, rfl, rfl⟩
theorem join_start1 {A0 : Type} (inv : A0 → Prop) (sl : A0 → List (Nat × AVal)) (ob : A0 → Objs) {B : List (Nat × AVal) → Objs → Prop} {A : (List (Nat × AVal) → Objs → Prop) → Prop} (hb : ∀ x0, inv x0 → B (sl x0) (ob x0)) (ha : A (JoinI1 inv sl ob)) : ∃ J, (∀ s o, J s o → B s o) ∧ A J := ⟨JoinI1 inv sl ob, by rintro _ _ ⟨x0, hy, rfl, rfl⟩; exact hb x0 hy, ha⟩
def LoopI2 {A0 A1 : Type} (inv : A0 → A1 → Prop) (ms : A0 → A1 → Nat) (sl : A0 → A1 → List (Nat × AVal)) (ob : A0 → A1 → Objs) : Nat → List (Nat × AVal) → Objs → Prop := fun m s o => ∃ x0 x1, inv x0 x1 ∧ m = ms x0 x1 ∧ s = sl x0 x1 ∧ o = ob x0 x1
theorem loop_next2 {A0 A1 : Type} {inv : A0 → A1 → Prop} {ms : A0 → A1 → Nat} {sl : A0 → A1 → List (Nat × AVal)} {ob : A0 → A1 → Objs} {nt n0 m : Nat} {s : St} (x0 : A0) (x1 : A1) (hw : Weaker nt n0 s ⟨sl x0 x1, ob x0 x1⟩) (hlt : ms x0 x1 < m) (hi : inv x0 x1) : ∃ m' s'' o'', m' < m ∧ Weaker nt n0 s ⟨s'', o''⟩ ∧ LoopI2 inv ms sl ob m' s'' o'' := ⟨_, _, _, hlt, hw, x0, x1, hi, rfl, rfl, rfl⟩
theorem loop_start2 {A0 A1 : Type} (inv : A0 → A1 → Prop) (ms : A0 → A1 → Nat) (sl : A0 → A1 → List (Nat × AVal)) (ob : A0 → A1 → Objs) (x0 : A0) (x1 : A1) {nt n0 : Nat} {s : St} {B : (Nat → List (Nat × AVal) → Objs → Prop) → Nat → List (Nat × AVal) → Objs → Prop} (hw : Weaker nt n0 s ⟨sl x0 x1, ob x0 x1⟩) (hi : inv x0 x1) (hb : ∀ x0 x1, inv x0 x1 → B (LoopI2 inv ms sl ob) (ms x0 x1) (sl x0 x1) (ob x0 x1)) : ∃ I n s1 o1, Weaker nt n0 s ⟨s1, o1⟩ ∧ I n s1 o1 ∧ ∀ m s o, I m s o → B I m s o :=
  ⟨LoopI2 inv ms sl ob, _, _, _, hw, ⟨x0, x1, hi, rfl, rfl, rfl⟩, by rintro _ _ _ ⟨x0, x1, hy, rfl, rfl, rfl⟩; exact hb x0 x1 hy⟩
def JoinI2 {A0 A1 : Type} (inv : A0 → A1 → Prop) (sl : A0 → A1 → List (Nat × AVal)) (ob : A0 → A1 → Objs) : List (Nat × AVal) → Objs → Prop := fun s o => ∃ x0 x1, inv x0 x1 ∧ s = sl x0 x1 ∧ o = ob x0 x1
theorem join_here2 {A0 A1 : Type} {inv : A0 → A1 → Prop} {sl : A0 → A1 → List (Nat × AVal)} {ob : A0 → A1 → Objs} {nt n0 : Nat} {s : St} (x0 : A0) (x1 : A1) (hw : Weaker nt n0 s ⟨sl x0 x1, ob x0 x1⟩) (hi : inv x0 x1) : ∃ s'' o'', Weaker nt n0 s ⟨s'', o''⟩ ∧ JoinI2 inv sl ob s'' o'' := ⟨_, _, hw, x0, x1, hi, rfl, rfl⟩
theorem join_start2 {A0 A1 : Type} (inv : A0 → A1 → Prop) (sl : A0 → A1 → List (Nat × AVal)) (ob : A0 → A1 → Objs) {B : List (Nat × AVal) → Objs → Prop} {A : (List (Nat × AVal) → Objs → Prop) → Prop} (hb : ∀ x0 x1, inv x0 x1 → B (sl x0 x1) (ob x0 x1)) (ha : A (JoinI2 inv sl ob)) : ∃ J, (∀ s o, J s o → B s o) ∧ A J := ⟨JoinI2 inv sl ob, by rintro _ _ ⟨x0, x1, hy, rfl, rfl⟩; exact hb x0 x1 hy, ha⟩
def LoopI3 {A0 A1 A2 : Type} (inv : A0 → A1 → A2 → Prop) (ms : A0 → A1 → A2 → Nat) (sl : A0 → A1 → A2 → List (Nat × AVal)) (ob : A0 → A1 → A2 → Objs) : Nat → List (Nat × AVal) → Objs → Prop := fun m s o => ∃ x0 x1 x2, inv x0 x1 x2 ∧ m = ms x0 x1 x2 ∧ s = sl x0 x1 x2 ∧ o = ob x0 x1 x2
theorem loop_next3 {A0 A1 A2 : Type} {inv : A0 → A1 → A2 → Prop} {ms : A0 → A1 → A2 → Nat} {sl : A0 → A1 → A2 → List (Nat × AVal)} {ob : A0 → A1 → A2 → Objs} {nt n0 m : Nat} {s : St} (x0 : A0) (x1 : A1) (x2 : A2) (hw : Weaker nt n0 s ⟨sl x0 x1 x2, ob x0 x1 x2⟩) (hlt : ms x0 x1 x2 < m) (hi : inv x0 x1 x2) : ∃ m' s'' o'', m' < m ∧ Weaker nt n0 s ⟨s'', o''⟩ ∧ LoopI3 inv ms sl ob m' s'' o'' := ⟨_, _, _, hlt, hw, x0, x1, x2, hi, rfl, rfl, rfl⟩
theorem loop_start3 {A0 A1 A2 : Type} (inv : A0 → A1 → A2 → Prop) (ms : A0 → A1 → A2 → Nat) (sl : A0 → A1 → A2 → List (Nat × AVal)) (ob : A0 → A1 → A2 → Objs) (x0 : A0) (x1 : A1) (x2 : A2) {nt n0 : Nat} {s : St} {B : (Nat → List (Nat × AVal) → Objs → Prop) → Nat → List (Nat × AVal) → Objs → Prop} (hw : Weaker nt n0 s ⟨sl x0 x1 x2, ob x0 x1 x2⟩) (hi : inv x0 x1 x2) (hb : ∀ x0 x1 x2, inv x0 x1 x2 → B (LoopI3 inv ms sl ob) (ms x0 x1 x2) (sl x0 x1 x2) (ob x0 x1 x2)) : ∃ I n s1 o1, Weaker nt n0 s ⟨s1, o1⟩ ∧ I n s1 o1 ∧ ∀ m s o, I m s o → B I m s o :=
  ⟨LoopI3 inv ms sl ob, _, _, _, hw, ⟨x0, x1, x2, hi, rfl, rfl, rfl⟩, by rintro _ _ _ ⟨x0, x1, x2, hy, rfl, rfl, rfl⟩; exact hb x0 x1 x2 hy⟩
def JoinI3 {A0 A1 A2 : Type} (inv : A0 → A1 → A2 → Prop) (sl : A0 → A1 → A2 → List (Nat × AVal)) (ob : A0 → A1 → A2 → Objs) : List (Nat × AVal) → Objs → Prop := fun s o => ∃ x0 x1 x2, inv x0 x1 x2 ∧ s = sl x0 x1 x2 ∧ o = ob x0 x1 x2
theorem join_here3 {A0 A1 A2 : Type} {inv : A0 → A1 → A2 → Prop} {sl : A0 → A1 → A2 → List (Nat × AVal)} {ob : A0 → A1 → A2 → Objs} {nt n0 : Nat} {s : St} (x0 : A0) (x1 : A1) (x2 : A2) (hw : Weaker nt n0 s ⟨sl x0 x1 x2, ob x0 x1 x2⟩) (hi : inv x0 x1 x2) : ∃ s'' o'', Weaker nt n0 s ⟨s'', o''⟩ ∧ JoinI3 inv sl ob s'' o'' := ⟨_, _, hw, x0, x1, x2, hi, rfl, rfl⟩
theorem join_start3 {A0 A1 A2 : Type} (inv : A0 → A1 → A2 → Prop) (sl : A0 → A1 → A2 → List (Nat × AVal)) (ob : A0 → A1 → A2 → Objs) {B : List (Nat × AVal) → Objs → Prop} {A : (List (Nat × AVal) → Objs → Prop) → Prop} (hb : ∀ x0 x1 x2, inv x0 x1 x2 → B (sl x0 x1 x2) (ob x0 x1 x2)) (ha : A (JoinI3 inv sl ob)) : ∃ J, (∀ s o, J s o → B s o) ∧ A J := ⟨JoinI3 inv sl ob, by rintro _ _ ⟨x0, x1, x2, hy, rfl, rfl⟩; exact hb x0 x1 x2 hy, ha⟩
def LoopI4 {A0 A1 A2 A3 : Type} (inv : A0 → A1 → A2 → A3 → Prop) (ms : A0 → A1 → A2 → A3 → Nat) (sl : A0 → A1 → A2 → A3 → List (Nat × AVal)) (ob : A0 → A1 → A2 → A3 → Objs) : Nat → List (Nat × AVal) → Objs → Prop := fun m s o => ∃ x0 x1 x2 x3, inv x0 x1 x2 x3 ∧ m = ms x0 x1 x2 x3 ∧ s = sl x0 x1 x2 x3 ∧ o = ob x0 x1 x2 x3
theorem loop_next4 {A0 A1 A2 A3 : Type} {inv : A0 → A1 → A2 → A3 → Prop} {ms : A0 → A1 → A2 → A3 → Nat} {sl : A0 → A1 → A2 → A3 → List (Nat × AVal)} {ob : A0 → A1 → A2 → A3 → Objs} {nt n0 m : Nat} {s : St} (x0 : A0) (x1 : A1) (x2 : A2) (x3 : A3) (hw : Weaker nt n0 s ⟨sl x0 x1 x2 x3, ob x0 x1 x2 x3⟩) (hlt : ms x0 x1 x2 x3 < m) (hi : inv x0 x1 x2 x3) : ∃ m' s'' o'', m' < m ∧ Weaker nt n0 s ⟨s'', o''⟩ ∧ LoopI4 inv ms sl ob m' s'' o'' := ⟨_, _, _, hlt, hw, x0, x1, x2, x3, hi, rfl, rfl, rfl⟩
theorem loop_start4 {A0 A1 A2 A3 : Type} (inv : A0 → A1 → A2 → A3 → Prop) (ms : A0 → A1 → A2 → A3 → Nat) (sl : A0 → A1 → A2 → A3 → List (Nat × AVal)) (ob : A0 → A1 → A2 → A3 → Objs) (x0 : A0) (x1 : A1) (x2 : A2) (x3 : A3) {nt n0 : Nat} {s : St} {B : (Nat → List (Nat × AVal) → Objs → Prop) → Nat → List (Nat × AVal) → Objs → Prop} (hw : Weaker nt n0 s ⟨sl x0 x1 x2 x3, ob x0 x1 x2 x3⟩) (hi : inv x0 x1 x2 x3) (hb : ∀ x0 x1 x2 x3, inv x0 x1 x2 x3 → B (LoopI4 inv ms sl ob) (ms x0 x1 x2 x3) (sl x0 x1 x2 x3) (ob x0 x1 x2 x3)) : ∃ I n s1 o1, Weaker nt n0 s ⟨s1, o1⟩ ∧ I n s1 o1 ∧ ∀ m s o, I m s o → B I m s o :=
  ⟨LoopI4 inv ms sl ob, _, _, _, hw, ⟨x0, x1, x2, x3, hi, rfl, rfl, rfl⟩, by rintro _ _ _ ⟨x0, x1, x2, x3, hy, rfl, rfl, rfl⟩; exact hb x0 x1 x2 x3 hy⟩
def JoinI4 {A0 A1 A2 A3 : Type} (inv : A0 → A1 → A2 → A3 → Prop) (sl : A0 → A1 → A2 → A3 → List (Nat × AVal)) (ob : A0 → A1 → A2 → A3 → Objs) : List (Nat × AVal) → Objs → Prop := fun s o => ∃ x0 x1 x2 x3, inv x0 x1 x2 x3 ∧ s = sl x0 x1 x2 x3 ∧ o = ob x0 x1 x2 x3
theorem join_here4 {A0 A1 A2 A3 : Type} {inv : A0 → A1 → A2 → A3 → Prop} {sl : A0 → A1 → A2 → A3 → List (Nat × AVal)} {ob : A0 → A1 → A2 → A3 → Objs} {nt n0 : Nat} {s : St} (x0 : A0) (x1 : A1) (x2 : A2) (x3 : A3) (hw : Weaker nt n0 s ⟨sl x0 x1 x2 x3, ob x0 x1 x2 x3⟩) (hi : inv x0 x1 x2 x3) : ∃ s'' o'', Weaker nt n0 s ⟨s'', o''⟩ ∧ JoinI4 inv sl ob s'' o'' := ⟨_, _, hw, x0, x1, x2, x3, hi, rfl, rfl⟩
theorem join_start4 {A0 A1 A2 A3 : Type} (inv : A0 → A1 → A2 → A3 → Prop) (sl : A0 → A1 → A2 → A3 → List (Nat × AVal)) (ob : A0 → A1 → A2 → A3 → Objs) {B : List (Nat × AVal) → Objs → Prop} {A : (List (Nat × AVal) → Objs → Prop) → Prop} (hb : ∀ x0 x1 x2 x3, inv x0 x1 x2 x3 → B (sl x0 x1 x2 x3) (ob x0 x1 x2 x3)) (ha : A (JoinI4 inv sl ob)) : ∃ J, (∀ s o, J s o → B s o) ∧ A J := ⟨JoinI4 inv sl ob, by rintro _ _ ⟨x0, x1, x2, x3, hy, rfl, rfl⟩; exact hb x0 x1 x2 x3 hy, ha⟩
def LoopI5 {A0 A1 A2 A3 A4 : Type} (inv : A0 → A1 → A2 → A3 → A4 → Prop) (ms : A0 → A1 → A2 → A3 → A4 → Nat) (sl : A0 → A1 → A2 → A3 → A4 → List (Nat × AVal)) (ob : A0 → A1 → A2 → A3 → A4 → Objs) : Nat → List (Nat × AVal) → Objs → Prop := fun m s o => ∃ x0 x1 x2 x3 x4, inv x0 x1 x2 x3 x4 ∧ m = ms x0 x1 x2 x3 x4 ∧ s = sl x0 x1 x2 x3 x4 ∧ o = ob x0 x1 x2 x3 x4
theorem loop_next5 {A0 A1 A2 A3 A4 : Type} {inv : A0 → A1 → A2 → A3 → A4 → Prop} {ms : A0 → A1 → A2 → A3 → A4 → Nat} {sl : A0 → A1 → A2 → A3 → A4 → List (Nat × AVal)} {ob : A0 → A1 → A2 → A3 → A4 → Objs} {nt n0 m : Nat} {s : St} (x0 : A0) (x1 : A1) (x2 : A2) (x3 : A3) (x4 : A4) (hw : Weaker nt n0 s ⟨sl x0 x1 x2 x3 x4, ob x0 x1 x2 x3 x4⟩) (hlt : ms x0 x1 x2 x3 x4 < m) (hi : inv x0 x1 x2 x3 x4) : ∃ m' s'' o'', m' < m ∧ Weaker nt n0 s ⟨s'', o''⟩ ∧ LoopI5 inv ms sl ob m' s'' o'' := ⟨_, _, _, hlt, hw, x0, x1, x2, x3, x4, hi, rfl, rfl, rfl⟩
theorem loop_start5 {A0 A1 A2 A3 A4 : Type} (inv : A0 → A1 → A2 → A3 → A4 → Prop) (ms : A0 → A1 → A2 → A3 → A4 → Nat) (sl : A0 → A1 → A2 → A3 → A4 → List (Nat × AVal)) (ob : A0 → A1 → A2 → A3 → A4 → Objs) (x0 : A0) (x1 : A1) (x2 : A2) (x3 : A3) (x4 : A4) {nt n0 : Nat} {s : St} {B : (Nat → List (Nat × AVal) → Objs → Prop) → Nat → List (Nat × AVal) → Objs → Prop} (hw : Weaker nt n0 s ⟨sl x0 x1 x2 x3 x4, ob x0 x1 x2 x3 x4⟩) (hi : inv x0 x1 x2 x3 x4) (hb : ∀ x0 x1 x2 x3 x4, inv x0 x1 x2 x3 x4 → B (LoopI5 inv ms sl ob) (ms x0 x1 x2 x3 x4) (sl x0 x1 x2 x3 x4) (ob x0 x1 x2 x3 x4)) : ∃ I n s1 o1, Weaker nt n0 s ⟨s1, o1⟩ ∧ I n s1 o1 ∧ ∀ m s o, I m s o → B I m s o :=
  ⟨LoopI5 inv ms sl ob, _, _, _, hw, ⟨x0, x1, x2, x3, x4, hi, rfl, rfl, rfl⟩, by rintro _ _ _ ⟨x0, x1, x2, x3, x4, hy, rfl, rfl, rfl⟩; exact hb x0 x1 x2 x3 x4 hy⟩
def JoinI5 {A0 A1 A2 A3 A4 : Type} (inv : A0 → A1 → A2 → A3 → A4 → Prop) (sl : A0 → A1 → A2 → A3 → A4 → List (Nat × AVal)) (ob : A0 → A1 → A2 → A3 → A4 → Objs) : List (Nat × AVal) → Objs → Prop := fun s o => ∃ x0 x1 x2 x3 x4, inv x0 x1 x2 x3 x4 ∧ s = sl x0 x1 x2 x3 x4 ∧ o = ob x0 x1 x2 x3 x4
theorem join_here5 {A0 A1 A2 A3 A4 : Type} {inv : A0 → A1 → A2 → A3 → A4 → Prop} {sl : A0 → A1 → A2 → A3 → A4 → List (Nat × AVal)} {ob : A0 → A1 → A2 → A3 → A4 → Objs} {nt n0 : Nat} {s : St} (x0 : A0) (x1 : A1) (x2 : A2) (x3 : A3) (x4 : A4) (hw : Weaker nt n0 s ⟨sl x0 x1 x2 x3 x4, ob x0 x1 x2 x3 x4⟩) (hi : inv x0 x1 x2 x3 x4) : ∃ s'' o'', Weaker nt n0 s ⟨s'', o''⟩ ∧ JoinI5 inv sl ob s'' o'' := ⟨_, _, hw, x0, x1, x2, x3, x4, hi, rfl, rfl⟩
theorem join_start5 {A0 A1 A2 A3 A4 : Type} (inv : A0 → A1 → A2 → A3 → A4 → Prop) (sl : A0 → A1 → A2 → A3 → A4 → List (Nat × AVal)) (ob : A0 → A1 → A2 → A3 → A4 → Objs) {B : List (Nat × AVal) → Objs → Prop} {A : (List (Nat × AVal) → Objs → Prop) → Prop} (hb : ∀ x0 x1 x2 x3 x4, inv x0 x1 x2 x3 x4 → B (sl x0 x1 x2 x3 x4) (ob x0 x1 x2 x3 x4)) (ha : A (JoinI5 inv sl ob)) : ∃ J, (∀ s o, J s o → B s o) ∧ A J := ⟨JoinI5 inv sl ob, by rintro _ _ ⟨x0, x1, x2, x3, x4, hy, rfl, rfl⟩; exact hb x0 x1 x2 x3 x4 hy, ha⟩
def LoopI6 {A0 A1 A2 A3 A4 A5 : Type} (inv : A0 → A1 → A2 → A3 → A4 → A5 → Prop) (ms : A0 → A1 → A2 → A3 → A4 → A5 → Nat) (sl : A0 → A1 → A2 → A3 → A4 → A5 → List (Nat × AVal)) (ob : A0 → A1 → A2 → A3 → A4 → A5 → Objs) : Nat → List (Nat × AVal) → Objs → Prop := fun m s o => ∃ x0 x1 x2 x3 x4 x5, inv x0 x1 x2 x3 x4 x5 ∧ m = ms x0 x1 x2 x3 x4 x5 ∧ s = sl x0 x1 x2 x3 x4 x5 ∧ o = ob x0 x1 x2 x3 x4 x5
theorem loop_next6 {A0 A1 A2 A3 A4 A5 : Type} {inv : A0 → A1 → A2 → A3 → A4 → A5 → Prop} {ms : A0 → A1 → A2 → A3 → A4 → A5 → Nat} {sl : A0 → A1 → A2 → A3 → A4 → A5 → List (Nat × AVal)} {ob : A0 → A1 → A2 → A3 → A4 → A5 → Objs} {nt n0 m : Nat} {s : St} (x0 : A0) (x1 : A1) (x2 : A2) (x3 : A3) (x4 : A4) (x5 : A5) (hw : Weaker nt n0 s ⟨sl x0 x1 x2 x3 x4 x5, ob x0 x1 x2 x3 x4 x5⟩) (hlt : ms x0 x1 x2 x3 x4 x5 < m) (hi : inv x0 x1 x2 x3 x4 x5) : ∃ m' s'' o'', m' < m ∧ Weaker nt n0 s ⟨s'', o''⟩ ∧ LoopI6 inv ms sl ob m' s'' o'' := ⟨_, _, _, hlt, hw, x0, x1, x2, x3, x4, x5, hi, rfl, rfl, rfl⟩
theorem loop_start6 {A0 A1 A2 A3 A4 A5 : Type} (inv : A0 → A1 → A2 → A3 → A4 → A5 → Prop) (ms : A0 → A1 → A2 → A3 → A4 → A5 → Nat) (sl : A0 → A1 → A2 → A3 → A4 → A5 → List (Nat × AVal)) (ob : A0 → A1 → A2 → A3 → A4 → A5 → Objs) (x0 : A0) (x1 : A1) (x2 : A2) (x3 : A3) (x4 : A4) (x5 : A5) {nt n0 : Nat} {s : St} {B : (Nat → List (Nat × AVal) → Objs → Prop) → Nat → List (Nat × AVal) → Objs → Prop} (hw : Weaker nt n0 s ⟨sl x0 x1 x2 x3 x4 x5, ob x0 x1 x2 x3 x4 x5⟩) (hi : inv x0 x1 x2 x3 x4 x5) (hb : ∀ x0 x1 x2 x3 x4 x5, inv x0 x1 x2 x3 x4 x5 → B (LoopI6 inv ms sl ob) (ms x0 x1 x2 x3 x4 x5) (sl x0 x1 x2 x3 x4 x5) (ob x0 x1 x2 x3 x4 x5)) : ∃ I n s1 o1, Weaker nt n0 s ⟨s1, o1⟩ ∧ I n s1 o1 ∧ ∀ m s o, I m s o → B I m s o :=
  ⟨LoopI6 inv ms sl ob, _, _, _, hw, ⟨x0, x1, x2, x3, x4, x5, hi, rfl, rfl, rfl⟩, by rintro _ _ _ ⟨x0, x1, x2, x3, x4, x5, hy, rfl, rfl, rfl⟩; exact hb x0 x1 x2 x3 x4 x5 hy⟩
def JoinI6 {A0 A1 A2 A3 A4 A5 : Type} (inv : A0 → A1 → A2 → A3 → A4 → A5 → Prop) (sl : A0 → A1 → A2 → A3 → A4 → A5 → List (Nat × AVal)) (ob : A0 → A1 → A2 → A3 → A4 → A5 → Objs) : List (Nat × AVal) → Objs → Prop := fun s o => ∃ x0 x1 x2 x3 x4 x5, inv x0 x1 x2 x3 x4 x5 ∧ s = sl x0 x1 x2 x3 x4 x5 ∧ o = ob x0 x1 x2 x3 x4 x5
theorem join_here6 {A0 A1 A2 A3 A4 A5 : Type} {inv : A0 → A1 → A2 → A3 → A4 → A5 → Prop} {sl : A0 → A1 → A2 → A3 → A4 → A5 → List (Nat × AVal)} {ob : A0 → A1 → A2 → A3 → A4 → A5 → Objs} {nt n0 : Nat} {s : St} (x0 : A0) (x1 : A1) (x2 : A2) (x3 : A3) (x4 : A4) (x5 : A5) (hw : Weaker nt n0 s ⟨sl x0 x1 x2 x3 x4 x5, ob x0 x1 x2 x3 x4 x5⟩) (hi : inv x0 x1 x2 x3 x4 x5) : ∃ s'' o'', Weaker nt n0 s ⟨s'', o''⟩ ∧ JoinI6 inv sl ob s'' o'' := ⟨_, _, hw, x0, x1, x2, x3, x4, x5, hi, rfl, rfl⟩
theorem join_start6 {A0 A1 A2 A3 A4 A5 : Type} (inv : A0 → A1 → A2 → A3 → A4 → A5 → Prop) (sl : A0 → A1 → A2 → A3 → A4 → A5 → List (Nat × AVal)) (ob : A0 → A1 → A2 → A3 → A4 → A5 → Objs) {B : List (Nat × AVal) → Objs → Prop} {A : (List (Nat × AVal) → Objs → Prop) → Prop} (hb : ∀ x0 x1 x2 x3 x4 x5, inv x0 x1 x2 x3 x4 x5 → B (sl x0 x1 x2 x3 x4 x5) (ob x0 x1 x2 x3 x4 x5)) (ha : A (JoinI6 inv sl ob)) : ∃ J, (∀ s o, J s o → B s o) ∧ A J := ⟨JoinI6 inv sl ob, by rintro _ _ ⟨x0, x1, x2, x3, x4, x5, hy, rfl, rfl⟩; exact hb x0 x1 x2 x3 x4 x5 hy, ha⟩
end Go.Fw

namespace Go.Proofs.YtalhamokkblnjaaGreatDoor
set_option linter.unusedSimpArgs false
set_option linter.unusedVariables false
open Go.Fw

def ints (l : List Int) : AVal := listA 1 (fun n => [I n]) 0 l
theorem ints_low (l : List Int) (n : Nat) : Low n (ints l) := listA_low fun _ => rfl
def bytes (l : List Int) : AVal := listA 1 (fun n => [Y n]) 0 l
theorem bytes_low (l : List Int) (n : Nat) : Low n (bytes l) := listA_low fun _ => rfl
def runes (l : List Int) : AVal := listA 1 (fun n => [J n]) 0 l
theorem runes_low (l : List Int) (n : Nat) : Low n (runes l) := listA_low fun _ => rfl
def texts (l : List ByteArray) : AVal := listA 1 (fun n => [Sg n]) ⟨#[]⟩ l
theorem texts_low (l : List ByteArray) (n : Nat) : Low n (texts l) := listA_low fun _ => rfl
structure Alt where
  nodes : Int
  wall : Int
  deriving DecidableEq
def Alt.zero : Alt := ⟨0, 0⟩
def Alt.cells (x : Alt) : List AVal := [I x.nodes, I x.wall]
def Alt.a (x : Alt) : AVal := .agg x.cells
def altL (l : List Alt) : AVal := listA 2 Alt.cells .zero l
theorem Alt.lo {n : Nat} {a0 a1 : Int} : LowL n [I a0, I a1] := l1 (l1 (.nil))
theorem Alt.lowc (x : Alt) (n : Nat) : LowL n x.cells := Alt.lo
instance : LowC Alt.cells := ⟨fun n x => x.lowc n⟩
theorem Alt.low (x : Alt) (n : Nat) : Low n x.a := .agg' (x.lowc n)
theorem Alt.lows (l : List Alt) (n : Nat) : Low n (altL l) := listA_low' fun x => x.lowc n

structure Shape where
  kind : Int
  alts : List Alt
  min : Int
  max : Int
  wall : Int
  deriving DecidableEq
def Shape.zero : Shape := ⟨0, [], 0, 0, 0⟩
def Shape.cells (x : Shape) : List AVal := [I x.kind, altL x.alts, I x.min, I x.max, I x.wall]
def Shape.a (x : Shape) : AVal := .agg x.cells
def shapeL (l : List Shape) : AVal := listA 5 Shape.cells .zero l
theorem Shape.lo {n : Nat} {a0 a2 a3 a4 : Int} {a1 : List Alt} : LowL n [I a0, altL a1, I a2, I a3, I a4] := l1 (lv (Alt.lows _ _) (l1 (l1 (l1 (.nil)))))
theorem Shape.lowc (x : Shape) (n : Nat) : LowL n x.cells := Shape.lo
instance : LowC Shape.cells := ⟨fun n x => x.lowc n⟩
theorem Shape.low (x : Shape) (n : Nat) : Low n x.a := .agg' (x.lowc n)
theorem Shape.lows (l : List Shape) (n : Nat) : Low n (shapeL l) := listA_low' fun x => x.lowc n
def Shape.szN (N : Nat) (x : Shape) : Prop := x.alts.length ≤ N
abbrev Shape.sz (x : Shape) : Prop := x.szN 4294967296
abbrev Shape.szM (x : Shape) : Prop := x.szN 9223372036854775807
theorem Shape.szz (N : Nat) : Shape.zero.szN N := by simp [Shape.szN, Shape.zero, ByteArray.size]

structure Dep where
  how : Int
  job : Int
  deriving DecidableEq
def Dep.zero : Dep := ⟨0, 0⟩
def Dep.cells (x : Dep) : List AVal := [I x.how, I x.job]
def Dep.a (x : Dep) : AVal := .agg x.cells
def depL (l : List Dep) : AVal := listA 2 Dep.cells .zero l
theorem Dep.lo {n : Nat} {a0 a1 : Int} : LowL n [I a0, I a1] := l1 (l1 (.nil))
theorem Dep.lowc (x : Dep) (n : Nat) : LowL n x.cells := Dep.lo
instance : LowC Dep.cells := ⟨fun n x => x.lowc n⟩
theorem Dep.low (x : Dep) (n : Nat) : Low n x.a := .agg' (x.lowc n)
theorem Dep.lows (l : List Dep) (n : Nat) : Low n (depL l) := listA_low' fun x => x.lowc n

structure Token where
  kind : Int
  text : ByteArray
  num : Int
  at_ : Int
  deriving DecidableEq
def Token.zero : Token := ⟨0, ⟨#[]⟩, 0, 0⟩
def Token.cells (x : Token) : List AVal := [I x.kind, Sg x.text, I x.num, I x.at_]
def Token.a (x : Token) : AVal := .agg x.cells
def tokenL (l : List Token) : AVal := listA 4 Token.cells .zero l
theorem Token.lo {n : Nat} {a0 a2 a3 : Int} {a1 : ByteArray} : LowL n [I a0, Sg a1, I a2, I a3] := l1 (l1 (l1 (l1 (.nil))))
theorem Token.lowc (x : Token) (n : Nat) : LowL n x.cells := Token.lo
instance : LowC Token.cells := ⟨fun n x => x.lowc n⟩
theorem Token.low (x : Token) (n : Nat) : Low n x.a := .agg' (x.lowc n)
theorem Token.lows (l : List Token) (n : Nat) : Low n (tokenL l) := listA_low' fun x => x.lowc n
def Token.szN (N : Nat) (x : Token) : Prop := x.text.size ≤ N
abbrev Token.sz (x : Token) : Prop := x.szN 4294967296
abbrev Token.szM (x : Token) : Prop := x.szN 9223372036854775807
theorem Token.szz (N : Nat) : Token.zero.szN N := by simp [Token.szN, Token.zero, ByteArray.size]

structure Cmd where
  kind : Int
  job : Int
  name : ByteArray
  user : ByteArray
  account : ByteArray
  shape : Shape
  prio : Int
  hasPrio : Bool
  time : Int
  hasTime : Bool
  after : List Dep
  node : Int
  nodes : Int
  from_ : Int
  deriving DecidableEq
def Cmd.zero : Cmd := ⟨0, 0, ⟨#[]⟩, ⟨#[]⟩, ⟨#[]⟩, Shape.zero, 0, false, 0, false, [], 0, 0, 0⟩
def Cmd.cells (x : Cmd) : List AVal := [I x.kind, I x.job, Sg x.name, Sg x.user, Sg x.account, I x.shape.kind, altL x.shape.alts, I x.shape.min, I x.shape.max, I x.shape.wall, I x.prio, Bo x.hasPrio, I x.time, Bo x.hasTime, depL x.after, I x.node, I x.nodes, I x.from_]
def Cmd.a (x : Cmd) : AVal := .agg x.cells
def cmdL (l : List Cmd) : AVal := listA 18 Cmd.cells .zero l
theorem Cmd.lo {n : Nat} {a0 a1 a5 a7 a8 a9 a10 a12 a15 a16 a17 : Int} {a2 a3 a4 : ByteArray} {a6 : List Alt} {a11 a13 : Bool} {a14 : List Dep} : LowL n [I a0, I a1, Sg a2, Sg a3, Sg a4, I a5, altL a6, I a7, I a8, I a9, I a10, Bo a11, I a12, Bo a13, depL a14, I a15, I a16, I a17] := l1 (l1 (l1 (l1 (l1 (l1 (lv (Alt.lows _ _) (l1 (l1 (l1 (l1 (l1 (l1 (l1 (lv (Dep.lows _ _) (l1 (l1 (l1 (.nil))))))))))))))))))
theorem Cmd.lowc (x : Cmd) (n : Nat) : LowL n x.cells := Cmd.lo
instance : LowC Cmd.cells := ⟨fun n x => x.lowc n⟩
theorem Cmd.low (x : Cmd) (n : Nat) : Low n x.a := .agg' (x.lowc n)
theorem Cmd.lows (l : List Cmd) (n : Nat) : Low n (cmdL l) := listA_low' fun x => x.lowc n
def Cmd.szN (N : Nat) (x : Cmd) : Prop := x.name.size ≤ N ∧ x.user.size ≤ N ∧ x.account.size ≤ N ∧ x.shape.szN N ∧ x.after.length ≤ N
abbrev Cmd.sz (x : Cmd) : Prop := x.szN 4294967296
abbrev Cmd.szM (x : Cmd) : Prop := x.szN 9223372036854775807
theorem Cmd.szz (N : Nat) : Cmd.zero.szN N := by simp [Cmd.szN, Cmd.zero, ByteArray.size, Shape.szN, Shape.zero]

structure Step where
  at_ : Int
  free : Int
  deriving DecidableEq
def Step.zero : Step := ⟨0, 0⟩
def Step.cells (x : Step) : List AVal := [I x.at_, I x.free]
def Step.a (x : Step) : AVal := .agg x.cells
def stepL (l : List Step) : AVal := listA 2 Step.cells .zero l
theorem Step.lo {n : Nat} {a0 a1 : Int} : LowL n [I a0, I a1] := l1 (l1 (.nil))
theorem Step.lowc (x : Step) (n : Nat) : LowL n x.cells := Step.lo
instance : LowC Step.cells := ⟨fun n x => x.lowc n⟩
theorem Step.low (x : Step) (n : Nat) : Low n x.a := .agg' (x.lowc n)
theorem Step.lows (l : List Step) (n : Nat) : Low n (stepL l) := listA_low' fun x => x.lowc n

structure Node where
  state : Int
  job : Int
  epoch : Int
  drain : Bool
  want : Int
  since : Int
  asked : Int
  deriving DecidableEq
def Node.zero : Node := ⟨0, 0, 0, false, 0, 0, 0⟩
def Node.cells (x : Node) : List AVal := [I x.state, I x.job, I x.epoch, Bo x.drain, I x.want, I x.since, I x.asked]
def Node.a (x : Node) : AVal := .agg x.cells
def nodeL (l : List Node) : AVal := listA 7 Node.cells .zero l
theorem Node.lo {n : Nat} {a0 a1 a2 a4 a5 a6 : Int} {a3 : Bool} : LowL n [I a0, I a1, I a2, Bo a3, I a4, I a5, I a6] := l1 (l1 (l1 (l1 (l1 (l1 (l1 (.nil)))))))
theorem Node.lowc (x : Node) (n : Nat) : LowL n x.cells := Node.lo
instance : LowC Node.cells := ⟨fun n x => x.lowc n⟩
theorem Node.low (x : Node) (n : Nat) : Low n x.a := .agg' (x.lowc n)
theorem Node.lows (l : List Node) (n : Nat) : Low n (nodeL l) := listA_low' fun x => x.lowc n

structure Job where
  id : Int
  name : ByteArray
  user : ByteArray
  account : ByteArray
  shape : Shape
  prio : Int
  after : List Dep
  state : Int
  held : Bool
  born : Int
  promise : Int
  choice : Int
  start : Int
  limit : Int
  nodes : Int
  used : Int
  deriving DecidableEq
def Job.zero : Job := ⟨0, ⟨#[]⟩, ⟨#[]⟩, ⟨#[]⟩, Shape.zero, 0, [], 0, false, 0, 0, 0, 0, 0, 0, 0⟩
def Job.cells (x : Job) : List AVal := [I x.id, Sg x.name, Sg x.user, Sg x.account, I x.shape.kind, altL x.shape.alts, I x.shape.min, I x.shape.max, I x.shape.wall, I x.prio, depL x.after, I x.state, Bo x.held, I x.born, I x.promise, I x.choice, I x.start, I x.limit, U x.nodes, I x.used]
def Job.a (x : Job) : AVal := .agg x.cells
def jobL (l : List Job) : AVal := listA 20 Job.cells .zero l
theorem Job.lo {n : Nat} {a0 a4 a6 a7 a8 a9 a11 a13 a14 a15 a16 a17 a18 a19 : Int} {a1 a2 a3 : ByteArray} {a5 : List Alt} {a10 : List Dep} {a12 : Bool} : LowL n [I a0, Sg a1, Sg a2, Sg a3, I a4, altL a5, I a6, I a7, I a8, I a9, depL a10, I a11, Bo a12, I a13, I a14, I a15, I a16, I a17, U a18, I a19] := l1 (l1 (l1 (l1 (l1 (lv (Alt.lows _ _) (l1 (l1 (l1 (l1 (lv (Dep.lows _ _) (l1 (l1 (l1 (l1 (l1 (l1 (l1 (l1 (l1 (.nil))))))))))))))))))))
theorem Job.lowc (x : Job) (n : Nat) : LowL n x.cells := Job.lo
instance : LowC Job.cells := ⟨fun n x => x.lowc n⟩
theorem Job.low (x : Job) (n : Nat) : Low n x.a := .agg' (x.lowc n)
theorem Job.lows (l : List Job) (n : Nat) : Low n (jobL l) := listA_low' fun x => x.lowc n
def Job.szN (N : Nat) (x : Job) : Prop := x.name.size ≤ N ∧ x.user.size ≤ N ∧ x.account.size ≤ N ∧ x.shape.szN N ∧ x.after.length ≤ N
abbrev Job.sz (x : Job) : Prop := x.szN 4294967296
abbrev Job.szM (x : Job) : Prop := x.szN 9223372036854775807
theorem Job.szz (N : Nat) : Job.zero.szN N := by simp [Job.szN, Job.zero, ByteArray.size, Shape.szN, Shape.zero]

structure Resize where
  job : Int
  grow : Bool
  nodes : Int
  said : Int
  since : Int
  deriving DecidableEq
def Resize.zero : Resize := ⟨0, false, 0, 0, 0⟩
def Resize.cells (x : Resize) : List AVal := [I x.job, Bo x.grow, U x.nodes, U x.said, I x.since]
def Resize.a (x : Resize) : AVal := .agg x.cells
def resizeL (l : List Resize) : AVal := listA 5 Resize.cells .zero l
theorem Resize.lo {n : Nat} {a0 a2 a3 a4 : Int} {a1 : Bool} : LowL n [I a0, Bo a1, U a2, U a3, I a4] := l1 (l1 (l1 (l1 (l1 (.nil)))))
theorem Resize.lowc (x : Resize) (n : Nat) : LowL n x.cells := Resize.lo
instance : LowC Resize.cells := ⟨fun n x => x.lowc n⟩
theorem Resize.low (x : Resize) (n : Nat) : Low n x.a := .agg' (x.lowc n)
theorem Resize.lows (l : List Resize) (n : Nat) : Low n (resizeL l) := listA_low' fun x => x.lowc n

structure Book where
  id : Int
  from_ : Int
  to : Int
  nodes : Int
  deriving DecidableEq
def Book.zero : Book := ⟨0, 0, 0, 0⟩
def Book.cells (x : Book) : List AVal := [I x.id, I x.from_, I x.to, I x.nodes]
def Book.a (x : Book) : AVal := .agg x.cells
def bookL (l : List Book) : AVal := listA 4 Book.cells .zero l
theorem Book.lo {n : Nat} {a0 a1 a2 a3 : Int} : LowL n [I a0, I a1, I a2, I a3] := l1 (l1 (l1 (l1 (.nil))))
theorem Book.lowc (x : Book) (n : Nat) : LowL n x.cells := Book.lo
instance : LowC Book.cells := ⟨fun n x => x.lowc n⟩
theorem Book.low (x : Book) (n : Nat) : Low n x.a := .agg' (x.lowc n)
theorem Book.lows (l : List Book) (n : Nat) : Low n (bookL l) := listA_low' fun x => x.lowc n

structure Usage where
  user : ByteArray
  account : ByteArray
  used : Int
  share : Int
  deriving DecidableEq
def Usage.zero : Usage := ⟨⟨#[]⟩, ⟨#[]⟩, 0, 0⟩
def Usage.cells (x : Usage) : List AVal := [Sg x.user, Sg x.account, I x.used, I x.share]
def Usage.a (x : Usage) : AVal := .agg x.cells
def usageL (l : List Usage) : AVal := listA 4 Usage.cells .zero l
theorem Usage.lo {n : Nat} {a0 a1 : ByteArray} {a2 a3 : Int} : LowL n [Sg a0, Sg a1, I a2, I a3] := l1 (l1 (l1 (l1 (.nil))))
theorem Usage.lowc (x : Usage) (n : Nat) : LowL n x.cells := Usage.lo
instance : LowC Usage.cells := ⟨fun n x => x.lowc n⟩
theorem Usage.low (x : Usage) (n : Nat) : Low n x.a := .agg' (x.lowc n)
theorem Usage.lows (l : List Usage) (n : Nat) : Low n (usageL l) := listA_low' fun x => x.lowc n
def Usage.szN (N : Nat) (x : Usage) : Prop := x.user.size ≤ N ∧ x.account.size ≤ N
abbrev Usage.sz (x : Usage) : Prop := x.szN 4294967296
abbrev Usage.szM (x : Usage) : Prop := x.szN 9223372036854775807
theorem Usage.szz (N : Nat) : Usage.zero.szN N := by simp [Usage.szN, Usage.zero, ByteArray.size]

structure State where
  now : Int
  nodes : List Node
  jobs : List Job
  resizes : List Resize
  books : List Book
  ledger : List Usage
  nextJob : Int
  nextBook : Int
  deriving DecidableEq
def State.zero : State := ⟨0, [], [], [], [], [], 0, 0⟩
def State.cells (x : State) : List AVal := [I x.now, nodeL x.nodes, jobL x.jobs, resizeL x.resizes, bookL x.books, usageL x.ledger, I x.nextJob, I x.nextBook]
def State.a (x : State) : AVal := .agg x.cells
def stateL (l : List State) : AVal := listA 8 State.cells .zero l
theorem State.lo {n : Nat} {a0 a6 a7 : Int} {a1 : List Node} {a2 : List Job} {a3 : List Resize} {a4 : List Book} {a5 : List Usage} : LowL n [I a0, nodeL a1, jobL a2, resizeL a3, bookL a4, usageL a5, I a6, I a7] := l1 (lv (Node.lows _ _) (lv (Job.lows _ _) (lv (Resize.lows _ _) (lv (Book.lows _ _) (lv (Usage.lows _ _) (l1 (l1 (.nil))))))))
theorem State.lowc (x : State) (n : Nat) : LowL n x.cells := State.lo
instance : LowC State.cells := ⟨fun n x => x.lowc n⟩
theorem State.low (x : State) (n : Nat) : Low n x.a := .agg' (x.lowc n)
theorem State.lows (l : List State) (n : Nat) : Low n (stateL l) := listA_low' fun x => x.lowc n
def State.szN (N : Nat) (x : State) : Prop := x.nodes.length ≤ N ∧ x.jobs.length ≤ N ∧ (∀ y ∈ x.jobs, y.szN N) ∧ x.resizes.length ≤ N ∧ x.books.length ≤ N ∧ x.ledger.length ≤ N ∧ (∀ y ∈ x.ledger, y.szN N)
abbrev State.sz (x : State) : Prop := x.szN 4294967296
abbrev State.szM (x : State) : Prop := x.szN 9223372036854775807
theorem State.szz (N : Nat) : State.zero.szN N := by simp [State.szN, State.zero, ByteArray.size]

structure Note where
  kind : Int
  node : Int
  job : Int
  epoch : Int
  deriving DecidableEq
def Note.zero : Note := ⟨0, 0, 0, 0⟩
def Note.cells (x : Note) : List AVal := [I x.kind, I x.node, I x.job, I x.epoch]
def Note.a (x : Note) : AVal := .agg x.cells
def noteL (l : List Note) : AVal := listA 4 Note.cells .zero l
theorem Note.lo {n : Nat} {a0 a1 a2 a3 : Int} : LowL n [I a0, I a1, I a2, I a3] := l1 (l1 (l1 (l1 (.nil))))
theorem Note.lowc (x : Note) (n : Nat) : LowL n x.cells := Note.lo
instance : LowC Note.cells := ⟨fun n x => x.lowc n⟩
theorem Note.low (x : Note) (n : Nat) : Low n x.a := .agg' (x.lowc n)
theorem Note.lows (l : List Note) (n : Nat) : Low n (noteL l) := listA_low' fun x => x.lowc n

structure Event where
  kind : Int
  line : ByteArray
  note : Note
  deriving DecidableEq
def Event.zero : Event := ⟨0, ⟨#[]⟩, Note.zero⟩
def Event.cells (x : Event) : List AVal := [I x.kind, Sg x.line, I x.note.kind, I x.note.node, I x.note.job, I x.note.epoch]
def Event.a (x : Event) : AVal := .agg x.cells
def eventL (l : List Event) : AVal := listA 6 Event.cells .zero l
theorem Event.lo {n : Nat} {a0 a2 a3 a4 a5 : Int} {a1 : ByteArray} : LowL n [I a0, Sg a1, I a2, I a3, I a4, I a5] := l1 (l1 (l1 (l1 (l1 (l1 (.nil))))))
theorem Event.lowc (x : Event) (n : Nat) : LowL n x.cells := Event.lo
instance : LowC Event.cells := ⟨fun n x => x.lowc n⟩
theorem Event.low (x : Event) (n : Nat) : Low n x.a := .agg' (x.lowc n)
theorem Event.lows (l : List Event) (n : Nat) : Low n (eventL l) := listA_low' fun x => x.lowc n
def Event.szN (N : Nat) (x : Event) : Prop := x.line.size ≤ N
abbrev Event.sz (x : Event) : Prop := x.szN 4294967296
abbrev Event.szM (x : Event) : Prop := x.szN 9223372036854775807
theorem Event.szz (N : Nat) : Event.zero.szN N := by simp [Event.szN, Event.zero, ByteArray.size]

structure Out where
  kind : Int
  text : ByteArray
  note : Note
  job : Int
  at_ : Int
  raised : Bool
  deriving DecidableEq
def Out.zero : Out := ⟨0, ⟨#[]⟩, Note.zero, 0, 0, false⟩
def Out.cells (x : Out) : List AVal := [I x.kind, Sg x.text, I x.note.kind, I x.note.node, I x.note.job, I x.note.epoch, I x.job, I x.at_, Bo x.raised]
def Out.a (x : Out) : AVal := .agg x.cells
def outL (l : List Out) : AVal := listA 9 Out.cells .zero l
theorem Out.lo {n : Nat} {a0 a2 a3 a4 a5 a6 a7 : Int} {a1 : ByteArray} {a8 : Bool} : LowL n [I a0, Sg a1, I a2, I a3, I a4, I a5, I a6, I a7, Bo a8] := l1 (l1 (l1 (l1 (l1 (l1 (l1 (l1 (l1 (.nil)))))))))
theorem Out.lowc (x : Out) (n : Nat) : LowL n x.cells := Out.lo
instance : LowC Out.cells := ⟨fun n x => x.lowc n⟩
theorem Out.low (x : Out) (n : Nat) : Low n x.a := .agg' (x.lowc n)
theorem Out.lows (l : List Out) (n : Nat) : Low n (outL l) := listA_low' fun x => x.lowc n
def Out.szN (N : Nat) (x : Out) : Prop := x.text.size ≤ N
abbrev Out.sz (x : Out) : Prop := x.szN 4294967296
abbrev Out.szM (x : Out) : Prop := x.szN 9223372036854775807
theorem Out.szz (N : Nat) : Out.zero.szN N := by simp [Out.szN, Out.zero, ByteArray.size]

structure Daemon where
  node : Int
  mode : Int
  job : Int
  epoch : Int
  up : Bool
  sulks : Bool
  ended : Int
  asked : Int
  deriving DecidableEq
def Daemon.zero : Daemon := ⟨0, 0, 0, 0, false, false, 0, 0⟩
def Daemon.cells (x : Daemon) : List AVal := [I x.node, I x.mode, I x.job, I x.epoch, Bo x.up, Bo x.sulks, I x.ended, I x.asked]
def Daemon.a (x : Daemon) : AVal := .agg x.cells
def daemonL (l : List Daemon) : AVal := listA 8 Daemon.cells .zero l
theorem Daemon.lo {n : Nat} {a0 a1 a2 a3 a6 a7 : Int} {a4 a5 : Bool} : LowL n [I a0, I a1, I a2, I a3, Bo a4, Bo a5, I a6, I a7] := l1 (l1 (l1 (l1 (l1 (l1 (l1 (l1 (.nil))))))))
theorem Daemon.lowc (x : Daemon) (n : Nat) : LowL n x.cells := Daemon.lo
instance : LowC Daemon.cells := ⟨fun n x => x.lowc n⟩
theorem Daemon.low (x : Daemon) (n : Nat) : Low n x.a := .agg' (x.lowc n)
theorem Daemon.lows (l : List Daemon) (n : Nat) : Low n (daemonL l) := listA_low' fun x => x.lowc n

structure LexReader where
  line : List Int
  at_ : Int
  bad : Int
  error : Int
  deriving DecidableEq
def LexReader.zero : LexReader := ⟨[], 0, 0, 0⟩
def LexReader.cells (x : LexReader) : List AVal := [runes x.line, I x.at_, I x.bad, I x.error]
def LexReader.a (x : LexReader) : AVal := .agg x.cells
def lexReaderL (l : List LexReader) : AVal := listA 4 LexReader.cells .zero l
theorem LexReader.lo {n : Nat} {a0 : List Int} {a1 a2 a3 : Int} : LowL n [runes a0, I a1, I a2, I a3] := lv (runes_low _ _) (l1 (l1 (l1 (.nil))))
theorem LexReader.lowc (x : LexReader) (n : Nat) : LowL n x.cells := LexReader.lo
instance : LowC LexReader.cells := ⟨fun n x => x.lowc n⟩
theorem LexReader.low (x : LexReader) (n : Nat) : Low n x.a := .agg' (x.lowc n)
theorem LexReader.lows (l : List LexReader) (n : Nat) : Low n (lexReaderL l) := listA_low' fun x => x.lowc n
def LexReader.szN (N : Nat) (x : LexReader) : Prop := x.line.length ≤ N
abbrev LexReader.sz (x : LexReader) : Prop := x.szN 4294967296
abbrev LexReader.szM (x : LexReader) : Prop := x.szN 9223372036854775807
theorem LexReader.szz (N : Nat) : LexReader.zero.szN N := by simp [LexReader.szN, LexReader.zero, ByteArray.size]

structure ImageReader where
  s : ByteArray
  at_ : Int
  bad : Bool
  deriving DecidableEq
def ImageReader.zero : ImageReader := ⟨⟨#[]⟩, 0, false⟩
def ImageReader.cells (x : ImageReader) : List AVal := [Sg x.s, I x.at_, Bo x.bad]
def ImageReader.a (x : ImageReader) : AVal := .agg x.cells
def imageReaderL (l : List ImageReader) : AVal := listA 3 ImageReader.cells .zero l
theorem ImageReader.lo {n : Nat} {a0 : ByteArray} {a1 : Int} {a2 : Bool} : LowL n [Sg a0, I a1, Bo a2] := l1 (l1 (l1 (.nil)))
theorem ImageReader.lowc (x : ImageReader) (n : Nat) : LowL n x.cells := ImageReader.lo
instance : LowC ImageReader.cells := ⟨fun n x => x.lowc n⟩
theorem ImageReader.low (x : ImageReader) (n : Nat) : Low n x.a := .agg' (x.lowc n)
theorem ImageReader.lows (l : List ImageReader) (n : Nat) : Low n (imageReaderL l) := listA_low' fun x => x.lowc n
def ImageReader.szN (N : Nat) (x : ImageReader) : Prop := x.s.size ≤ N
abbrev ImageReader.sz (x : ImageReader) : Prop := x.szN 4294967296
abbrev ImageReader.szM (x : ImageReader) : Prop := x.szN 9223372036854775807
theorem ImageReader.szz (N : Nat) : ImageReader.zero.szN N := by simp [ImageReader.szN, ImageReader.zero, ByteArray.size]

structure Ref28From where
  s : ByteArray
  at_ : Int
  deriving DecidableEq
def Ref28From.zero : Ref28From := ⟨⟨#[]⟩, 0⟩
def Ref28From.cells (x : Ref28From) : List AVal := [Sg x.s, I x.at_]
def Ref28From.a (x : Ref28From) : AVal := .agg x.cells
def ref28FromL (l : List Ref28From) : AVal := listA 2 Ref28From.cells .zero l
theorem Ref28From.lo {n : Nat} {a0 : ByteArray} {a1 : Int} : LowL n [Sg a0, I a1] := l1 (l1 (.nil))
theorem Ref28From.lowc (x : Ref28From) (n : Nat) : LowL n x.cells := Ref28From.lo
instance : LowC Ref28From.cells := ⟨fun n x => x.lowc n⟩
theorem Ref28From.low (x : Ref28From) (n : Nat) : Low n x.a := .agg' (x.lowc n)
theorem Ref28From.lows (l : List Ref28From) (n : Nat) : Low n (ref28FromL l) := listA_low' fun x => x.lowc n
def Ref28From.szN (N : Nat) (x : Ref28From) : Prop := x.s.size ≤ N
abbrev Ref28From.sz (x : Ref28From) : Prop := x.szN 4294967296
abbrev Ref28From.szM (x : Ref28From) : Prop := x.szN 9223372036854775807
theorem Ref28From.szz (N : Nat) : Ref28From.zero.szN N := by simp [Ref28From.szN, Ref28From.zero, ByteArray.size]

structure Taken where
  p : List Step
  deriving DecidableEq
def Taken.zero : Taken := ⟨[]⟩
def Taken.cells (x : Taken) : List AVal := [stepL x.p]
def Taken.a (x : Taken) : AVal := .agg x.cells
def takenL (l : List Taken) : AVal := listA 1 Taken.cells .zero l
theorem Taken.lo {n : Nat} {a0 : List Step} : LowL n [stepL a0] := lv (Step.lows _ _) (.nil)
theorem Taken.lowc (x : Taken) (n : Nat) : LowL n x.cells := Taken.lo
instance : LowC Taken.cells := ⟨fun n x => x.lowc n⟩
theorem Taken.low (x : Taken) (n : Nat) : Low n x.a := .agg' (x.lowc n)
theorem Taken.lows (l : List Taken) (n : Nat) : Low n (takenL l) := listA_low' fun x => x.lowc n
def Taken.szN (N : Nat) (x : Taken) : Prop := x.p.length ≤ N
abbrev Taken.sz (x : Taken) : Prop := x.szN 4294967296
abbrev Taken.szM (x : Taken) : Prop := x.szN 9223372036854775807
theorem Taken.szz (N : Nat) : Taken.zero.szN N := by simp [Taken.szN, Taken.zero, ByteArray.size]

structure Ranked where
  what : Int
  prio : Int
  share : Int
  id : Int
  deriving DecidableEq
def Ranked.zero : Ranked := ⟨0, 0, 0, 0⟩
def Ranked.cells (x : Ranked) : List AVal := [I x.what, I x.prio, I x.share, I x.id]
def Ranked.a (x : Ranked) : AVal := .agg x.cells
def rankedL (l : List Ranked) : AVal := listA 4 Ranked.cells .zero l
theorem Ranked.lo {n : Nat} {a0 a1 a2 a3 : Int} : LowL n [I a0, I a1, I a2, I a3] := l1 (l1 (l1 (l1 (.nil))))
theorem Ranked.lowc (x : Ranked) (n : Nat) : LowL n x.cells := Ranked.lo
instance : LowC Ranked.cells := ⟨fun n x => x.lowc n⟩
theorem Ranked.low (x : Ranked) (n : Nat) : Low n x.a := .agg' (x.lowc n)
theorem Ranked.lows (l : List Ranked) (n : Nat) : Low n (rankedL l) := listA_low' fun x => x.lowc n

structure Work where
  state : State
  told : List Out
  deriving DecidableEq
def Work.zero : Work := ⟨State.zero, []⟩
def Work.cells (x : Work) : List AVal := [I x.state.now, nodeL x.state.nodes, jobL x.state.jobs, resizeL x.state.resizes, bookL x.state.books, usageL x.state.ledger, I x.state.nextJob, I x.state.nextBook, outL x.told]
def Work.a (x : Work) : AVal := .agg x.cells
def workL (l : List Work) : AVal := listA 9 Work.cells .zero l
theorem Work.lo {n : Nat} {a0 a6 a7 : Int} {a1 : List Node} {a2 : List Job} {a3 : List Resize} {a4 : List Book} {a5 : List Usage} {a8 : List Out} : LowL n [I a0, nodeL a1, jobL a2, resizeL a3, bookL a4, usageL a5, I a6, I a7, outL a8] := l1 (lv (Node.lows _ _) (lv (Job.lows _ _) (lv (Resize.lows _ _) (lv (Book.lows _ _) (lv (Usage.lows _ _) (l1 (l1 (lv (Out.lows _ _) (.nil)))))))))
theorem Work.lowc (x : Work) (n : Nat) : LowL n x.cells := Work.lo
instance : LowC Work.cells := ⟨fun n x => x.lowc n⟩
theorem Work.low (x : Work) (n : Nat) : Low n x.a := .agg' (x.lowc n)
theorem Work.lows (l : List Work) (n : Nat) : Low n (workL l) := listA_low' fun x => x.lowc n
def Work.szN (N : Nat) (x : Work) : Prop := x.state.szN N ∧ x.told.length ≤ N ∧ (∀ y ∈ x.told, y.szN N)
abbrev Work.sz (x : Work) : Prop := x.szN 4294967296
abbrev Work.szM (x : Work) : Prop := x.szN 9223372036854775807
theorem Work.szz (N : Nat) : Work.zero.szN N := by simp [Work.szN, Work.zero, ByteArray.size, State.szN, State.zero]

end Go.Proofs.YtalhamokkblnjaaGreatDoor

namespace Go.Proofs.YtalhamokkblnjaaGreatDoor
set_option linter.unusedSimpArgs false
set_option linter.unusedVariables false
open Go.Fw

/-- The texts that strconv.Atoi is asked for: one to nine digits. -/
def atoiOK (s : ByteArray) : Prop := 1 ≤ s.size ∧ s.size ≤ 9 ∧ ∀ i, i < s.size → 48 ≤ (s.data.toList.getD i 0).toNat ∧ (s.data.toList.getD i 0).toNat ≤ 57

theorem atoi_minus {s : ByteArray} (h : atoiOK s) (c : (((s.data.toList.getD 0 0).toNat : Int) == 45) = true) : False := by
  have := h.2.2 0 h.1
  have e := eq_of_beq c
  omega

theorem atoi_sign {s : ByteArray} (h : atoiOK s) (c : ((((s.data.toList.getD 0 0).toNat : Int) == 45) || (((s.data.toList.getD 0 0).toNat : Int) == 43)) = true) : False := by
  have := h.2.2 0 h.1
  rcases (Bool.or_eq_true _ _).mp c with c | c <;> have e := eq_of_beq c <;> omega

theorem bytesOf_getD (s : ByteArray) (i : Nat) : (bytesOf s).getD i 0 = ((s.data.toList.getD i 0).toNat : Int) := by
  unfold bytesOf
  simp only [List.getD, List.getElem?_map]
  cases s.data.toList[i]? <;> rfl

theorem atoi_digit {s : ByteArray} (h : atoiOK s) {i : Nat} (hi : i < s.size) (c : decide (wu8 (((bytesOf s).getD i 0) - 48) > 9) = true) : False := by
  have h1 := h.2.2 i hi
  have c := of_decide_eq_true c
  rw [bytesOf_getD] at c
  rw [show wu8 (((s.data.toList.getD i 0).toNat : Int) - 48) = ((s.data.toList.getD i 0).toNat : Int) - 48 by rw [wu8, IntKind.wrap_u8]; omega] at c
  omega

theorem getD_byte (s : ByteArray) {i : Nat} (h : i < s.size) : s.data.toList.getD i 0 = s[i]'h := by
  have h' : i < s.data.toList.length := by simpa using h
  simp [List.getD, List.getElem?_eq_getElem h']
  rfl

theorem decode_end (s : ByteArray) (i : Nat) (h : i < s.size) : i + (Utf8.decode s i).2 ≤ s.size := by
  unfold Utf8.decode
  dsimp only
  split
  · simp; omega
  · split
    · rename_i hc
      simp only [Bool.and_eq_true, decide_eq_true_eq] at hc
      split <;> simp <;> omega
    · split
      · rename_i hc
        simp only [Bool.and_eq_true, decide_eq_true_eq] at hc
        split <;> simp <;> omega
      · split
        · rename_i hc
          simp only [Bool.and_eq_true, decide_eq_true_eq] at hc
          split <;> simp <;> omega
        · simp; omega

theorem ref09_half {s1 : Int} {n : Nat} (h : (n : Int) = 0 ∨ (0 ≤ s1 ∧ s1 < 2 ^ (65 - (Int.toNat (n : Int))))) (hn : (n : Int) ≤ 65) (h0 : s1 > 0) : n < 65 ∧ 0 ≤ wu64 (Int.tdiv s1 2) ∧ wu64 (Int.tdiv s1 2) < 2 ^ (65 - (n + 1)) ∧ (wu64 (Int.tdiv s1 2)).toNat < s1.toNat := by
  have e : Int.tdiv s1 2 = s1 / 2 := Int.tdiv_eq_ediv_of_nonneg (by omega)
  have hw : wu64 (s1 / 2) = (s1 / 2) % 18446744073709551616 := by simp [IntKind.wrap, IntKind.bits, IntKind.signed]
  rw [e, hw]
  have h1 : (s1 / 2) % 18446744073709551616 ≤ s1 / 2 := by omega
  rcases h with h | ⟨_, h⟩
  · have : n = 0 := by omega
    subst this
    exact ⟨by omega, by omega, by show _ < (2 : Int) ^ 64; have : (2 : Int) ^ 64 = 18446744073709551616 := by decide
                                  omega, by omega⟩
  · simp only [Int.toNat_natCast] at h
    have hn65 : n < 65 := by
      rcases Nat.lt_or_ge n 65 with h2 | h2
      · exact h2
      · rw [show 65 - n = 0 by omega] at h
        simp at h
        omega
    refine ⟨hn65, by omega, ?_, by omega⟩
    rw [show 65 - n = (65 - (n + 1)) + 1 by omega, Int.pow_succ] at h
    omega

theorem extract_size (s : ByteArray) (a b : Nat) : (s.extract a b).size ≤ s.size := by
  rw [ByteArray.size_extract]
  omega

/-- Where all runes are digits, all bytes are. -/
theorem digits_bytes (s : ByteArray) : ∀ (m pos : Nat), s.size - pos ≤ m → (∀ x ∈ strRunes s m pos, 48 ≤ x.2 ∧ x.2 ≤ 57) → ∀ i, pos ≤ i → i < s.size → 48 ≤ (s.data.toList.getD i 0).toNat ∧ (s.data.toList.getD i 0).toNat ≤ 57 := by
  intro m
  induction m with
  | zero => intro pos hm _ i h1 h2; omega
  | succ m ih =>
    intro pos hm hx i h1 h2
    have hp : pos < s.size := by omega
    rw [strRunes_cons (decide_eq_true hp)] at hx
    have h0 := hx _ List.mem_cons_self
    have ha : (s[pos]'hp).toNat < 128 := by
      rcases Nat.lt_or_ge (s[pos]'hp).toNat 128 with h | h
      · exact h
      · have := (decode_high s pos hp h).1
        simp only at h0
        omega
    have hd := decode_ascii s pos hp ha
    rw [hd] at h0 hx
    by_cases hi : i = pos
    · subst hi
      rw [getD_byte s hp]
      simp only at h0
      omega
    · exact ih (pos + 1) (by omega) (fun x hm => hx x (List.mem_cons_of_mem _ hm)) i (by omega) h2

/-- A call of plain values that leaves the world alone. -/
theorem gives_of_calls {P : Program} {f : FuncId} {vs : List Value} {v : Value} (h : ∀ w, Calls P f vs.toArray w fun e w' => e = .returned v ∧ w' = w) (objs : Objs) : AGives P f (vs.map .lit) objs (.lit v) := by
  intro K w us hm hr
  have e : us = vs := by
    have h1 := hr.1
    refine List.ext_getElem? fun i => ?_
    rcases Nat.lt_or_ge i vs.length with hi | hi
    · have hu : i < us.length := by rw [h1]; simpa using hi
      have := hr.2 i (.lit vs[i]) us[i] (by simp [List.getElem?_eq_getElem hi]) (List.getElem?_eq_getElem hu)
      rw [List.getElem?_eq_getElem hi, List.getElem?_eq_getElem hu]
      rw [rep_lit this]
    · rw [List.getElem?_eq_none hi, List.getElem?_eq_none (by rw [h1]; simpa using hi)]
  subst e
  refine (h w).mono ?_
  rintro e w' ⟨rfl, rfl⟩
  exact ⟨v, .lit v, objs, K, rfl, .refl K, hm, .lit v, rfl, rfl⟩

set_option maxHeartbeats 1000000 in
set_option maxRecDepth 100000 in
theorem indexByte1 (s : ByteArray) (c : Int) (w : World) :
    Calls Tryz.prog 496 #[.string s, .int .u8 c] w fun e w' => e = .returned (.int .i64 (Lib.indexByte s.data.toList c.toNat.toUInt8)) ∧ w' = w := by
  go_enter Tryz.func496, Tryz.ntmps496
  go_wp2
  rw [run_callFunc_extern Tryz.func566 (by kernel_rfl) (by kernel_rfl) (by kernel_rfl) (e := Extern.BytealgIndexByte.indexByte) (by kernel_rfl), Lib.run_indexByteString]
  simp only [Result.andThen]
  rw [Oper.upon_value]
  go_wp2
  go_ret
  exact ⟨rfl, rfl⟩

def strings_IndexByte (s : ByteArray) (c : Int) : Int := Lib.indexByte s.data.toList c.toNat.toUInt8

set_option maxHeartbeats 1000000 in
theorem indexByte2 (s : ByteArray) (c : Int) (w : World) :
    Calls Tryz.prog 378 #[.string s, .int .u8 c] w fun e w' => e = .returned (.int .i64 (strings_IndexByte s c)) ∧ w' = w := by
  go_enter Tryz.func378, Tryz.ntmps378
  go_wp2_with (go_at_call 496; refine (indexByte1 _ _ _).mono ?_; rintro e w' ⟨rfl, rfl⟩)
  go_ret
  exact ⟨rfl, rfl⟩

theorem strings_IndexByte_c (s : ByteArray) (c : Int) : ∀ objs, AGives Tryz.prog 378 [Sg s, Y c] objs (I (strings_IndexByte s c)) :=
  gives_of_calls (vs := [.string s, .int .u8 c]) fun w => indexByte2 s c w
end Go.Proofs.YtalhamokkblnjaaGreatDoor

namespace Go.Proofs.YtalhamokkblnjaaGreatDoor
set_option linter.unusedSimpArgs false
set_option linter.unusedVariables false
open Go Go.RowKit Go.Proofs

theorem bldPtr : Tryz.prog.underlying 163 = some (.pointer 165) := by kernel_rfl
theorem bldUnsafe : Tryz.prog.underlying 361 = some .unsafePointer := by kernel_rfl
theorem bldInfo : (Tryz.prog.info? 165).map (·.size) = some 2 := by kernel_rfl
theorem bldCells : Tryz.prog.cellsOf 165 = 2 := by kernel_rfl

set_option maxHeartbeats 1000000 in
set_option maxRecDepth 100000 in
theorem copyCheck_used (b : Nat) (w : World) (h0 : w.cell? ⟨b, 0, none⟩ = some (.pointer (some ⟨b, 0, none⟩))) :
    Calls Tryz.prog 198 #[.pointer (some ⟨b, 0, none⟩)] w fun e w' => e = .returned (.tuple #[]) ∧ w' = w := by
  obtain ⟨j, hj, _⟩ := Option.map_eq_some_iff.1 bldInfo
  go_enter Tryz.func198, Tryz.ntmps198
  go_wp2
  rw [Lib.run_neq_ptr_same w _ bldPtr hj]
  go_wp2
  go_end0
  exact ⟨rfl, rfl⟩

set_option maxHeartbeats 1000000 in
set_option maxRecDepth 100000 in
theorem copyCheck_fresh (te : TypeId) (m b : Nat) (w : World) (h0 : w.cell? ⟨b, 0, none⟩ = some (.pointer none)) (hsh : w.shape? b = some (te, m)) (hm : 0 < m) (hlies : liesAt Tryz.prog Tryz.prog.depth te (m / Tryz.prog.cellsOf te) 0 165 1 = true) (hfz : w.frozen? ⟨b, 0, none⟩ = false) :
    Calls Tryz.prog 198 #[.pointer (some ⟨b, 0, none⟩)] w fun e w' => e = .returned (.tuple #[]) ∧ w' = w.setCell ⟨b, 0, none⟩ (.pointer (some ⟨b, 0, none⟩)) := by
  obtain ⟨j, hj, hjs⟩ := Option.map_eq_some_iff.1 bldInfo
  go_enter Tryz.func198, Tryz.ntmps198
  go_wp2
  rw [Lib.run_to_unsafe w ⟨b, 0, none⟩ bldPtr bldUnsafe hj (by rw [hjs]; decide) hsh hm]
  simp only [Result.andThen]
  rw [Oper.upon_value]
  go_wp2
  rw [run_callFunc_extern Tryz.func262 (by kernel_rfl) (by kernel_rfl) (by kernel_rfl) (e := Extern.AbiNoEscape.same) (by kernel_rfl)]
  rw [Lib.run_noEscape]
  simp only [Result.andThen]
  rw [Oper.upon_value]
  go_wp2
  rw [Lib.run_from_unsafe w ⟨b, 0, none⟩ bldUnsafe bldPtr hj hsh hlies]
  simp only [Result.andThen]
  rw [Oper.upon_value]
  go_wp2
  go_end0
  exact ⟨rfl, rfl⟩

theorem bldBytePtr : Tryz.prog.underlying 244 = some (.pointer 5) := by kernel_rfl
theorem bldByte1 : Tryz.prog.cellsOf 5 = 1 := by kernel_rfl

set_option maxHeartbeats 2000000 in
set_option maxRecDepth 100000 in
theorem builderString_nil (b : Nat) (w : World) (c0 : w.cell? ⟨b, 1, none⟩ = some (.slice none 0 0)) :
    Calls Tryz.prog 106 #[.pointer (some ⟨b, 0, none⟩)] w fun e w' => e = .returned (.string ⟨#[]⟩) ∧ w' = w.drew := by
  have hUS := fun (W : World) (q : Option Addr) => Lib.run_unsafeString_none (P := Tryz.prog) (w := W) 244 3 9 q
  have c1 : w.drew.cell? ⟨b, 1, none⟩ = some (.slice none 0 0) := c0
  have hSD : (Builtin.unsafeSliceData_ #[131] 244 #[.slice none 0 0]).run Tryz.prog w.drew = .ok (.pointer none) w.drew := rfl
  have mixed : Tryz.prog.follows .mixedOrders = true := by kernel_rfl
  go_enter Tryz.func106, Tryz.ntmps106
  go_wp2
  go_region_o
  all_goals (go_wp2; go_ret; exact ⟨rfl, rfl⟩)

set_option maxHeartbeats 2000000 in
set_option maxRecDepth 100000 in
theorem builderString_room (b cap : Nat) (a : Addr) (w : World) (hc0 : cap ≠ 0) (c0 : w.cell? ⟨b, 1, none⟩ = some (.slice (some a) 0 cap)) :
    Calls Tryz.prog 106 #[.pointer (some ⟨b, 0, none⟩)] w fun e w' => e = .returned (.string ⟨#[]⟩) ∧ w' = w.drew := by
  have hUS := fun (W : World) (q : Option Addr) => Lib.run_unsafeString_none (P := Tryz.prog) (w := W) 244 3 9 q
  have c1 : w.drew.cell? ⟨b, 1, none⟩ = some (.slice (some a) 0 cap) := c0
  have hSD : (Builtin.unsafeSliceData_ #[131] 244 #[.slice (some a) 0 cap]).run Tryz.prog w.drew = .ok (.pointer (some a)) w.drew := Lib.run_unsafeSliceData_row _ _ _ _ _ _ hc0
  clear hc0
  have mixed : Tryz.prog.follows .mixedOrders = true := by kernel_rfl
  go_enter Tryz.func106, Tryz.ntmps106
  go_wp2
  go_region_o
  all_goals (go_wp2; go_ret; exact ⟨rfl, rfl⟩)

set_option maxHeartbeats 2000000 in
set_option maxRecDepth 100000 in
theorem builderString_some (b g cap : Nat) (cur : Array Value) (fr : Nat × Nat) (l : List UInt8) (w : World) (h0 : l ≠ []) (c0 : w.cell? ⟨b, 1, none⟩ = some (.slice (some ⟨g, 0, none⟩) l.length cap))
    (hg : w.heap[g]? = some (.cells cur 5 fr)) (hcap : l.length ≤ cap) (hcur : l.length ≤ cur.size) (h63 : l.length ≤ 9223372036854775807) (hcell : ∀ (j : Nat) (x : UInt8), l[j]? = some x → cur[j]? = some (Value.int .u8 x.toNat)) :
    Calls Tryz.prog 106 #[.pointer (some ⟨b, 0, none⟩)] w fun e w' => e = .returned (.string ⟨l.toArray⟩) ∧ w' = w.drew.freeze ⟨g, 0, none⟩ l.length := by
  have hl0 : l.length ≠ 0 := by simpa using h0
  have c1 : w.drew.cell? ⟨b, 1, none⟩ = some (.slice (some ⟨g, 0, none⟩) l.length cap) := c0
  have hg' : w.drew.heap[g]? = some (.cells cur 5 fr) := hg
  have hSD : (Builtin.unsafeSliceData_ #[131] 244 #[.slice (some ⟨g, 0, none⟩) l.length cap]).run Tryz.prog w.drew = .ok (.pointer (some ⟨g, 0, none⟩)) w.drew :=
    Lib.run_unsafeSliceData_row _ _ _ _ _ _ (by omega)
  have hUS : (Builtin.unsafeString_ #[244, 3] 9 #[.pointer (some ⟨g, 0, none⟩), .int .i64 l.length]).run Tryz.prog w.drew = .ok (.string ⟨l.toArray⟩) (w.drew.freeze ⟨g, 0, none⟩ l.length) := by
    refine Lib.run_unsafeString_row (P := Tryz.prog) (w := w.drew) 244 3 9 5 bldBytePtr bldByte1 g cur.size (by simp [World.shape?, hg']) l h0 hcur h63 ?_
    intro j x hx
    have e : ((⟨g, 0, none⟩ : Addr).add j) = ⟨g, j, none⟩ := by
      simp [Addr.add]
      exact fun h => h.symm
    rw [e, Lib.cell_of_heap hg']
    exact hcell j x hx
  have mixed : Tryz.prog.follows .mixedOrders = true := by kernel_rfl
  go_enter Tryz.func106, Tryz.ntmps106
  go_wp2
  go_region_o
  all_goals (go_wp2; go_ret; exact ⟨rfl, rfl⟩)

end Go.Proofs.YtalhamokkblnjaaGreatDoor
