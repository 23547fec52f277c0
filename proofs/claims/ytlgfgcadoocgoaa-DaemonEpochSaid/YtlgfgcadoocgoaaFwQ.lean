/-
  Handy forms: contracts over any objects; what may be forgotten at a loop's head.
-/
import Derived.Test.YtlgfgcadoocgoaaFwN
namespace Go.Fw
set_option linter.unusedSimpArgs false
set_option linter.unusedVariables false
open Go.RowKit

attribute [local irreducible] ACalls

def LowL (n : Nat) (xs : List AVal) : Prop := ∀ x ∈ xs, Low n x
theorem LowL.nil {n : Nat} : LowL n [] := fun x h => by simp at h
theorem LowL.cons {n : Nat} {x : AVal} {xs : List AVal} (h : Low n x) (t : LowL n xs) : LowL n (x :: xs) := fun y hy => by
  rcases List.mem_cons.1 hy with rfl | hy
  · exact h
  · exact t y hy
theorem LowL.of2 {n : Nat} {xs : List AVal} (h : xs.all low2 = true) : LowL n xs := fun x hx => low2_sound (List.all_eq_true.1 h x hx)

/-- A slice of elements without memory names no object. -/
theorem low_seq {n k m : Nat} {t : Bool} {f : Nat → List AVal} (h : ∀ i, (f i).all low0 = true) : Low n (.seq k m t f) := .seq k m t f fun i _ x hx => low0_sound (List.all_eq_true.1 (h i) x hx)

section
variable {P : Program}

theorem AGives.any {f : FuncId} {args : List AVal} {r : AVal} (ha : args.all low2 = true) (hl : low2 r = true) (h : AGives P f args [] r) (objs : Objs) : AGives P f args objs r :=
  h.frame (LowL.of2 ha) (low2_sound hl) objs

theorem AGives.any' {f : FuncId} {args : List AVal} {r : AVal} (ha : LowL 0 args) (hl : Low 0 r) (h : AGives P f args [] r) (objs : Objs) : AGives P f args objs r := h.frame ha hl objs

/-- What is told of a value depends on objects below n alone. -/
theorem Rep.low {K L : Ctx} {n : Nat} (hM : ∀ b i u, K.M b i = some u → L.M b i = some u) (hn : n ≤ L.n) (hρ : ∀ o v, o < n → L.ρ o v = K.ρ o v) (hC : ∀ o v, o < n → L.C o v = K.C o v) (hv : ∀ o, o < n → L.vs o = K.vs o) {x : AVal} {v : Value} (h : Rep K x v) : Low n x → Rep L x v := by
  induction h with
  | any v => exact fun _ => .any v
  | lit v => exact fun _ => .lit v
  | agg cs vs hl h1 _ ih => exact fun hl' => by cases hl' with | agg _ h => exact .agg cs vs hl h1 fun i x v hx hv => ih i x v hx hv (h x (mem_get hx))
  | tup cs vs hl _ ih => exact fun hl' => by cases hl' with | tup _ h => exact .tup cs vs hl fun i x v hx hv => ih i x v hx hv (h x (mem_get hx))
  | nil k t f => exact fun _ => .nil k t f
  | empty k t f a c ht => exact fun _ => .empty k t f a c ht
  | seq k n t f b off c u hc ht hk hM' _ ih => exact fun hl' => by cases hl' with | seq _ _ _ _ h => exact .seq k n t f b off c u hc ht hk (fun i j hi hj => hM _ _ _ (hM' i j hi hj)) fun i j x hi hx => ih i j x hi hx (h i hi x (mem_get hx))
  | ref cs b off u hM' _ ih => exact fun hl' => by cases hl' with | ref _ h => exact .ref cs b off u (fun j hj => hM _ _ _ (hM' j hj)) fun j x hx => ih j x hx (h x (mem_get hx))
  | ptr o ver k i j ho hve => exact fun hl' => by cases hl' with | ptr _ _ _ _ _ h => rw [← hρ o ver h]; exact .ptr o ver k i j (by omega) (by rw [hv o h]; exact hve)
  | own o ver k off len ho hve a c hl hC' ha => exact fun hl' => by cases hl' with | own _ _ _ _ _ h => exact .own o ver k off len (by omega) (by rw [hv o h]; exact hve) a c hl (by rw [hC o ver h]; exact hC') (by rw [hρ o ver h]; exact ha)
  | fn f xs ys vs us hl hm _ _ ih1 ih2 => exact fun hl' => by cases hl' with | fn _ _ _ h g => exact .fn f xs ys vs us hl hm (fun i x v hx hv => ih1 i x v hx hv (h x (mem_get hx))) fun i x v hx hv => ih2 i x v hx hv (g x (mem_get hx))
  | ifc t a v _ ih => exact fun hl' => by cases hl' with | ifc _ _ h => exact .ifc t a v (ih h)
  | map o ho => exact fun hl' => by cases hl' with | map _ h => rw [← hρ o 0 h]; exact .map o (by omega)
  | ownNil o ver k ho hve => exact fun hl' => by cases hl' with | own _ _ _ _ _ h => exact .ownNil o ver k (by omega) (by rw [hv o h]; exact hve)

/-- The first n objects alone. -/
def Ctx.cut (K : Ctx) (n : Nat) : Ctx := { K with n := n }

def LowObj (n : Nat) : AObj → Prop
  | .dead => True
  | .row _ _ es => ∀ e ∈ es, LowL n e

theorem MemSat.cut {K : Ctx} {objs : Objs} {w : World} {n : Nat} (h : MemSat K objs w) (hn : n ≤ objs.length) (hl : ∀ o p, objs[o]? = some p → o < n → LowObj n p.2) : MemSat (K.cut n) (objs.take n) w := by
  have get : ∀ (o : Nat) (p : Nat × AObj), (objs.take n)[o]? = some p → objs[o]? = some p ∧ o < n := by
    intro o p hp
    rw [List.getElem?_take] at hp
    split at hp
    · rename_i ho; exact ⟨hp, ho⟩
    · cases hp
  refine ⟨by simp [Ctx.cut]; omega, fun o p hp => h.ver o p (get o p hp).1, fun o p hp => ?_, fun o p hp => h.lo o p (get o p hp).1, fun o o' p p' hp hp' => h.dis o o' p p' (get o p hp).1 (get o' p' hp').1, h.mem, h.below.step (L := K.cut n) rfl rfl rfl rfl rfl (Nat.le_refl _) fun _ _ _ => rfl⟩
  obtain ⟨hp, ho⟩ := get o p hp
  have hs := h.obj o p hp
  have hlo := hl o p hp ho
  cases hp2 : p.2 with
  | dead => trivial
  | row t k es =>
    rw [hp2] at hs hlo
    obtain ⟨h1, h2, h3⟩ := hs
    refine ⟨h1, h2, fun hC => ?_⟩
    obtain ⟨c, q1, q2, q3, q4⟩ := h3 hC
    refine ⟨c, q1, q2, q3, fun i j e x he hx => ?_⟩
    obtain ⟨u, hu, hr⟩ := q4 i j e x he hx
    exact ⟨u, hu, Rep.low (K := K) (L := K.cut n) (n := n) (fun _ _ _ h => h) (Nat.le_refl _) (fun _ _ _ => rfl) (fun _ _ _ => rfl) (fun _ _ => rfl) hr (hlo e (mem_get he) x (mem_get hx))⟩

/-- Slots that are kept, each with what it is. -/
inductive SubS (n : Nat) (s : List (Nat × AVal)) : List (Nat × AVal) → Prop where
  | nil : SubS n s []
  | cons (t : Nat) (v : AVal) (r : List (Nat × AVal)) (h : getSlot s t = v) (hl : Low n v) (hr : SubS n s r) : SubS n s ((t, v) :: r)

theorem SubS.get {n : Nat} {s s' : List (Nat × AVal)} (h : SubS n s s') (t : Nat) : getSlot s' t = .any ∨ (getSlot s' t = getSlot s t ∧ Low n (getSlot s t)) := by
  induction h with
  | nil => exact .inl rfl
  | cons t' v r h hl _ ih =>
    rw [getSlot_cons]
    by_cases ht : t' = t
    · subst ht; rw [if_pos rfl]; exact .inr ⟨h.symm, by rw [h]; exact hl⟩
    · rw [if_neg ht]; exact ih

/-- At a loop's head: objects from number n on are let go, and slots. -/
theorem weaker_cut {nt : Nat} {s s' : List (Nat × AVal)} {o : Objs} (n : Nat) (hn : n ≤ o.length) (hl : ∀ i p, o[i]? = some p → i < n → LowObj n p.2) (hs : SubS n s s') : Weaker nt 0 ⟨s, o⟩ ⟨s', o.take n⟩ := by
  intro K0 K a w h0 hle hsat
  refine ⟨K.cut n, ⟨hle.M, fun o v ho => absurd ho (by omega), fun o v ho => absurd ho (by omega), by simp [h0], fun o ho => absurd ho (by omega), hle.w0, hle.B, hle.M0⟩, hsat.mem.cut hn hl, fun t => ?_, hsat.size, hsat.defers⟩
  show Rep (K.cut n) (getSlot s' t) _
  rcases hs.get t with h | ⟨h, hlow⟩
  · rw [h]; exact .any _
  · rw [h]; exact Rep.low (K := K) (L := K.cut n) (n := n) (fun _ _ _ h => h) (Nat.le_refl _) (fun _ _ _ => rfl) (fun _ _ _ => rfl) (fun _ _ => rfl) (hsat.slot t) hlow

theorem weaker_drop {nt : Nat} {s s' : List (Nat × AVal)} {o : Objs} (hs : SubS 0 s s') : Weaker nt 0 ⟨s, o⟩ ⟨s', []⟩ := by
  have := weaker_cut (nt := nt) (o := o) 0 (Nat.zero_le _) (fun i p _ h => absurd h (by omega)) hs
  simpa using this

/-- An argument may be told otherwise. -/
theorem ACalls.args {f : FuncId} {args args' : List AVal} {objs : Objs} {R : AVal → Objs → Prop} (h : ∀ (K : Ctx) (vs : List Value), Reps K args vs → Reps K args' vs) (hc : ACalls P f args' objs R) : ACalls P f args objs R := by
  unfold ACalls at hc ⊢
  exact fun K w vs hm hr => hc K w vs hm (h K vs hr)

/-- One value told as another, whatever the memory. -/
def AsA (x y : AVal) : Prop := ∀ (K : Ctx) (v : Value), Rep K x v → Rep K y v
theorem AsA.refl (x : AVal) : AsA x x := fun _ _ h => h
theorem AsA.seq {k n : Nat} {t t' : Bool} {f g : Nat → List AVal} (h : ∀ i, i < n → f i = g i) (ht : t' = true → t = true) : AsA (.seq k n t f) (.seq k n t' g) := fun _ _ hr => rep_seqCongr h ht hr
theorem AsA.nil {k : Nat} {t : Bool} {f : Nat → List AVal} : AsA (.lit (.slice none 0 0)) (.seq k 0 t f) := fun _ _ hr => by
  have := rep_lit hr
  subst this
  exact .nil k t f

inductive AsL : List AVal → List AVal → Prop where
  | nil : AsL [] []
  | cons (x y : AVal) (xs ys : List AVal) (h : AsA x y) (t : AsL xs ys) : AsL (x :: xs) (y :: ys)

theorem AsL.reps {xs ys : List AVal} (h : AsL xs ys) (K : Ctx) : ∀ (vs : List Value), Reps K xs vs → Reps K ys vs := by
  induction h with
  | nil => exact fun vs hr => hr
  | cons x y xs ys hs _ ih =>
    intro vs hr
    match vs, hr with
    | [], hr => exact absurd hr.1 (by simp)
    | v :: vs, hr =>
      exact Reps.cons (hs K v (hr.2 0 x v rfl rfl)) (ih vs ⟨by have := hr.1; simpa using this, fun i x v hx hv => hr.2 (i + 1) x v (by simpa using hx) (by simpa using hv)⟩)

theorem ACalls.as {f : FuncId} {args args' : List AVal} {objs : Objs} {R : AVal → Objs → Prop} (h : AsL args args') (hc : ACalls P f args' objs R) : ACalls P f args objs R := hc.args fun K vs hr => h.reps K vs hr

theorem AGives.as {f : FuncId} {args args' : List AVal} {objs : Objs} {r : AVal} (h : AsL args args') (hc : AGives P f args' objs r) : AGives P f args objs r := ACalls.as h hc

/-- THE FRAME, for a call that makes one new slice of its own. -/
theorem ACalls.frameOwn {f : FuncId} {args : List AVal} {k m : Nat} {t : TypeId} {es : List (List AVal)} (h : ACalls P f args [] fun r o => r = .own 0 0 k 0 m ∧ o = [(0, .row t k es)]) (ha : LowL 0 args) (hes : ∀ e ∈ es, LowL 0 e) (objs : Objs) :
    ACalls P f args objs fun r o => r = .own objs.length 0 k 0 m ∧ o = objs ++ [(0, .row t k es)] := by
  unfold ACalls at h ⊢
  intro K w vs hm hreps
  let K1 : Ctx := { K with n := 0, B := fun b => w.heap[b]?, w0 := w }
  have hm1 : MemSat K1 [] w := ⟨rfl, fun o p hp => by simp at hp, fun o p hp => by simp at hp, fun o p hp => by simp at hp, fun o o' p p' hp => by simp at hp, hm.mem, ⟨rfl, rfl, rfl, Nat.le_refl _, fun b x hx => hx⟩⟩
  have hr1 : Reps K1 args vs := ⟨hreps.1, fun i x v hx hv => Rep.low0 (K := K) (L := K1) (fun _ _ _ h => h) (hreps.2 i x v hx hv) (ha x (mem_get hx))⟩
  refine (h K1 w vs hm1 hr1).mono ?_
  rintro e w' ⟨v, r, objs', K2, rfl, hle, hm2, hrep, rfl, rfl⟩
  have hvs2 : K2.vs 0 = 0 := (hm2.ver 0 _ rfl).symm
  have hn : K.n = objs.length := hm.len.symm
  let K3 : Ctx := { K with M := K2.M, ρ := fun o v => if o = K.n then K2.ρ 0 v else K.ρ o v, C := fun o v => if o = K.n then K2.C 0 v else K.C o v, n := K.n + 1, vs := fun o => if o = K.n then 0 else K.vs o }
  have hB : ∀ b x, w.heap[b]? = some x → w'.heap[b]? = some x := fun b x hx => hm2.below.block b x (by rw [hle.B]; exact hx)
  have hM0 : ∀ b i x, w.heap[b]? = some x → K2.M b i = K.M b i := fun b i x hx => hle.M0 b i x hx
  have hsz : w.heap.size ≤ w'.heap.size := by have := hm2.below.size; rw [hle.w0] at this; exact this
  have eρ : ∀ o v, o < K.n → K3.ρ o v = K.ρ o v := fun o v ho => by show (if o = K.n then _ else _) = _; rw [if_neg (by omega)]
  have eC : ∀ o v, o < K.n → K3.C o v = K.C o v := fun o v ho => by show (if o = K.n then _ else _) = _; rw [if_neg (by omega)]
  have ev : ∀ o, o < K.n → K3.vs o = K.vs o := fun o ho => by show (if o = K.n then _ else _) = _; rw [if_neg (by omega)]
  have eρn : ∀ v, K3.ρ K.n v = K2.ρ 0 v := fun v => by show (if K.n = K.n then _ else _) = _; rw [if_pos rfl]
  have eCn : ∀ v, K3.C K.n v = K2.C 0 v := fun v => by show (if K.n = K.n then _ else _) = _; rw [if_pos rfl]
  have evn : K3.vs K.n = 0 := by show (if K.n = K.n then _ else _) = _; rw [if_pos rfl]
  have hKL : K.le K3 := ⟨hle.M, fun o v ho _ => eρ o v ho, fun o v ho _ => eC o v ho, Nat.le_succ _, fun o ho => by rw [ev o ho]; exact Nat.le_refl _, rfl, rfl, fun b i x hx => hM0 b i x (hm.below.block b x hx)⟩
  have blk : ∀ b, b < w.heap.size → ∃ x, w.heap[b]? = some x := fun b hb => ⟨_, Array.getElem?_eq_getElem hb⟩
  -- the new block lies beyond all old ones
  have hnew : K2.C 0 0 ≠ 0 → w.heap.size ≤ K2.ρ 0 0 ∧ K2.ρ 0 0 < w'.heap.size ∧ (∀ i, K2.M (K2.ρ 0 0) i = none) := by
    intro hC
    obtain ⟨q1, q2, q3⟩ := hm2.lo 0 _ rfl rfl hC
    refine ⟨?_, q2, q3⟩
    rcases Nat.lt_or_ge (K2.ρ 0 0) w.heap.size with h' | h'
    · obtain ⟨x, hx⟩ := blk _ h'
      have : K2.B (K2.ρ 0 0) = some x := by rw [hle.B]; exact hx
      rw [q1] at this; cases this
    · exact h'
  have cases_o : ∀ (o : Nat) (p : Nat × AObj), (objs ++ [(0, AObj.row t k es)])[o]? = some p → (objs[o]? = some p ∧ o < K.n) ∨ (o = K.n ∧ p = (0, .row t k es)) := by
    intro o p hp
    rcases Nat.lt_trichotomy o K.n with hlt | heq | hgt
    · left
      rw [List.getElem?_append_left (by omega)] at hp
      exact ⟨hp, hlt⟩
    · right
      subst heq
      rw [List.getElem?_append_right (by omega), ← hn, Nat.sub_self] at hp
      exact ⟨rfl, by simpa using hp.symm⟩
    · rw [List.getElem?_eq_none (by simp; omega)] at hp
      cases hp
  refine ⟨v, .own objs.length 0 k 0 m, objs ++ [(0, .row t k es)], K3, rfl, hKL, ⟨by simp [K3, hn], fun o p hp => ?_, fun o p hp => ?_, fun o p hp hlv hC => ?_, fun o o' p p' hp hp' hl hl' hC hC' hne => ?_, hm2.mem, ⟨?_, ?_, ?_, Nat.le_trans hm.below.size hsz, fun b x hx => hB b x (hm.below.block b x hx)⟩⟩, ?_, rfl, rfl⟩
  · rcases cases_o o p hp with ⟨hp, hlt⟩ | ⟨rfl, rfl⟩
    · rw [ev o hlt]; exact hm.ver o p hp
    · exact evn.symm
  · rcases cases_o o p hp with ⟨hp, hlt⟩ | ⟨rfl, rfl⟩
    · refine (hm.obj o p hp).mono hKL hlt (by rw [hm.ver o p hp]; exact Nat.le_refl _) (fun hlv hC => ?_)
      obtain ⟨x, hx⟩ := blk _ (hm.lo o p hp hlv hC).2.1
      rw [hx]; exact hB _ x hx
    · obtain ⟨q1, q2, q3⟩ := hm2.obj 0 _ rfl
      refine ⟨q1, by rw [eCn]; exact q2, fun hC => ?_⟩
      rw [eCn] at hC ⊢
      rw [eρn]
      obtain ⟨c, r1, r2, r3, r4⟩ := q3 hC
      refine ⟨c, r1, r2, r3, fun i j e x he hx => ?_⟩
      obtain ⟨u, hu, hru⟩ := r4 i j e x he hx
      exact ⟨u, hu, Rep.low0 (K := K2) (L := K3) (fun _ _ _ h => h) hru (hes e (mem_get he) x (mem_get hx))⟩
  · rcases cases_o o p hp with ⟨hp, hlt⟩ | ⟨rfl, rfl⟩
    · rw [eC _ _ hlt] at hC
      rw [eρ _ _ hlt]
      obtain ⟨h1, h2, h3⟩ := hm.lo o p hp hlv hC
      obtain ⟨x, hx⟩ := blk _ h2
      exact ⟨h1, Nat.lt_of_lt_of_le h2 hsz, fun i => (hM0 _ i x hx).trans (h3 i)⟩
    · rw [eCn] at hC
      show K3.B (K3.ρ K.n 0) = none ∧ K3.ρ K.n 0 < _ ∧ ∀ i, K3.M (K3.ρ K.n 0) i = none
      rw [eρn]
      obtain ⟨r1, r2, r3⟩ := hnew hC
      exact ⟨hm.below.fresh r1, r2, r3⟩
  · rcases cases_o o p hp with ⟨hp, hlt⟩ | ⟨rfl, rfl⟩ <;> rcases cases_o o' p' hp' with ⟨hp', hlt'⟩ | ⟨rfl, rfl⟩
    · rw [eρ _ _ hlt, eρ _ _ hlt']
      rw [eC _ _ hlt] at hC
      rw [eC _ _ hlt'] at hC'
      exact hm.dis o o' p p' hp hp' hl hl' hC hC' hne
    · rw [eρ _ _ hlt]
      rw [eC _ _ hlt] at hC
      rw [eCn] at hC'
      show _ ≠ K3.ρ K.n 0
      rw [eρn]
      have := (hm.lo o p hp hl hC).2.1
      have := (hnew hC').1
      omega
    · rw [eρ _ _ hlt']
      rw [eC _ _ hlt'] at hC'
      rw [eCn] at hC
      show K3.ρ K.n 0 ≠ _
      rw [eρn]
      have := (hm.lo o' p' hp' hl' hC').2.1
      have := (hnew hC).1
      omega
    · exact absurd rfl hne
  · have := hm2.below.os; rw [hle.w0] at this; exact this.trans hm.below.os
  · have := hm2.below.tape; rw [hle.w0] at this; exact this.trans hm.below.tape
  · have := hm2.below.output; rw [hle.w0] at this; exact this.trans hm.below.output
  · rw [← hn]
    obtain ⟨_, _, hcase⟩ := rep_own hrep
    rcases hcase with ⟨_, rfl, rfl⟩ | ⟨a, c, rfl, q1, q2, q3⟩
    · exact .ownNil _ _ _ (Nat.lt_succ_self _) (Nat.zero_le _)
    · exact .own _ _ _ _ _ (Nat.lt_succ_self _) (Nat.zero_le _) a c q1 (by rw [eCn]; exact q2) (by rw [eρn]; exact q3)

theorem I_eq {a b : Int} (h : a = b) : AVal.lit (.int .i64 a) = .lit (.int .i64 b) := by rw [h]
theorem B_eq {a b : Bool} (h : a = b) : AVal.lit (.bool a) = .lit (.bool b) := by rw [h]

end
end Go.Fw
