/-
  The abstract values, what they stand for in a world, and how that is kept when the world grows. Program-independent; no condition.
-/
import Derived.Calls
import Derived.Below
import Derived.Laws.World
import Derived.Laws.Sem
namespace Go.Fw
set_option linter.unusedSimpArgs false
set_option linter.unusedVariables false
open Go.RowKit

/-- An abstract value: what a proof knows of a value. -/
inductive AVal where
  | any
  | lit (v : Value)
  | agg (cs : List AVal)
  | tup (cs : List AVal)
  /-- a slice over memory that nobody writes: n elements of k cells each; tight: its capacity is its length -/
  | seq (k n : Nat) (tight : Bool) (f : Nat → List AVal)
  /-- a pointer into memory that nobody writes -/
  | ref (cs : List AVal)
  /-- a pointer to element i, cell j of an object of k cells an element -/
  | ptr (o ver k i j : Nat)
  /-- a slice over an object: from element off on -/
  | own (o ver k off len : Nat)
  | fn (f : Fn) (first captured : List AVal)
  | ifc (t : TypeId) (a : AVal)
  | map (o : Nat)
  deriving Inhabited

/-- What ties abstract objects to blocks. -/
structure Ctx where
  M : Nat → Nat → Option Value
  ρ : Nat → Nat → Nat
  C : Nat → Nat → Nat
  n : Nat
  vs : Nat → Nat
  /-- blocks that stay as they are -/
  B : Nat → Option Obj
  w0 : World

inductive Rep (K : Ctx) : AVal → Value → Prop where
  | any (v : Value) : Rep K .any v
  | lit (v : Value) : Rep K (.lit v) v
  | agg (cs : List AVal) (vs : List Value) (hl : vs.length = cs.length) (h1 : ∀ v ∈ vs, v.oneCell' = true) (h : ∀ (i : Nat) (x : AVal) (v : Value), cs[i]? = some x → vs[i]? = some v → Rep K x v) : Rep K (.agg cs) (.agg vs.toArray)
  | tup (cs : List AVal) (vs : List Value) (hl : vs.length = cs.length) (h : ∀ (i : Nat) (x : AVal) (v : Value), cs[i]? = some x → vs[i]? = some v → Rep K x v) : Rep K (.tup cs) (.tuple vs.toArray)
  | nil (k : Nat) (tight : Bool) (f : Nat → List AVal) : Rep K (.seq k 0 tight f) (.slice none 0 0)
  | empty (k : Nat) (tight : Bool) (f : Nat → List AVal) (a : Addr) (c : Nat) (ht : tight = true → c = 0) : Rep K (.seq k 0 tight f) (.slice (some a) 0 c)
  | seq (k n : Nat) (tight : Bool) (f : Nat → List AVal) (b off c : Nat) (u : Nat → Nat → Value) (hc : n ≤ c) (ht : tight = true → c = n)
      (hk : ∀ i, i < n → (f i).length = k) (hM : ∀ i j, i < n → j < k → K.M b (off + (i * k + j)) = some (u i j))
      (h : ∀ (i j : Nat) (x : AVal), i < n → (f i)[j]? = some x → Rep K x (u i j)) : Rep K (.seq k n tight f) (.slice (some ⟨b, off, none⟩) n c)
  | ref (cs : List AVal) (b off : Nat) (u : Nat → Value) (hM : ∀ j, j < cs.length → K.M b (off + j) = some (u j))
      (h : ∀ (j : Nat) (x : AVal), cs[j]? = some x → Rep K x (u j)) : Rep K (.ref cs) (.pointer (some ⟨b, off, none⟩))
  | ptr (o ver k i j : Nat) (ho : o < K.n) (hv : ver ≤ K.vs o) : Rep K (.ptr o ver k i j) (.pointer (some ⟨K.ρ o ver, i * k + j, none⟩))
  | own (o ver k off len : Nat) (ho : o < K.n) (hv : ver ≤ K.vs o) (a : Addr) (c : Nat) (hl : len ≤ c) (hC : off + c ≤ K.C o ver) (ha : c ≠ 0 → a = ⟨K.ρ o ver, off * k, none⟩) :
      Rep K (.own o ver k off len) (.slice (some a) len c)
  | fn (f : Fn) (xs ys : List AVal) (vs us : List Value) (hl : vs.length = xs.length) (hm : us.length = ys.length)
      (h : ∀ (i : Nat) (x : AVal) (v : Value), xs[i]? = some x → vs[i]? = some v → Rep K x v) (g : ∀ (i : Nat) (x : AVal) (v : Value), ys[i]? = some x → us[i]? = some v → Rep K x v) : Rep K (.fn f xs ys) (.func f vs.toArray us.toArray)
  | ifc (t : TypeId) (a : AVal) (v : Value) (h : Rep K a v) : Rep K (.ifc t a) (.iface t v)
  | map (o : Nat) (ho : o < K.n) : Rep K (.map o) (.map (some (K.ρ o 0)))
  | ownNil (o ver k : Nat) (ho : o < K.n) (hv : ver ≤ K.vs o) : Rep K (.own o ver k 0 0) (.slice none 0 0)

/-- Values stand for a list of abstract ones, one by one. -/
def Reps (K : Ctx) (xs : List AVal) (vs : List Value) : Prop := vs.length = xs.length ∧ ∀ (i : Nat) (x : AVal) (v : Value), xs[i]? = some x → vs[i]? = some v → Rep K x v

/-- The context has grown: memory that nobody writes is still there, objects lie where they lay. -/
structure Ctx.le (K L : Ctx) : Prop where
  M : ∀ b i u, K.M b i = some u → L.M b i = some u
  ρ : ∀ o v, o < K.n → v ≤ K.vs o → L.ρ o v = K.ρ o v
  C : ∀ o v, o < K.n → v ≤ K.vs o → L.C o v = K.C o v
  n : K.n ≤ L.n
  vs : ∀ o, o < K.n → K.vs o ≤ L.vs o
  w0 : L.w0 = K.w0
  B : L.B = K.B
  /-- nothing is added to what is never written, in blocks that were there -/
  M0 : ∀ b i x, K.B b = some x → L.M b i = K.M b i

theorem Ctx.le.refl (K : Ctx) : K.le K := ⟨fun _ _ _ h => h, fun _ _ _ _ => rfl, fun _ _ _ _ => rfl, Nat.le_refl _, fun _ _ => Nat.le_refl _, rfl, rfl, fun _ _ _ _ => rfl⟩

theorem Ctx.le.trans {K L N : Ctx} (h : K.le L) (g : L.le N) : K.le N :=
  ⟨fun b i u hu => g.M b i u (h.M b i u hu),
   fun o v ho hv => (g.ρ o v (Nat.lt_of_lt_of_le ho h.n) (Nat.le_trans hv (h.vs o ho))).trans (h.ρ o v ho hv),
   fun o v ho hv => (g.C o v (Nat.lt_of_lt_of_le ho h.n) (Nat.le_trans hv (h.vs o ho))).trans (h.C o v ho hv),
   Nat.le_trans h.n g.n, fun o ho => Nat.le_trans (h.vs o ho) (g.vs o (Nat.lt_of_lt_of_le ho h.n)), g.w0.trans h.w0, g.B.trans h.B, fun b i x hx => (g.M0 b i x (by rw [h.B]; exact hx)).trans (h.M0 b i x hx)⟩

theorem Rep.mono {K L : Ctx} (hKL : K.le L) {x : AVal} {v : Value} (h : Rep K x v) : Rep L x v := by
  induction h with
  | any v => exact .any v
  | lit v => exact .lit v
  | agg cs vs hl h1 _ ih => exact .agg cs vs hl h1 ih
  | tup cs vs hl _ ih => exact .tup cs vs hl ih
  | nil k t f => exact .nil k t f
  | empty k t f a c ht => exact .empty k t f a c ht
  | seq k n t f b off c u hc ht hk hM _ ih => exact .seq k n t f b off c u hc ht hk (fun i j hi hj => hKL.M _ _ _ (hM i j hi hj)) ih
  | ref cs b off u hM _ ih => exact .ref cs b off u (fun j hj => hKL.M _ _ _ (hM j hj)) ih
  | ptr o ver k i j ho hv =>
    rw [← hKL.ρ o ver ho hv]
    exact .ptr o ver k i j (Nat.lt_of_lt_of_le ho hKL.n) (Nat.le_trans hv (hKL.vs o ho))
  | own o ver k off len ho hv a c hl hC ha =>
    exact .own o ver k off len (Nat.lt_of_lt_of_le ho hKL.n) (Nat.le_trans hv (hKL.vs o ho)) a c hl (by rw [hKL.C o ver ho hv]; exact hC) (by rw [hKL.ρ o ver ho hv]; exact ha)
  | fn f xs ys vs us hl hm _ _ ih1 ih2 => exact .fn f xs ys vs us hl hm ih1 ih2
  | ifc t a v _ ih => exact .ifc t a v ih
  | map o ho =>
    rw [← hKL.ρ o 0 ho (Nat.zero_le _)]
    exact .map o (Nat.lt_of_lt_of_le ho hKL.n)
  | ownNil o ver k ho hv => exact .ownNil o ver k (Nat.lt_of_lt_of_le ho hKL.n) (Nat.le_trans hv (hKL.vs o ho))

theorem Reps.mono {K L : Ctx} (hKL : K.le L) {xs : List AVal} {vs : List Value} (h : Reps K xs vs) : Reps L xs vs :=
  ⟨h.1, fun i x v hx hv => (h.2 i x v hx hv).mono hKL⟩

theorem Reps.nil (K : Ctx) : Reps K [] [] := ⟨rfl, fun i x v h => by simp at h⟩
theorem Reps.cons {K : Ctx} {x : AVal} {v : Value} {xs : List AVal} {vs : List Value} (h : Rep K x v) (t : Reps K xs vs) : Reps K (x :: xs) (v :: vs) := by
  refine ⟨by simp [t.1], fun i y u hy hu => ?_⟩
  cases i with
  | zero => simp at hy hu; subst hy hu; exact h
  | succ i => simp at hy hu; exact t.2 i y u hy hu
theorem Reps.append {K : Ctx} {xs ys : List AVal} {vs us : List Value} (h : Reps K xs vs) (g : Reps K ys us) : Reps K (xs ++ ys) (vs ++ us) := by
  induction xs generalizing vs with
  | nil => cases vs with
    | nil => exact g
    | cons v vs => exact absurd h.1 (by simp)
  | cons x xs ih => cases vs with
    | nil => exact absurd h.1 (by simp)
    | cons v vs => exact Reps.cons (h.2 0 x v rfl rfl) (ih ⟨by have := h.1; simpa using this, fun i y u hy hu => h.2 (i + 1) y u (by simpa using hy) (by simpa using hu)⟩)

/-- An object that the proof may write. -/
inductive AObj where
  | dead
  | row (t : TypeId) (k : Nat) (es : List (List AVal))
  deriving Inhabited

abbrev Objs := List (Nat × AObj)

def AObj.live : AObj → Bool
  | .dead => false
  | _ => true

/-- What an object says of its block. An object of capacity 0 has none. -/
def ObjSat (K : Ctx) (w : World) (o ver : Nat) : AObj → Prop
  | .dead => True
  | .row t k es => (∀ e ∈ es, e.length = k) ∧ es.length ≤ K.C o ver ∧ (K.C o ver ≠ 0 → ∃ c : Array Value, w.heap[K.ρ o ver]? = some (.cells c t (0, 0)) ∧ c.size = K.C o ver * k ∧ (∀ u ∈ c.toList, u.oneCell' = true) ∧
      (∀ (i j : Nat) (e : List AVal) (x : AVal), es[i]? = some e → e[j]? = some x → ∃ u, c[i * k + j]? = some u ∧ Rep K x u))

/-- What is to stay as it is, is as it was. -/
structure Prot (K : Ctx) (w : World) : Prop where
  os : w.os = K.w0.os
  tape : w.tape = K.w0.tape
  output : w.output = K.w0.output
  size : K.w0.heap.size ≤ w.heap.size
  block : ∀ b x, K.B b = some x → w.heap[b]? = some x

/-- The memory of a state: objects and what is never written. -/
structure MemSat (K : Ctx) (s : Objs) (w : World) : Prop where
  len : s.length = K.n
  ver : ∀ (o : Nat) (p : Nat × AObj), s[o]? = some p → p.1 = K.vs o
  obj : ∀ (o : Nat) (p : Nat × AObj), s[o]? = some p → ObjSat K w o p.1 p.2
  lo : ∀ (o : Nat) (p : Nat × AObj), s[o]? = some p → p.2.live = true → K.C o p.1 ≠ 0 → K.B (K.ρ o p.1) = none ∧ K.ρ o p.1 < w.heap.size ∧ ∀ i, K.M (K.ρ o p.1) i = none
  dis : ∀ (o o' : Nat) (p p' : Nat × AObj), s[o]? = some p → s[o']? = some p' → p.2.live = true → p'.2.live = true → K.C o p.1 ≠ 0 → K.C o' p'.1 ≠ 0 → o ≠ o' → K.ρ o p.1 ≠ K.ρ o' p'.1
  mem : ∀ (b i : Nat) (u : Value), K.M b i = some u → w.cell? ⟨b, i, none⟩ = some u ∧ u.oneCell' = true
  below : Prot K w

theorem Prot.fresh {K : Ctx} {w : World} (h : Prot K w) {b : Nat} (hb : w.heap.size ≤ b) : K.B b = none := by
  cases hB : K.B b with
  | none => rfl
  | some x =>
    have := h.block b x hB
    rw [Array.getElem?_eq_none hb] at this
    cases this

theorem Prot.step {K L : Ctx} {w w' : World} (h : Prot K w) (hB : L.B = K.B) (hw : L.w0 = K.w0) (os : w'.os = w.os) (tape : w'.tape = w.tape) (output : w'.output = w.output) (size : w.heap.size ≤ w'.heap.size)
    (block : ∀ b x, K.B b = some x → w'.heap[b]? = w.heap[b]?) : Prot L w' :=
  ⟨by rw [hw, os]; exact h.os, by rw [hw, tape]; exact h.tape, by rw [hw, output]; exact h.output, by rw [hw]; exact Nat.le_trans h.size size,
   fun b x hx => by rw [hB] at hx; exact (block b x hx).trans (h.block b x hx)⟩

theorem Prot.lt {K : Ctx} {w : World} (h : Prot K w) {b : Nat} {x : Obj} (hb : K.B b = some x) : b < w.heap.size := by
  rcases Nat.lt_or_ge b w.heap.size with h' | h'
  · exact h'
  · rw [h.fresh h'] at hb; cases hb

theorem Prot.alloc {K L : Ctx} {w : World} (h : Prot K w) (hB : L.B = K.B) (hw : L.w0 = K.w0) (o : Obj) : Prot L (w.alloc o) :=
  h.step hB hw rfl rfl rfl (by simp) fun b x hx => Below.heap_alloc _ _ _ (h.lt hx)

theorem Prot.drew {K : Ctx} {w : World} (h : Prot K w) : Prot K w.drew := h.step rfl rfl rfl rfl rfl (Nat.le_refl _) fun _ _ _ => rfl

end Go.Fw
