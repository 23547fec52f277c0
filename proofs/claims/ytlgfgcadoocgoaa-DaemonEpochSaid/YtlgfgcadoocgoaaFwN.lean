/-
  Leaving a function; the frame; the law's own call.
-/
import Derived.Test.YtlgfgcadoocgoaaFwM
namespace Go.Fw
set_option linter.unusedSimpArgs false
set_option linter.unusedVariables false
open Go.RowKit

attribute [local irreducible] ACalls

/-- No object from number n on is named. -/
inductive Low (n : Nat) : AVal → Prop where
  | any : Low n .any
  | lit (v : Value) : Low n (.lit v)
  | agg (cs : List AVal) (h : ∀ x ∈ cs, Low n x) : Low n (.agg cs)
  | tup (cs : List AVal) (h : ∀ x ∈ cs, Low n x) : Low n (.tup cs)
  | seq (k m : Nat) (t : Bool) (f : Nat → List AVal) (h : ∀ i, i < m → ∀ x ∈ f i, Low n x) : Low n (.seq k m t f)
  | ref (cs : List AVal) (h : ∀ x ∈ cs, Low n x) : Low n (.ref cs)
  | ptr (o ver k i j : Nat) (h : o < n) : Low n (.ptr o ver k i j)
  | own (o ver k off len : Nat) (h : o < n) : Low n (.own o ver k off len)
  | fn (f : Fn) (xs ys : List AVal) (h : ∀ x ∈ xs, Low n x) (g : ∀ x ∈ ys, Low n x) : Low n (.fn f xs ys)
  | ifc (t : TypeId) (a : AVal) (h : Low n a) : Low n (.ifc t a)
  | map (o : Nat) (h : o < n) : Low n (.map o)

/-- The same, by computation, for values of one cell. -/
def low0 : AVal → Bool
  | .any => true
  | .lit _ => true
  | _ => false

theorem low0_sound {n : Nat} {x : AVal} (h : low0 x = true) : Low n x := by
  cases x <;> first | exact .any | exact .lit _ | cases h

def low1 : AVal → Bool
  | .agg cs => cs.all low0
  | x => low0 x

theorem low1_sound {n : Nat} {x : AVal} (h : low1 x = true) : Low n x := by
  cases x with
  | agg cs => exact .agg cs fun x hx => low0_sound (List.all_eq_true.1 h x hx)
  | _ => exact low0_sound h

def low2 : AVal → Bool
  | .tup cs => cs.all low1
  | x => low1 x

theorem low2_sound {n : Nat} {x : AVal} (h : low2 x = true) : Low n x := by
  cases x with
  | tup cs => exact .tup cs fun x hx => low1_sound (List.all_eq_true.1 h x hx)
  | _ => exact low1_sound h

theorem mem_get {α : Type} {l : List α} {i : Nat} {x : α} (h : l[i]? = some x) : x ∈ l := List.mem_of_getElem? h

/-- What names no object depends on memory alone. -/
theorem Rep.low0 {K L : Ctx} (hM : ∀ b i u, K.M b i = some u → L.M b i = some u) {x : AVal} {v : Value} (h : Rep K x v) : Low 0 x → Rep L x v := by
  induction h with
  | any v => exact fun _ => .any v
  | lit v => exact fun _ => .lit v
  | agg cs vs hl h1 _ ih => exact fun hl' => by cases hl' with | agg _ h => exact .agg cs vs hl h1 fun i x v hx hv => ih i x v hx hv (h x (mem_get hx))
  | tup cs vs hl _ ih => exact fun hl' => by cases hl' with | tup _ h => exact .tup cs vs hl fun i x v hx hv => ih i x v hx hv (h x (mem_get hx))
  | nil k t f => exact fun _ => .nil k t f
  | empty k t f a c ht => exact fun _ => .empty k t f a c ht
  | seq k n t f b off c u hc ht hk hM' _ ih => exact fun hl' => by cases hl' with | seq _ _ _ _ h => exact .seq k n t f b off c u hc ht hk (fun i j hi hj => hM _ _ _ (hM' i j hi hj)) fun i j x hi hx => ih i j x hi hx (h i hi x (mem_get hx))
  | ref cs b off u hM' _ ih => exact fun hl' => by cases hl' with | ref _ h => exact .ref cs b off u (fun j hj => hM _ _ _ (hM' j hj)) fun j x hx => ih j x hx (h x (mem_get hx))
  | ptr o ver k i j ho hv => exact fun hl' => by cases hl' with | ptr _ _ _ _ _ h => exact absurd h (by omega)
  | own o ver k off len ho hv a c hl hC ha => exact fun hl' => by cases hl' with | own _ _ _ _ _ h => exact absurd h (by omega)
  | fn f xs ys vs us hl hm _ _ ih1 ih2 => exact fun hl' => by cases hl' with | fn _ _ _ h g => exact .fn f xs ys vs us hl hm (fun i x v hx hv => ih1 i x v hx hv (h x (mem_get hx))) fun i x v hx hv => ih2 i x v hx hv (g x (mem_get hx))
  | ifc t a v _ ih => exact fun hl' => by cases hl' with | ifc _ _ h => exact .ifc t a v (ih h)
  | map o ho => exact fun hl' => by cases hl' with | map _ h => exact absurd h (by omega)
  | ownNil o ver k ho hv => exact fun hl' => by cases hl' with | own _ _ _ _ _ h => exact absurd h (by omega)

/-- The context without objects. -/
def Ctx.bare (K : Ctx) : Ctx := { K with n := 0 }

theorem MemSat.bare {K : Ctx} {objs : Objs} {w : World} (h : MemSat K objs w) : MemSat K.bare [] w :=
  ⟨rfl, fun o p hp => by simp at hp, fun o p hp => by simp at hp, fun o p hp => by simp at hp, fun o o' p p' hp => by simp at hp, h.mem, h.below.step (L := K.bare) rfl rfl rfl rfl rfl (Nat.le_refl _) fun _ _ _ => rfl⟩

theorem le_bare {K0 K : Ctx} (hn : K0.n = 0) (h : K0.le K) : K0.le K.bare :=
  ⟨h.M, fun o v ho => absurd ho (by omega), fun o v ho => absurd ho (by omega), by simp [hn], fun o ho => absurd ho (by omega), h.w0, h.B, h.M0⟩

/-- A result that names no object; the objects are let go. -/
theorem told_low {r : AVal} {objs : Objs} (hl : Low 0 r) : Told 0 r objs r [] := by
  intro K0 K w v hn hle hm hr
  exact ⟨K.bare, le_bare hn hle, hm.bare, Rep.low0 (K := K) (L := K.bare) (fun _ _ _ h => h) hr hl⟩

theorem told_low2 {r : AVal} {objs : Objs} (hl : low2 r = true) : Told 0 r objs r [] := told_low (low2_sound hl)

theorem Told.trans {n : Nat} {r r1 r2 : AVal} {o o1 o2 : Objs} (h : Told n r o r1 o1) (g : Told n r1 o1 r2 o2) : Told n r o r2 o2 := by
  intro K0 K w v hn hle hm hr
  obtain ⟨K1, hle1, hm1, hr1⟩ := h K0 K w v hn hle hm hr
  exact g K0 K1 w v hn hle1 hm1 hr1

/-- The context in which every object is never written again. -/
def Ctx.still (K : Ctx) (objs : Objs) (w : World) : Ctx :=
  { K with M := fun b i => match K.M b i with
      | some u => some u
      | none => if K.B b = none then (match w.cell? ⟨b, i, none⟩ with | some u => if u.oneCell' then some u else none | none => none) else none }

theorem le_still (K : Ctx) (objs : Objs) (w : World) : K.le (K.still objs w) := by
  refine ⟨fun b i u hu => by simp [Ctx.still, hu], fun _ _ _ _ => rfl, fun _ _ _ _ => rfl, Nat.le_refl _, fun _ _ => Nat.le_refl _, rfl, rfl, fun b i x hx => ?_⟩
  simp only [Ctx.still]
  cases hM : K.M b i with
  | some u => rfl
  | none => simp [hx]

/-- An own slice becomes one that nobody writes: all objects are let go. -/
def viewOwn (objs : Objs) : AVal → Option AVal
  | .own o ver k off len => match rowOf objs o ver k with | some (_, es) => some (.seq k len false fun i => es.getD (off + i) []) | none => none
  | _ => none

theorem own_still {K : Ctx} {objs : Objs} {w : World} (hm : MemSat K objs w) {o ver k off len : Nat} {t : TypeId} {es : List (List AVal)} {v : Value} (hp : objs[o]? = some (ver, .row t k es)) (hle : off + len ≤ es.length)
    (hr : Rep K (.own o ver k off len) v) : Rep (K.still objs w) (.seq k len false fun i => es.getD (off + i) []) v := by
  obtain ⟨ho, hv, hcase⟩ := rep_own hr
  rcases hcase with ⟨rfl, rfl, rfl⟩ | ⟨a, c, rfl, hlc, hC, ha⟩
  · exact .nil _ _ _
  · refine rep_seq_mk hlc (fun h => by cases h) (fun h => by cases h) (fun hpos => ?_)
    have := ha (by omega)
    subst this
    have hC0 : K.C o ver ≠ 0 := by omega
    obtain ⟨cc, hcc, hs, h1, hrep⟩ := hm.rowBlock hp hC0
    have hlo := hm.lo o _ hp rfl hC0
    have hel := (hm.obj o _ hp).1
    have get : ∀ i, i < len → ∃ e, es[off + i]? = some e ∧ es.getD (off + i) [] = e ∧ e.length = k := by
      intro i hi
      have hlt : off + i < es.length := by omega
      refine ⟨es[off + i], List.getElem?_eq_getElem hlt, by simp [hlt], hel _ (List.getElem_mem hlt)⟩
    refine ⟨K.ρ o ver, off * k, fun i j => (cc[(off + i) * k + j]?).getD undef, rfl, fun i hi => ?_, fun i j hi hj => ?_, fun i j x hi hx => ?_⟩
    · obtain ⟨e, _, he, hk⟩ := get i hi; rw [he]; exact hk
    · obtain ⟨e, he, _, hk⟩ := get i hi
      obtain ⟨u, hu, _⟩ := hrep (off + i) j e _ he (List.getElem?_eq_getElem (by omega))
      have hcell : w.cell? ⟨K.ρ o ver, off * k + (i * k + j), none⟩ = some u := by
        rw [← Nat.add_assoc, ← Nat.add_mul]
        simp [World.cell?, hcc, hu]
      simp only [Ctx.still, hlo.2.2, hlo.1, if_true, hcell, hu, Option.getD_some]
      rw [if_pos (h1 u (Array.mem_toList_iff.2 (Array.mem_of_getElem? hu)))]
    · obtain ⟨e, he, he', hk⟩ := get i hi
      rw [he'] at hx
      obtain ⟨u, hu, hru⟩ := hrep (off + i) j e x he hx
      simp only [hu, Option.getD_some]
      exact hru.mono (le_still K objs w)

theorem MemSat.still {K : Ctx} {objs : Objs} {w : World} (h : MemSat K objs w) : MemSat (K.still objs w).bare [] w := by
  refine ⟨rfl, fun o p hp => by simp at hp, fun o p hp => by simp at hp, fun o p hp => by simp at hp, fun o o' p p' hp => by simp at hp, fun b i u hu => ?_, h.below.step (L := (K.still objs w).bare) rfl rfl rfl rfl rfl (Nat.le_refl _) fun _ _ _ => rfl⟩
  simp only [Ctx.still, Ctx.bare] at hu
  split at hu
  · rename_i u' hM; simp only [Option.some.injEq] at hu; subst hu; exact h.mem b i u' hM
  · split at hu
    · split at hu
      · rename_i u' hc
        split at hu
        · rename_i h1; simp only [Option.some.injEq] at hu; subst hu; exact ⟨hc, h1⟩
        · cases hu
      · cases hu
    · cases hu

/-- A result and what it is told as, once the objects are never written again. -/
def Seen (objs : Objs) (r0 r : AVal) : Prop := ∀ (K : Ctx) (w : World) (v : Value), MemSat K objs w → Rep K r0 v → Rep (K.still objs w) r v

theorem told_seen {r0 r : AVal} {objs : Objs} (hs : Seen objs r0 r) (hl : Low 0 r) : Told 0 r0 objs r [] := by
  intro K0 K w v hn hle hm hr
  exact ⟨(K.still objs w).bare, le_bare hn (hle.trans (le_still K objs w)), hm.still, Rep.low0 (K := K.still objs w) (L := (K.still objs w).bare) (fun _ _ _ h => h) (hs K w v hm hr) hl⟩

theorem Seen.refl (objs : Objs) (r : AVal) : Seen objs r r := fun K w v _ h => h.mono (le_still K objs w)

theorem Seen.own {objs : Objs} {o ver k off len : Nat} {t : TypeId} {es : List (List AVal)} (hp : objs[o]? = some (ver, .row t k es)) (hle : off + len ≤ es.length) : Seen objs (.own o ver k off len) (.seq k len false fun i => es.getD (off + i) []) :=
  fun _ _ _ hm h => own_still hm hp hle h

theorem Seen.cells {objs : Objs} {xs ys : List AVal} (h : ∀ (i : Nat) (x : AVal), xs[i]? = some x → ∃ y, ys[i]? = some y ∧ Seen objs x y) (hl : ys.length = xs.length) {K : Ctx} {w : World} (hm : MemSat K objs w) {vs : List Value} (hr : Reps K xs vs) : Reps (K.still objs w) ys vs := by
  refine ⟨hr.1.trans hl.symm, fun i y v hy hv => ?_⟩
  have hi : i < xs.length := by have := (List.getElem?_eq_some_iff.1 hy).1; omega
  obtain ⟨y', hy', hs⟩ := h i xs[i] (List.getElem?_eq_getElem hi)
  rw [hy] at hy'
  simp only [Option.some.injEq] at hy'
  subst hy'
  exact hs K w v hm (hr.2 i _ v (List.getElem?_eq_getElem hi) hv)

inductive SeenL (objs : Objs) : List AVal → List AVal → Prop where
  | nil : SeenL objs [] []
  | cons (x y : AVal) (xs ys : List AVal) (h : Seen objs x y) (t : SeenL objs xs ys) : SeenL objs (x :: xs) (y :: ys)

theorem SeenL.reps {objs : Objs} {xs ys : List AVal} (h : SeenL objs xs ys) {K : Ctx} {w : World} (hm : MemSat K objs w) : ∀ {vs : List Value}, Reps K xs vs → Reps (K.still objs w) ys vs := by
  induction h with
  | nil => intro vs hr; exact ⟨hr.1, fun i x v hx => by simp at hx⟩
  | cons x y xs ys hs _ ih =>
    intro vs hr
    match vs, hr with
    | [], hr => exact absurd hr.1 (by simp)
    | v :: vs, hr =>
      refine Reps.cons (hs K w v hm (hr.2 0 x v rfl rfl)) (ih ⟨by have := hr.1; simpa using this, fun i x v hx hv => hr.2 (i + 1) x v (by simpa using hx) (by simpa using hv)⟩)

theorem Seen.tup {objs : Objs} {xs ys : List AVal} (h : SeenL objs xs ys) : Seen objs (.tup xs) (.tup ys) := by
  intro K w v hm hr
  obtain ⟨vs, rfl, hr2⟩ := rep_tup hr
  have := h.reps hm hr2
  exact .tup ys vs this.1 this.2

theorem Seen.agg {objs : Objs} {xs ys : List AVal} (h : SeenL objs xs ys) : Seen objs (.agg xs) (.agg ys) := by
  intro K w v hm hr
  obtain ⟨vs, rfl, hr2, h1⟩ := rep_agg hr
  have := h.reps hm hr2
  exact .agg ys vs this.1 h1 this.2

/-- Only the elements that there are count. -/
theorem Seen.seqCongr {objs : Objs} {k n : Nat} {t t' : Bool} {f g : Nat → List AVal} (h : ∀ i, i < n → f i = g i) (ht : t' = true → t = true) : Seen objs (.seq k n t f) (.seq k n t' g) := by
  intro K w v hm hr
  obtain ⟨A, c, rfl, hc, htt, hA, hx⟩ := rep_seq hr
  refine rep_seq_mk hc (fun h => htt (ht h)) hA (fun hpos => ?_)
  obtain ⟨b, off, u, hA, hk, hM, hru⟩ := hx hpos
  exact ⟨b, off, u, hA, fun i hi => by rw [← h i hi]; exact hk i hi, fun i j hi hj => (le_still K objs w).M _ _ _ (hM i j hi hj), fun i j x hi hx => (hru i j x hi (by rw [h i hi]; exact hx)).mono (le_still K objs w)⟩

theorem Seen.trans' {objs : Objs} {a b c : AVal} (h : Seen objs a b) (g : ∀ (K : Ctx) (v : Value), Rep K b v → Rep K c v) : Seen objs a c := fun K w v hm hr => g _ v (h K w v hm hr)

/-- Over a slice: only the elements that there are count. -/
theorem rep_seqCongr {K : Ctx} {k n : Nat} {t t' : Bool} {f g : Nat → List AVal} {v : Value} (h : ∀ i, i < n → f i = g i) (ht : t' = true → t = true) (hr : Rep K (.seq k n t f) v) : Rep K (.seq k n t' g) v := by
  obtain ⟨A, c, rfl, hc, htt, hA, hx⟩ := rep_seq hr
  refine rep_seq_mk hc (fun h => htt (ht h)) hA (fun hpos => ?_)
  obtain ⟨b, off, u, hA, hk, hM, hru⟩ := hx hpos
  exact ⟨b, off, u, hA, fun i hi => by rw [← h i hi]; exact hk i hi, hM, fun i j x hi hx => hru i j x hi (by rw [h i hi]; exact hx)⟩

theorem Seen.nil (objs : Objs) (k : Nat) (t : Bool) (f : Nat → List AVal) : Seen objs (.lit (.slice none 0 0)) (.seq k 0 t f) := by
  intro K w v hm hr
  have := rep_lit hr
  subst this
  exact .nil k t f

section
variable {P : Program}

/-- THE FRAME: a contract over no objects serves over all. -/
theorem ACalls.frame {f : FuncId} {args : List AVal} {R : AVal → Prop} (h : ACalls P f args [] fun r o => R r ∧ o = []) (ha : ∀ x ∈ args, Low 0 x) (hl : ∀ r, R r → Low 0 r) (objs : Objs) :
    ACalls P f args objs fun r o => R r ∧ o = objs := by
  unfold ACalls at h ⊢
  intro K w vs hm hreps
  let K1 : Ctx := { K with n := 0, B := fun b => w.heap[b]?, w0 := w }
  have hm1 : MemSat K1 [] w := ⟨rfl, fun o p hp => by simp at hp, fun o p hp => by simp at hp, fun o p hp => by simp at hp, fun o o' p p' hp => by simp at hp, hm.mem, ⟨rfl, rfl, rfl, Nat.le_refl _, fun b x hx => hx⟩⟩
  have hr1 : Reps K1 args vs := ⟨hreps.1, fun i x v hx hv => Rep.low0 (K := K) (L := K1) (fun _ _ _ h => h) (hreps.2 i x v hx hv) (ha x (mem_get hx))⟩
  refine (h K1 w vs hm1 hr1).mono ?_
  rintro e w' ⟨v, r, objs', K2, rfl, hle, hm2, hrep, hR, rfl⟩
  let K3 : Ctx := { K with M := K2.M }
  have hB : ∀ b x, w.heap[b]? = some x → w'.heap[b]? = some x := fun b x hx => hm2.below.block b x (by rw [hle.B]; exact hx)
  have hM0 : ∀ b i x, w.heap[b]? = some x → K2.M b i = K.M b i := fun b i x hx => hle.M0 b i x hx
  have hsz : w.heap.size ≤ w'.heap.size := by have := hm2.below.size; rw [hle.w0] at this; exact this
  have hKL : K.le K3 := ⟨hle.M, fun _ _ _ _ => rfl, fun _ _ _ _ => rfl, Nat.le_refl _, fun _ _ => Nat.le_refl _, rfl, rfl, fun b i x hx => hM0 b i x (hm.below.block b x hx)⟩
  have blk : ∀ b, b < w.heap.size → ∃ x, w.heap[b]? = some x := fun b hb => ⟨_, Array.getElem?_eq_getElem hb⟩
  refine ⟨v, r, objs, K3, rfl, hKL, ⟨hm.len, hm.ver, fun o p hp => ?_, fun o p hp hlv hC => ?_, hm.dis, hm2.mem, ⟨?_, ?_, ?_, Nat.le_trans hm.below.size hsz, fun b x hx => hB b x (hm.below.block b x hx)⟩⟩, Rep.low0 (K := K2) (L := K3) (fun _ _ _ h => h) hrep (hl r hR), hR, rfl⟩
  · refine (hm.obj o p hp).mono hKL (hm.olt hp) (by rw [hm.ver o p hp]; exact Nat.le_refl _) (fun hlv hC => ?_)
    obtain ⟨x, hx⟩ := blk _ (hm.lo o p hp hlv hC).2.1
    rw [hx]; exact hB _ x hx
  · obtain ⟨h1, h2, h3⟩ := hm.lo o p hp hlv hC
    obtain ⟨x, hx⟩ := blk _ h2
    exact ⟨h1, Nat.lt_of_lt_of_le h2 hsz, fun i => (hM0 _ i x hx).trans (h3 i)⟩
  · have := hm2.below.os; rw [hle.w0] at this; exact this.trans hm.below.os
  · have := hm2.below.tape; rw [hle.w0] at this; exact this.trans hm.below.tape
  · have := hm2.below.output; rw [hle.w0] at this; exact this.trans hm.below.output

/-- A contract 'it gives r', over no objects, over all. -/
theorem AGives.frame {f : FuncId} {args : List AVal} {r : AVal} (h : AGives P f args [] r) (ha : ∀ x ∈ args, Low 0 x) (hl : Low 0 r) (objs : Objs) : AGives P f args objs r := by
  unfold AGives at h ⊢
  exact ACalls.frame (R := fun r' => r' = r) h ha (by rintro _ rfl; exact hl) objs

theorem AGives.calls {f : FuncId} {args : List AVal} {objs : Objs} {r : AVal} {R : AVal → Objs → Prop} (h : AGives P f args objs r) (hR : R r objs) : ACalls P f args objs R :=
  ACalls.mono h (by rintro _ _ ⟨rfl, rfl⟩; exact hR)

/-- A world as the context of a law's call: all that is there stays. -/
def worldCtx (w : World) : Ctx :=
  { M := fun b i => match w.cell? ⟨b, i, none⟩ with | some u => if u.oneCell' then some u else none | none => none, ρ := fun _ _ => 0, C := fun _ _ => 0, n := 0, vs := fun _ => 0, B := fun b => w.heap[b]?, w0 := w }

theorem worldCtx_sat (w : World) : MemSat (worldCtx w) [] w := by
  refine ⟨rfl, fun o p hp => by simp at hp, fun o p hp => by simp at hp, fun o p hp => by simp at hp, fun o o' p p' hp => by simp at hp, fun b i u hu => ?_, ⟨rfl, rfl, rfl, Nat.le_refl _, fun b x hx => hx⟩⟩
  simp only [worldCtx] at hu
  split at hu
  · rename_i u' hc
    split at hu
    · rename_i h1; simp only [Option.some.injEq] at hu; subst hu; exact ⟨hc, h1⟩
    · cases hu
  · cases hu

/-- A law that answers true. -/
theorem law_calls {f : FuncId} {args : List AVal} {vs : List Value} {w : World} (h : AGives P f args [] (.lit (.bool true))) (hr : Reps (worldCtx w) args vs) :
    Calls P f vs.toArray w fun e w' => e = .returned (.bool true) ∧ Below w.heap.size w w' := by
  unfold AGives ACalls at h
  refine (h (worldCtx w) w vs (worldCtx_sat w) hr).mono ?_
  rintro e w' ⟨v, r, objs', K', rfl, hle, hm, hrep, rfl, rfl⟩
  have := rep_lit hrep
  subst this
  have hb := hm.below
  refine ⟨rfl, ⟨by have := hb.os; rw [hle.w0] at this; exact this, by have := hb.tape; rw [hle.w0] at this; exact this, by have := hb.output; rw [hle.w0] at this; exact this, by have := hb.size; rw [hle.w0] at this; exact this, fun k hk => ?_⟩⟩
  have h1 : (worldCtx w).B k = some w.heap[k] := Array.getElem?_eq_getElem hk
  rw [← hle.B] at h1
  rw [hb.block k _ h1, Array.getElem?_eq_getElem hk]

end
end Go.Fw
