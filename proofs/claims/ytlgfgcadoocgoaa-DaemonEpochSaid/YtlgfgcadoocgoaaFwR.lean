/-
  Handy forms: lists of elements as slices; ints and bools as abstract values.
-/
import Derived.Test.YtlgfgcadoocgoaaFwQ
namespace Go.Fw
set_option linter.unusedSimpArgs false
set_option linter.unusedVariables false
open Go.RowKit

theorem Told.refl {n : Nat} {r : AVal} {o : Objs} : Told n r o r o := fun _ K _ _ _ h m hr => ⟨K, h, m, hr⟩

/-- A list of elements of k cells as a slice nobody writes. -/
def listA {α : Type} (k : Nat) (c : α → List AVal) (d : α) (l : List α) : AVal := .seq k l.length false fun i => c (l.getD i d)

theorem listA_low {α : Type} {k : Nat} {c : α → List AVal} {d : α} {l : List α} {n : Nat} (h : ∀ x, (c x).all low0 = true) : Low n (listA k c d l) := low_seq fun _ => h _

theorem seen_list {α : Type} {k : Nat} {c : α → List AVal} (d : α) {objs : Objs} {o ver len : Nat} {t : TypeId} {es : List (List AVal)} (l : List α) (hp : objs[o]? = some (ver, .row t k es)) (he : es = l.map c) (hlen : len = l.length) : Seen objs (.own o ver k 0 len) (listA k c d l) := by
  subst he hlen
  have h := Seen.own (off := 0) (len := l.length) hp (by simp)
  refine h.trans' fun K v hr => rep_seqCongr (fun i hi => ?_) (fun h => h) hr
  simp [List.getD, List.getElem?_map, List.getElem?_eq_getElem hi]

theorem seen_nil {α : Type} {k : Nat} {c : α → List AVal} {d : α} {objs : Objs} : Seen objs (.lit (.slice none 0 0)) (listA k c d []) := Seen.nil objs k false _

theorem seen_seq {α : Type} {k n : Nat} {t : Bool} {f : Nat → List AVal} {c : α → List AVal} {d : α} {objs : Objs} (l : List α) (hn : n = l.length) (h : ∀ i, i < n → f i = c (l.getD i d)) : Seen objs (.seq k n t f) (listA k c d l) := by
  subst hn
  exact Seen.seqCongr h (fun h => by cases h)

theorem seen_one {α : Type} {k : Nat} {t : Bool} {f : Nat → List AVal} {c : α → List AVal} {d : α} {objs : Objs} {x : α} (h : f 0 = c x) : Seen objs (.seq k 1 t f) (listA k c d [x]) :=
  seen_seq [x] rfl fun i hi => by
    have : i = 0 := by omega
    subst this
    exact h

theorem as_nil {α : Type} {k : Nat} {c : α → List AVal} {d : α} : AsA (.lit (.slice none 0 0)) (listA k c d []) := AsA.nil

/-- A slice told as a list. -/
theorem as_list {α : Type} {k n : Nat} {t : Bool} {f : Nat → List AVal} {c : α → List AVal} {d : α} (l : List α) (hn : n = l.length) (h : ∀ i, i < n → f i = c (l.getD i d)) : AsA (.seq k n t f) (listA k c d l) := by
  subst hn
  exact AsA.seq h (fun h => by cases h)

theorem range_list {α β : Type} (l : List α) (d : α) (c : α → β) : (List.range l.length).map (fun i => c (l.getD i d)) = l.map c := by
  apply List.ext_getElem
  · simp
  · intro i h1 h2
    simp at h1
    simp [List.getD, List.getElem?_eq_getElem h1]

/-- An own slice told as a list, for a call that only reads it. -/
theorem range_take {α β : Type} (l : List α) (d : α) (c : α → β) (n : Nat) (h : n ≤ l.length) : (List.range n).map (fun i => c (l.getD i d)) = (l.take n).map c := by
  apply List.ext_getElem
  · simp; omega
  · intro i h1 h2
    simp at h1 h2
    simp [List.getD, List.getElem?_eq_getElem (show i < l.length by omega)]

theorem range_drop {α β : Type} (l : List α) (d : α) (c : α → β) (n m : Nat) (h : m = l.length - n) : (List.range m).map (fun i => c (l.getD (n + i) d)) = (l.drop n).map c := by
  subst h
  apply List.ext_getElem
  · simp
  · intro i h1 h2
    simp at h1 h2
    simp [List.getD, List.getElem?_eq_getElem (show n + i < l.length by omega)]

theorem ret_seen {r0 X : AVal} {o : Objs} (hl : Low 0 X) (hs : Seen o r0 X) : ∃ r objs', Told ([] : Objs).length r0 o r objs' ∧ (r = X ∧ objs' = []) := ⟨X, [], told_seen hs hl, rfl, rfl⟩

theorem Low.tup' {n : Nat} {xs : List AVal} (h : LowL n xs) : Low n (.tup xs) := .tup xs h

theorem wr {n : Int} (h : -9223372036854775808 ≤ n ∧ n ≤ 9223372036854775807) : IntKind.i64.wrap n = n := by rw [IntKind.wrap_i64]; omega

theorem small_of {P : Program} {e : TypeId} {n : Nat} (b : Nat) (hb : bytesA P e = b) (h : n * b ≤ 70368744177664 ∧ n ≤ 70368744177664) : smallA P e n = true := by
  unfold smallA
  rw [hb]
  exact decide_eq_true h

theorem app_ok {P : Program} {e : TypeId} {len n m : Nat} (b : Nat) (hb : bytesA P e = b) (h1 : len = n) (h : m * b ≤ 70368744177664 ∧ m ≤ 70368744177664) : (Nat.beq len n && smallA P e m) = true := by
  subst h1
  rw [small_of b hb h]
  simp

theorem erase_split {α β : Type} (l : List α) (c : α → β) (i : Nat) : (l.take i).map c ++ (l.drop (i + 1)).map c = (l.eraseIdx i).map c := by
  rw [← List.map_append, List.eraseIdx_eq_take_drop_succ]

theorem foldl_take {α β : Type} (f : β → α → β) (b : β) (l : List α) (d : α) (j : Nat) (h : j < l.length) : (l.take (j + 1)).foldl f b = f ((l.take j).foldl f b) (l.getD j d) := by
  rw [List.take_succ_eq_append_getElem h, List.foldl_append]
  simp [List.getD, List.getElem?_eq_getElem h]

theorem idx_ok {j n : Nat} (h : j < n) : decide (0 ≤ (j : Int) ∧ (j : Int) < (n : Int)) = true := decide_eq_true ⟨by omega, by omega⟩

theorem weaker_refl {nt n : Nat} {s : St} : Weaker nt n s s := fun _ K _ _ _ h hs => ⟨K, h, hs⟩

inductive SubE (s : List (Nat × AVal)) : List (Nat × AVal) → Prop where
  | nil : SubE s []
  | cons (t : Nat) (v : AVal) (r : List (Nat × AVal)) (h : getSlot s t = v) (hr : SubE s r) : SubE s ((t, v) :: r)

theorem SubE.get {s s' : List (Nat × AVal)} (h : SubE s s') (t : Nat) : getSlot s' t = .any ∨ getSlot s' t = getSlot s t := by
  induction h with
  | nil => exact .inl rfl
  | cons t' v r h _ ih =>
    rw [getSlot_cons]
    by_cases ht : t' = t
    · subst ht; rw [if_pos rfl]; exact .inr h.symm
    · rw [if_neg ht]; exact ih

/-- At a loop's head: slots are let go, objects stay. -/
theorem weaker_same {nt n : Nat} {s s' : List (Nat × AVal)} {o : Objs} (hs : SubE s s') : Weaker nt n ⟨s, o⟩ ⟨s', o⟩ := by
  intro K0 K a w h0 hle hsat
  refine ⟨K, hle, hsat.mem, fun t => ?_, hsat.size, hsat.defers⟩
  show Rep K (getSlot s' t) _
  rcases hs.get t with h | h
  · rw [h]; exact .any _
  · rw [h]; exact hsat.slot t

/-- The first n objects, each as of its first version. -/
def Ctx.reset (K : Ctx) (n : Nat) : Ctx := { K with n := n, ρ := fun o _ => K.ρ o (K.vs o), C := fun o _ => K.C o (K.vs o), vs := fun _ => 0 }

def resetO (n : Nat) (o : Objs) : Objs := (o.take n).map fun p => (0, p.2)

theorem MemSat.reset {K : Ctx} {objs : Objs} {w : World} (n : Nat) (h : MemSat K objs w) (hn : n ≤ objs.length) (hl : ∀ o p, objs[o]? = some p → o < n → LowObj 0 p.2) : MemSat (K.reset n) (resetO n objs) w := by
  have get : ∀ (o : Nat) (p : Nat × AObj), (resetO n objs)[o]? = some p → ∃ q, objs[o]? = some q ∧ o < n ∧ p = (0, q.2) ∧ q.1 = K.vs o := by
    intro o p hp
    rw [resetO, List.getElem?_map, List.getElem?_take] at hp
    split at hp
    · rename_i ho
      cases hq : objs[o]? with
      | none => rw [hq] at hp; cases hp
      | some q =>
        rw [hq] at hp
        simp only [Option.map_some, Option.some.injEq] at hp
        exact ⟨q, rfl, ho, hp.symm, h.ver o q hq⟩
    · cases hp
  refine ⟨by simp [Ctx.reset, resetO]; omega, fun o p hp => ?_, fun o p hp => ?_, fun o p hp hlv hC => ?_, fun o o' p p' hp hp' hlv hlv' hC hC' hne => ?_, h.mem, h.below.step (L := K.reset n) rfl rfl rfl rfl rfl (Nat.le_refl _) fun _ _ _ => rfl⟩
  · obtain ⟨q, _, _, rfl, _⟩ := get o p hp
    rfl
  · obtain ⟨q, hq, ho, rfl, hv⟩ := get o p hp
    have hs := h.obj o q hq
    have hlo := hl o q hq ho
    show ObjSat (K.reset n) w o 0 q.2
    cases hq2 : q.2 with
    | dead => trivial
    | row t k es =>
      rw [hq2] at hs hlo
      rw [hv] at hs
      obtain ⟨h1, h2, h3⟩ := hs
      refine ⟨h1, h2, fun hC => ?_⟩
      obtain ⟨c, q1, q2, q3, q4⟩ := h3 hC
      refine ⟨c, q1, q2, q3, fun i j e x he hx => ?_⟩
      obtain ⟨u, hu, hr⟩ := q4 i j e x he hx
      exact ⟨u, hu, Rep.low0 (K := K) (L := K.reset n) (fun _ _ _ h => h) hr (hlo e (mem_get he) x (mem_get hx))⟩
  · obtain ⟨q, hq, ho, rfl, hv⟩ := get o p hp
    have := h.lo o q hq hlv (by rw [hv]; exact hC)
    rw [hv] at this
    exact this
  · obtain ⟨q, hq, ho, rfl, hv⟩ := get o p hp
    obtain ⟨q', hq', ho', rfl, hv'⟩ := get o' p' hp'
    have := h.dis o o' q q' hq hq' hlv hlv' (by rw [hv]; exact hC) (by rw [hv']; exact hC') hne
    rw [hv, hv'] at this
    exact this

/-- Slots that are kept behind a reset. -/
inductive SubR (n : Nat) (objs : Objs) (s : List (Nat × AVal)) : List (Nat × AVal) → Prop where
  | nil : SubR n objs s []
  | cons (t : Nat) (v : AVal) (r : List (Nat × AVal)) (h : getSlot s t = v) (hl : Low 0 v) (hr : SubR n objs s r) : SubR n objs s ((t, v) :: r)
  | own (t : Nat) (o ver k off len len' : Nat) (p : AObj) (r : List (Nat × AVal)) (h : getSlot s t = .own o ver k off len) (hp : objs[o]? = some (ver, p)) (ho : o < n) (hl : len = len') (hr : SubR n objs s r) : SubR n objs s ((t, .own o 0 k off len') :: r)
  | ptr (t : Nat) (o ver k i j : Nat) (p : AObj) (r : List (Nat × AVal)) (h : getSlot s t = .ptr o ver k i j) (hp : objs[o]? = some (ver, p)) (ho : o < n) (hr : SubR n objs s r) : SubR n objs s ((t, .ptr o 0 k i j) :: r)

theorem SubR.get {n : Nat} {objs : Objs} {s s' : List (Nat × AVal)} (h : SubR n objs s s') {K : Ctx} {w : World} (hm : MemSat K objs w) (t : Nat) (v : Value) (hv : Rep K (getSlot s t) v) : Rep (K.reset n) (getSlot s' t) v := by
  induction h with
  | nil => exact .any _
  | cons t' x r h hl _ ih =>
    rw [getSlot_cons]
    by_cases ht : t' = t
    · subst ht; rw [if_pos rfl]; rw [h] at hv; exact Rep.low0 (K := K) (L := K.reset n) (fun _ _ _ h => h) hv hl
    · rw [if_neg ht]; exact ih
  | own t' o ver k off len len' p r h hp ho hl _ ih =>
    rw [getSlot_cons]
    by_cases ht : t' = t
    · subst ht hl; rw [if_pos rfl]; rw [h] at hv
      have hver := hm.ver o _ hp
      have hver : ver = K.vs o := hver
      obtain ⟨_, _, hcase⟩ := rep_own hv
      rcases hcase with ⟨rfl, rfl, rfl⟩ | ⟨a, c, rfl, q1, q2, q3⟩
      · exact .ownNil _ _ _ ho (Nat.zero_le _)
      · exact .own _ _ _ _ _ ho (Nat.zero_le _) a c q1 (by show off + c ≤ K.C o (K.vs o); rw [← hver]; exact q2) (by show c ≠ 0 → a = ⟨K.ρ o (K.vs o), off * k, none⟩; rw [← hver]; exact q3)
    · rw [if_neg ht]; exact ih
  | ptr t' o ver k i j p r h hp ho _ ih =>
    rw [getSlot_cons]
    by_cases ht : t' = t
    · subst ht; rw [if_pos rfl]; rw [h] at hv
      have hver := hm.ver o _ hp
      have hver : ver = K.vs o := hver
      cases hv
      rw [hver]
      exact .ptr (K := K.reset n) o 0 k i j ho (Nat.zero_le _)
    · rw [if_neg ht]; exact ih

/-- At a loop's head: the first n objects are kept, each as of its first version. -/
theorem weaker_reset {nt : Nat} {s s' : List (Nat × AVal)} {o : Objs} (n : Nat) (hn : n ≤ o.length) (hl : ∀ i p, o[i]? = some p → i < n → LowObj 0 p.2) (hs : SubR n o s s') : Weaker nt 0 ⟨s, o⟩ ⟨s', resetO n o⟩ := by
  intro K0 K a w h0 hle hsat
  exact ⟨K.reset n, ⟨hle.M, fun o v ho => absurd ho (by omega), fun o v ho => absurd ho (by omega), by simp [h0], fun o ho => absurd ho (by omega), hle.w0, hle.B, hle.M0⟩, hsat.mem.reset n hn hl, fun t => hs.get hsat.mem t _ (hsat.slot t), hsat.size, hsat.defers⟩

theorem lowRow {α : Type} {c : α → List AVal} {t : TypeId} {k : Nat} {l : List α} (h : ∀ x, (c x).all low0 = true) : LowObj 0 (.row t k (l.map c)) := by
  intro e he x hx
  obtain ⟨y, _, rfl⟩ := List.mem_map.1 he
  exact low0_sound (List.all_eq_true.1 (h y) x hx)

theorem low_first {p0 : Nat × AObj} {rest : Objs} (h : LowObj 0 p0.2) : ∀ i p, (p0 :: rest)[i]? = some p → i < 1 → LowObj 0 p.2 := by
  intro i p hp hi
  have : i = 0 := by omega
  subst this
  simp only [List.getElem?_cons_zero, Option.some.injEq] at hp
  rw [← hp]
  exact h

theorem lowRow' {α : Type} {c : α → List AVal} {t : TypeId} {k : Nat} {es : List (List AVal)} (l : List α) (he : es = l.map c) (h : ∀ x, (c x).all low0 = true) : LowObj 0 (.row t k es) := by
  subst he
  exact lowRow h

/-- A loop's invariant, told by what is carried from round to round. -/
def LoopI {X : Type} (inv : X → Prop) (ms : X → Nat) (sl : X → List (Nat × AVal)) (ob : X → Objs) : Nat → List (Nat × AVal) → Objs → Prop := fun m s o => ∃ x, inv x ∧ m = ms x ∧ s = sl x ∧ o = ob x

theorem loop_next {X : Type} {inv : X → Prop} {ms : X → Nat} {sl : X → List (Nat × AVal)} {ob : X → Objs} {nt n0 m : Nat} {s : St} (x : X) (hlt : ms x < m) (hw : Weaker nt n0 s ⟨sl x, ob x⟩) (hi : inv x) :
    ∃ m' s'' o'', m' < m ∧ Weaker nt n0 s ⟨s'', o''⟩ ∧ LoopI inv ms sl ob m' s'' o'' := ⟨ms x, sl x, ob x, hlt, hw, x, hi, rfl, rfl, rfl⟩

theorem loop_start {X : Type} (inv : X → Prop) (ms : X → Nat) (sl : X → List (Nat × AVal)) (ob : X → Objs) (x : X) {nt n0 : Nat} {s : St} {B : (Nat → List (Nat × AVal) → Objs → Prop) → Nat → List (Nat × AVal) → Objs → Prop} (hw : Weaker nt n0 s ⟨sl x, ob x⟩) (hi : inv x)
    (hb : ∀ x, inv x → B (LoopI inv ms sl ob) (ms x) (sl x) (ob x)) : ∃ I n s1 o1, Weaker nt n0 s ⟨s1, o1⟩ ∧ I n s1 o1 ∧ ∀ m s o, I m s o → B I m s o :=
  ⟨LoopI inv ms sl ob, ms x, sl x, ob x, hw, ⟨x, hi, rfl, rfl, rfl⟩, by rintro _ _ _ ⟨y, hy, rfl, rfl, rfl⟩; exact hb y hy⟩

/-- Where ways are joined: what is known there. -/
def JoinI {X : Type} (inv : X → Prop) (sl : X → List (Nat × AVal)) (ob : X → Objs) : List (Nat × AVal) → Objs → Prop := fun s o => ∃ x, inv x ∧ s = sl x ∧ o = ob x

theorem join_here {X : Type} {inv : X → Prop} {sl : X → List (Nat × AVal)} {ob : X → Objs} {nt n0 : Nat} {s : St} (x : X) (hw : Weaker nt n0 s ⟨sl x, ob x⟩) (hi : inv x) : ∃ s'' o'', Weaker nt n0 s ⟨s'', o''⟩ ∧ JoinI inv sl ob s'' o'' := ⟨sl x, ob x, hw, x, hi, rfl, rfl⟩

theorem join_start {X : Type} (inv : X → Prop) (sl : X → List (Nat × AVal)) (ob : X → Objs) {B : List (Nat × AVal) → Objs → Prop} {A : (List (Nat × AVal) → Objs → Prop) → Prop} (hb : ∀ x, inv x → B (sl x) (ob x)) (ha : A (JoinI inv sl ob)) : ∃ J, (∀ s o, J s o → B s o) ∧ A J :=
  ⟨JoinI inv sl ob, by rintro _ _ ⟨y, hy, rfl, rfl⟩; exact hb y hy, ha⟩

end Go.Fw
