/-
  A turn: some objects are kept (each as of its first version), the others are never written again; slots, cells and results are told anew. Program-independent.
-/
import Derived.Test.YtlgfgcadoocgoaaFwR
namespace Go.Fw
set_option linter.unusedSimpArgs false
set_option linter.unusedVariables false
open Go.RowKit

/-- A block of an object that is kept. -/
def keptB (K : Ctx) (objs : Objs) (n : Nat) (ks : List Nat) (b : Nat) : Prop :=
  ∃ (o : Nat) (p : Nat × AObj), objs[o]? = some p ∧ p.2.live = true ∧ (o < n ∨ o ∈ ks) ∧ K.C o p.1 ≠ 0 ∧ K.ρ o p.1 = b

open Classical in
/-- The context behind a turn: the first n objects as they are, then those of ks, each as of its first version. -/
noncomputable def Ctx.shed (K : Ctx) (w : World) (objs : Objs) (n : Nat) (ks : List Nat) : Ctx :=
  { K with
    n := n + ks.length
    ρ := fun o v => if o < n then K.ρ o v else K.ρ (ks.getD (o - n) 0) (K.vs (ks.getD (o - n) 0))
    C := fun o v => if o < n then K.C o v else K.C (ks.getD (o - n) 0) (K.vs (ks.getD (o - n) 0))
    vs := fun o => if o < n then K.vs o else 0
    M := fun b i => match K.M b i with
      | some u => some u
      | none => if K.B b = none ∧ ¬ keptB K objs n ks b then (match w.cell? ⟨b, i, none⟩ with | some u => if u.oneCell' then some u else none | none => none) else none }

theorem nodup_inj : ∀ {ks : List Nat}, ks.Nodup → ∀ {i j : Nat} (hi : i < ks.length) (hj : j < ks.length), ks[i] = ks[j] → i = j
  | [], _, _, _, hi, _, _ => by simp at hi
  | k :: ks, hnd, i, j, hi, hj, h => by
    rw [List.nodup_cons] at hnd
    cases i with
    | zero => cases j with
      | zero => rfl
      | succ j => simp at h; exact absurd (h ▸ List.getElem_mem _) hnd.1
    | succ i => cases j with
      | zero => simp at h; exact absurd (h ▸ List.getElem_mem _) hnd.1
      | succ j => simp at h; exact congrArg (· + 1) (nodup_inj hnd.2 _ _ h)

section
variable {objs : Objs} {n : Nat} {ks : List Nat}

/-- x is told as y behind the turn. -/
def TurnV (objs : Objs) (n : Nat) (ks : List Nat) (x y : AVal) : Prop := ∀ (K : Ctx) (w : World) (v : Value), MemSat K objs w → Rep K x v → Rep (K.shed w objs n ks) y v

theorem turn_M {K : Ctx} {w : World} {b i : Nat} {u : Value} (h : K.M b i = some u) : (K.shed w objs n ks).M b i = some u := by simp [Ctx.shed, h]

theorem turn_low {x : AVal} (h : Low n x) : TurnV objs n ks x x := by
  intro K w v hm hr
  refine Rep.low (K := K) (L := K.shed w objs n ks) (n := n) (fun _ _ _ h => turn_M h) (by simp [Ctx.shed]) (fun o v ho => by simp [Ctx.shed, ho]) (fun o v ho => by simp [Ctx.shed, ho]) (fun o ho => by simp [Ctx.shed, ho]) hr h

theorem turn_eq {x y : AVal} (e : x = y) (h : Low n x) : TurnV objs n ks x y := by subst e; exact turn_low h

theorem turn_own {o ver k off len len' : Nat} {p : AObj} (i : Nat) (hi : ks[i]? = some o) (hp : objs[o]? = some (ver, p)) (hl : len = len') : TurnV objs n ks (.own o ver k off len) (.own (n + i) 0 k off len') := by
  intro K w v hm hr
  subst hl
  have hver : ver = K.vs o := hm.ver o _ hp
  have hlt : i < ks.length := (List.getElem?_eq_some_iff.1 hi).1
  have hg : ks.getD i 0 = o := by simp [List.getD, hi]
  obtain ⟨_, _, hcase⟩ := rep_own hr
  rcases hcase with ⟨rfl, rfl, rfl⟩ | ⟨a, c, rfl, q1, q2, q3⟩
  · exact .ownNil _ _ _ (by simp [Ctx.shed]; omega) (Nat.zero_le _)
  · refine .own _ _ _ _ _ (by simp [Ctx.shed]; omega) (Nat.zero_le _) a c q1 ?_ ?_
    · simp only [Ctx.shed, if_neg (show ¬ n + i < n by omega), show n + i - n = i by omega, hg]; rw [← hver]; exact q2
    · simp only [Ctx.shed, if_neg (show ¬ n + i < n by omega), show n + i - n = i by omega, hg]; rw [← hver]; exact q3

theorem turn_ptr {o ver k i' j : Nat} {p : AObj} (i : Nat) (hi : ks[i]? = some o) (hp : objs[o]? = some (ver, p)) : TurnV objs n ks (.ptr o ver k i' j) (.ptr (n + i) 0 k i' j) := by
  intro K w v hm hr
  have hver : ver = K.vs o := hm.ver o _ hp
  have hlt : i < ks.length := (List.getElem?_eq_some_iff.1 hi).1
  have hg : ks.getD i 0 = o := by simp [List.getD, hi]
  obtain ⟨rfl, _, _⟩ := rep_ptr hr
  have := Rep.ptr (K := K.shed w objs n ks) (n + i) 0 k i' j (by simp [Ctx.shed]; omega) (Nat.zero_le _)
  simp only [Ctx.shed, if_neg (show ¬ n + i < n by omega), show n + i - n = i by omega, hg] at this
  rw [hver]
  exact this

/-- A block of an object that is let go is never written again. -/
theorem turn_cell {K : Ctx} {w : World} (hm : MemSat K objs w) {o ver k : Nat} {t : TypeId} {es : List (List AVal)} (hp : objs[o]? = some (ver, .row t k es)) (hn : n ≤ o) (hk : o ∉ ks) (hC : K.C o ver ≠ 0) {i : Nat} {u : Value}
    (hc : w.cell? ⟨K.ρ o ver, i, none⟩ = some u) (h1 : u.oneCell' = true) : (K.shed w objs n ks).M (K.ρ o ver) i = some u := by
  have hlo := hm.lo o _ hp rfl hC
  have hnot : ¬ keptB K objs n ks (K.ρ o ver) := by
    rintro ⟨o', p', hp', hl', hin, hC', he⟩
    have hne : o ≠ o' := by
      rintro rfl
      rcases hin with h | h
      · omega
      · exact hk h
    exact hm.dis o o' _ p' hp hp' rfl hl' hC hC' hne he.symm
  have hM : K.M (K.ρ o ver) i = none := hlo.2.2 i
  have hB : K.B (K.ρ o ver) = none := hlo.1
  simp only [Ctx.shed, hM, hc, h1, if_true]
  rw [if_pos ⟨hB, hnot⟩]

/-- Cells told anew, element by element. -/
inductive TurnCs (objs : Objs) (n : Nat) (ks : List Nat) : List AVal → List AVal → Prop where
  | nil : TurnCs objs n ks [] []
  | cons (x y : AVal) (xs ys : List AVal) (h : TurnV objs n ks x y) (t : TurnCs objs n ks xs ys) : TurnCs objs n ks (x :: xs) (y :: ys)

theorem TurnCs.length {xs ys : List AVal} (h : TurnCs objs n ks xs ys) : ys.length = xs.length := by
  induction h with
  | nil => rfl
  | cons _ _ _ _ _ _ ih => simp [ih]

theorem TurnCs.get {xs ys : List AVal} (h : TurnCs objs n ks xs ys) : ∀ {j : Nat} {y : AVal}, ys[j]? = some y → ∃ x, xs[j]? = some x ∧ TurnV objs n ks x y := by
  induction h with
  | nil => intro j y hy; simp at hy
  | cons x y xs ys h _ ih =>
    intro j z hz
    cases j with
    | zero => simp at hz; subst hz; exact ⟨x, rfl, h⟩
    | succ j => simp at hz; obtain ⟨x', hx', ht⟩ := ih hz; exact ⟨x', by simpa using hx', ht⟩

theorem TurnCs.low : ∀ {xs : List AVal}, LowL n xs → TurnCs objs n ks xs xs
  | [], _ => .nil
  | x :: xs, h => .cons x x xs xs (turn_low (h x (List.mem_cons_self ..))) (TurnCs.low fun y hy => h y (List.mem_cons_of_mem _ hy))

inductive TurnEs (objs : Objs) (n : Nat) (ks : List Nat) : List (List AVal) → List (List AVal) → Prop where
  | nil : TurnEs objs n ks [] []
  | cons (x y : List AVal) (xs ys : List (List AVal)) (h : TurnCs objs n ks x y) (t : TurnEs objs n ks xs ys) : TurnEs objs n ks (x :: xs) (y :: ys)

theorem TurnEs.length {xs ys : List (List AVal)} (h : TurnEs objs n ks xs ys) : ys.length = xs.length := by
  induction h with
  | nil => rfl
  | cons _ _ _ _ _ _ ih => simp [ih]

theorem TurnEs.get {xs ys : List (List AVal)} (h : TurnEs objs n ks xs ys) : ∀ {j : Nat} {y : List AVal}, ys[j]? = some y → ∃ x, xs[j]? = some x ∧ TurnCs objs n ks x y := by
  induction h with
  | nil => intro j y hy; simp at hy
  | cons x y xs ys h _ ih =>
    intro j z hz
    cases j with
    | zero => simp at hz; subst hz; exact ⟨x, rfl, h⟩
    | succ j => simp at hz; obtain ⟨x', hx', ht⟩ := ih hz; exact ⟨x', by simpa using hx', ht⟩

theorem TurnEs.low : ∀ {xs : List (List AVal)}, (∀ e ∈ xs, LowL n e) → TurnEs objs n ks xs xs
  | [], _ => .nil
  | x :: xs, h => .cons x x xs xs (.low (h x (List.mem_cons_self ..))) (TurnEs.low fun y hy => h y (List.mem_cons_of_mem _ hy))

theorem TurnEs.map {α : Type} {c c' : α → List AVal} (h : ∀ x, TurnCs objs n ks (c x) (c' x)) : ∀ (l : List α), TurnEs objs n ks (l.map c) (l.map c')
  | [] => .nil
  | x :: l => .cons _ _ _ _ (h x) (TurnEs.map h l)

theorem TurnEs.append {a b a' b' : List (List AVal)} (h : TurnEs objs n ks a a') (g : TurnEs objs n ks b b') : TurnEs objs n ks (a ++ b) (a' ++ b') := by
  induction h with
  | nil => exact g
  | cons x y xs ys h _ ih => exact .cons _ _ _ _ h ih

/-- An own slice of an object that is let go. -/
theorem turn_frozen {o ver k off len : Nat} {t : TypeId} {es es' : List (List AVal)} (hp : objs[o]? = some (ver, .row t k es)) (hn : n ≤ o) (hk : o ∉ ks) (he : TurnEs objs n ks es es') (hle : off + len ≤ es.length) :
    TurnV objs n ks (.own o ver k off len) (.seq k len false fun i => es'.getD (off + i) []) := by
  intro K w v hm hr
  obtain ⟨ho, hv, hcase⟩ := rep_own hr
  rcases hcase with ⟨rfl, rfl, rfl⟩ | ⟨a, c, rfl, hlc, hC, ha⟩
  · exact .nil _ _ _
  · refine rep_seq_mk hlc (fun h => by cases h) (fun h => by cases h) (fun hpos => ?_)
    have := ha (by omega)
    subst this
    have hC0 : K.C o ver ≠ 0 := by omega
    obtain ⟨cc, hcc, hs, h1, hrep⟩ := hm.rowBlock hp hC0
    have hel := (hm.obj o _ hp).1
    have get : ∀ i, i < len → ∃ e e', es[off + i]? = some e ∧ es'[off + i]? = some e' ∧ es'.getD (off + i) [] = e' ∧ e.length = k ∧ e'.length = k ∧ TurnCs objs n ks e e' := by
      intro i hi
      have hlt' : off + i < es'.length := by rw [he.length]; omega
      obtain ⟨e, h1, h2⟩ := he.get (List.getElem?_eq_getElem hlt')
      have hke := hel e (mem_get h1)
      exact ⟨e, es'[off + i], h1, List.getElem?_eq_getElem hlt', by simp [hlt'], hke, by rw [h2.length]; exact hke, h2⟩
    refine ⟨K.ρ o ver, off * k, fun i j => (cc[(off + i) * k + j]?).getD undef, rfl, fun i hi => ?_, fun i j hi hj => ?_, fun i j x hi hx => ?_⟩
    · obtain ⟨e, e', _, _, he', _, hk', _⟩ := get i hi; rw [he']; exact hk'
    · obtain ⟨e, e', he1, _, _, hke, _, _⟩ := get i hi
      obtain ⟨u, hu, _⟩ := hrep (off + i) j e _ he1 (List.getElem?_eq_getElem (by omega))
      have hcell : w.cell? ⟨K.ρ o ver, off * k + (i * k + j), none⟩ = some u := by
        rw [← Nat.add_assoc, ← Nat.add_mul]
        simp [World.cell?, hcc, hu]
      rw [turn_cell hm hp hn hk hC0 hcell (h1 u (Array.mem_toList_iff.2 (Array.mem_of_getElem? hu)))]
      simp [hu]
    · obtain ⟨e, e', he1, he2, he3, hke, hke', ht⟩ := get i hi
      rw [he3] at hx
      obtain ⟨y, hy, hty⟩ := ht.get hx
      obtain ⟨u, hu, hru⟩ := hrep (off + i) j e y he1 hy
      simp only [hu, Option.getD_some]
      exact hty K w u hm hru

/-- .. told as a list. -/
theorem turn_list {α : Type} {o ver k len : Nat} {t : TypeId} {es : List (List AVal)} {c : α → List AVal} (d : α) (l : List α) (hp : objs[o]? = some (ver, .row t k es)) (hn : n ≤ o) (hk : o ∉ ks) (he : TurnEs objs n ks es (l.map c)) (hlen : len = l.length) :
    TurnV objs n ks (.own o ver k 0 len) (listA k c d l) := by
  have hl : l.length = es.length := by have := he.length; simpa using this
  have h := turn_frozen (off := 0) (len := len) hp hn hk he (by omega)
  intro K w v hm hr
  subst hlen
  refine rep_seqCongr (fun i hi => ?_) (fun h => h) (h K w v hm hr)
  simp [List.getD, List.getElem?_map, List.getElem?_eq_getElem hi]

/-- .. whose cells name no object. -/
theorem turn_list0 {α : Type} {o ver k len : Nat} {t : TypeId} {es : List (List AVal)} {c : α → List AVal} (d : α) (l : List α) (hp : objs[o]? = some (ver, .row t k es)) (hn : n ≤ o) (hk : o ∉ ks) (he : es = l.map c) (hc : ∀ x, (c x).all low0 = true) (hlen : len = l.length) :
    TurnV objs n ks (.own o ver k 0 len) (listA k c d l) :=
  turn_list d l hp hn hk (by subst he; exact .map (fun x => .low fun y hy => low0_sound (List.all_eq_true.1 (hc x) y hy)) l) hlen

theorem turn_seqCongr {k m : Nat} {t t' : Bool} {f g : Nat → List AVal} (h : ∀ i, i < m → f i = g i) (ht : t' = true → t = true) (hl : Low n (.seq k m t f)) : TurnV objs n ks (.seq k m t f) (.seq k m t' g) := by
  intro K w v hm hr
  exact rep_seqCongr h ht (turn_low hl K w v hm hr)

theorem turn_agg {xs ys : List AVal} (h : TurnCs objs n ks xs ys) : TurnV objs n ks (.agg xs) (.agg ys) := by
  intro K w v hm hr
  obtain ⟨vs, rfl, hr2, h1⟩ := rep_agg hr
  refine .agg ys vs (hr2.1.trans h.length.symm) h1 fun i y v hy hv => ?_
  obtain ⟨x, hx, ht⟩ := h.get hy
  exact ht K w v hm (hr2.2 i x v hx hv)

theorem turn_tup {xs ys : List AVal} (h : TurnCs objs n ks xs ys) : TurnV objs n ks (.tup xs) (.tup ys) := by
  intro K w v hm hr
  obtain ⟨vs, rfl, hr2⟩ := rep_tup hr
  refine .tup ys vs (hr2.1.trans h.length.symm) fun i y v hy hv => ?_
  obtain ⟨x, hx, ht⟩ := h.get hy
  exact ht K w v hm (hr2.2 i x v hx hv)

theorem turn_nil {k : Nat} {t : Bool} {f : Nat → List AVal} : TurnV objs n ks (.lit (.slice none 0 0)) (.seq k 0 t f) := by
  intro K w v hm hr
  have := rep_lit hr
  subst this
  exact .nil k t f

theorem turn_any {x : AVal} : TurnV objs n ks x .any := fun _ _ v _ _ => .any v

/-- An object told anew. -/
inductive TurnO (objs : Objs) (n : Nat) (ks : List Nat) : AObj → AObj → Prop where
  | row (t : TypeId) (k : Nat) (es es' : List (List AVal)) (h : TurnEs objs n ks es es') : TurnO objs n ks (.row t k es) (.row t k es')
  | dead (p : AObj) : TurnO objs n ks p .dead

theorem TurnO.same {t : TypeId} {k : Nat} {es es' : List (List AVal)} (he : es = es') (h : ∀ e ∈ es, LowL n e) : TurnO objs n ks (.row t k es) (.row t k es') := by
  subst he
  exact .row t k es es (.low h)

/-- The objects that are kept, one by one. -/
inductive TurnL (objs : Objs) (n : Nat) (ks : List Nat) : List Nat → Objs → Prop where
  | nil : TurnL objs n ks [] []
  | cons (o : Nat) (os : List Nat) (p : Nat × AObj) (q : AObj) (r : Objs) (hp : objs[o]? = some p) (hq : TurnO objs n ks p.2 q) (hr : TurnL objs n ks os r) : TurnL objs n ks (o :: os) ((0, q) :: r)

theorem TurnL.length {os : List Nat} {r : Objs} (h : TurnL objs n ks os r) : r.length = os.length := by
  induction h with
  | nil => rfl
  | cons _ _ _ _ _ _ _ _ ih => simp [ih]

theorem TurnL.get {os : List Nat} {r : Objs} (h : TurnL objs n ks os r) : ∀ {i : Nat} {q : Nat × AObj}, r[i]? = some q → ∃ o p, os[i]? = some o ∧ objs[o]? = some p ∧ q.1 = 0 ∧ TurnO objs n ks p.2 q.2 := by
  induction h with
  | nil => intro i q hq; simp at hq
  | cons o os p q r hp hq _ ih =>
    intro i z hz
    cases i with
    | zero => simp at hz; subst hz; exact ⟨o, p, rfl, hp, rfl, hq⟩
    | succ i => simp at hz; obtain ⟨o', p', h1, h2⟩ := ih hz; exact ⟨o', p', by simpa using h1, h2⟩

theorem TurnO.live {p q : AObj} (h : TurnO objs n ks p q) (hl : q.live = true) : p.live = true := by
  cases h with
  | row t k es es' h => rfl
  | dead p => cases hl

theorem TurnO.sat {K : Ctx} {w : World} (hm : MemSat K objs w) {o ver i : Nat} {p q : AObj} (hp : objs[o]? = some (ver, p)) (h : TurnO objs n ks p q) (hρ : (K.shed w objs n ks).ρ i 0 = K.ρ o ver) (hC : (K.shed w objs n ks).C i 0 = K.C o ver) : ObjSat (K.shed w objs n ks) w i 0 q := by
  cases h with
  | dead p => trivial
  | row t k es es' h =>
    obtain ⟨h1, h2, h3⟩ := hm.obj o _ hp
    refine ⟨fun e he => ?_, by rw [hC, h.length]; exact h2, fun hc => ?_⟩
    · obtain ⟨j, hj, rfl⟩ := List.getElem_of_mem he
      obtain ⟨e, q1, q2⟩ := h.get (List.getElem?_eq_getElem hj)
      rw [q2.length]
      exact h1 e (mem_get q1)
    · rw [hC] at hc
      obtain ⟨c, q1, q2, q3, q4⟩ := h3 hc
      refine ⟨c, by rw [hρ]; exact q1, by rw [hC]; exact q2, q3, fun i' j e x he hx => ?_⟩
      obtain ⟨e0, r1, r2⟩ := h.get he
      obtain ⟨x0, r3, r4⟩ := r2.get hx
      obtain ⟨u, hu, hr⟩ := q4 i' j e0 x0 r1 r3
      exact ⟨u, hu, r4 K w u hm hr⟩

theorem MemSat.shed {K : Ctx} {w : World} {new : Objs} (hm : MemSat K objs w) (hn : n ≤ objs.length) (hl : ∀ o p, objs[o]? = some p → o < n → LowObj n p.2) (hks : ∀ o ∈ ks, n ≤ o) (hnd : ks.Nodup) (hT : TurnL objs n ks ks new) : MemSat (K.shed w objs n ks) (objs.take n ++ new) w := by
  -- an object of the new list, and where it comes from
  have src : ∀ (i : Nat) (q : Nat × AObj), (objs.take n ++ new)[i]? = some q → ∃ o p, objs[o]? = some p ∧ q.1 = (if i < n then p.1 else 0) ∧ ((i < n ∧ o = i ∧ q = p) ∨ (n ≤ i ∧ ks[i - n]? = some o ∧ TurnO objs n ks p.2 q.2)) := by
    intro i q hq
    by_cases hi : i < n
    · rw [List.getElem?_append_left (by simp; omega), List.getElem?_take, if_pos hi] at hq
      exact ⟨i, q, hq, by rw [if_pos hi], .inl ⟨hi, rfl, rfl⟩⟩
    · rw [List.getElem?_append_right (by simp; omega)] at hq
      have e : (objs.take n).length = n := by simp; omega
      rw [e] at hq
      obtain ⟨o, p, h1, h2, h3, h4⟩ := hT.get hq
      exact ⟨o, p, h2, by rw [if_neg hi]; exact h3, .inr ⟨by omega, h1, h4⟩⟩
  have rhoC : ∀ (i : Nat) (q : Nat × AObj) (o : Nat) (p : Nat × AObj), objs[o]? = some p → q.1 = (if i < n then p.1 else 0) → ((i < n ∧ o = i ∧ q = p) ∨ (n ≤ i ∧ ks[i - n]? = some o ∧ TurnO objs n ks p.2 q.2)) → (K.shed w objs n ks).ρ i q.1 = K.ρ o p.1 ∧ (K.shed w objs n ks).C i q.1 = K.C o p.1 ∧ (o < n ∨ o ∈ ks) ∧ (q.2.live = true → p.2.live = true) := by
    intro i q o p hp hq hc
    rcases hc with ⟨hi, rfl, rfl⟩ | ⟨hi, hk, ht⟩
    · exact ⟨by simp [Ctx.shed, hi], by simp [Ctx.shed, hi], .inl hi, fun h => h⟩
    · have hv := hm.ver o p hp
      have hg : ks.getD (i - n) 0 = o := by simp [List.getD, hk]
      refine ⟨?_, ?_, .inr (mem_get hk), ht.live⟩
      · simp only [Ctx.shed, if_neg (show ¬ i < n by omega), hg, hv]
      · simp only [Ctx.shed, if_neg (show ¬ i < n by omega), hg, hv]
  refine ⟨?_, fun i q hq => ?_, fun i q hq => ?_, fun i q hq hlv hC => ?_, fun i i' q q' hq hq' hlv hlv' hC hC' hne => ?_, fun b i u hu => ?_, hm.below.step (L := K.shed w objs n ks) rfl rfl rfl rfl rfl (Nat.le_refl _) fun _ _ _ => rfl⟩
  · have := hT.length
    simp [Ctx.shed]
    omega
  · obtain ⟨o, p, hp, h1, hc⟩ := src i q hq
    rw [h1]
    by_cases hi : i < n
    · rw [if_pos hi]
      rcases hc with ⟨_, rfl, _⟩ | ⟨h, _⟩
      · simp only [Ctx.shed, if_pos hi]; exact hm.ver o p hp
      · omega
    · simp [Ctx.shed, hi]
  · obtain ⟨o, p, hp, h1, hc⟩ := src i q hq
    obtain ⟨r1, r2, _, _⟩ := rhoC i q o p hp h1 hc
    rcases hc with ⟨hi, rfl, rfl⟩ | ⟨hi, hk, ht⟩
    · have hs := hm.obj o q hp
      have hlo := hl o q hp hi
      cases hq2 : q.2 with
      | dead => trivial
      | row t k es =>
        rw [hq2] at hs hlo
        obtain ⟨h1, h2, h3⟩ := hs
        refine ⟨h1, by rw [r2]; exact h2, fun hC => ?_⟩
        rw [r2] at hC
        obtain ⟨c, q1, q2, q3, q4⟩ := h3 hC
        refine ⟨c, by rw [r1]; exact q1, by rw [r2]; exact q2, q3, fun i' j e x he hx => ?_⟩
        obtain ⟨u, hu, hr⟩ := q4 i' j e x he hx
        exact ⟨u, hu, turn_low (hlo e (mem_get he) x (mem_get hx)) K w u hm hr⟩
    · have h0 : q.1 = 0 := by rw [h1, if_neg (by omega)]
      rw [h0] at r1 r2 ⊢
      exact ht.sat hm (show objs[o]? = some (p.1, p.2) from hp) r1 r2
  · obtain ⟨o, p, hp, h1, hc⟩ := src i q hq
    obtain ⟨r1, r2, r3, r4⟩ := rhoC i q o p hp h1 hc
    rw [r2] at hC
    rw [r1]
    obtain ⟨l1, l2, l3⟩ := hm.lo o p hp (r4 hlv) hC
    refine ⟨l1, l2, fun j => ?_⟩
    have hk : keptB K objs n ks (K.ρ o p.1) := ⟨o, p, hp, r4 hlv, r3, hC, rfl⟩
    simp [Ctx.shed, l3 j, hk]
  · obtain ⟨o, p, hp, h1, hc⟩ := src i q hq
    obtain ⟨o', p', hp', h1', hc'⟩ := src i' q' hq'
    obtain ⟨r1, r2, r3, r4⟩ := rhoC i q o p hp h1 hc
    obtain ⟨r1', r2', r3', r4'⟩ := rhoC i' q' o' p' hp' h1' hc'
    rw [r1, r1']
    rw [r2] at hC
    rw [r2'] at hC'
    refine hm.dis o o' p p' hp hp' (r4 hlv) (r4' hlv') hC hC' ?_
    rintro rfl
    rcases hc with ⟨hi, rfl, _⟩ | ⟨hi, hk, _⟩
    · rcases hc' with ⟨_, h, _⟩ | ⟨hi', hk', _⟩
      · exact hne h
      · have := hks o (mem_get hk'); omega
    · rcases hc' with ⟨hi', rfl, _⟩ | ⟨hi', hk', _⟩
      · have := hks o (mem_get hk); omega
      · have h2 := (List.getElem?_eq_some_iff.1 hk)
        have h3 := (List.getElem?_eq_some_iff.1 hk')
        have : i - n = i' - n := nodup_inj hnd h2.1 h3.1 (h2.2.trans h3.2.symm)
        omega
  · simp only [Ctx.shed] at hu
    split at hu
    · rename_i u' hM; simp only [Option.some.injEq] at hu; subst hu; exact hm.mem b i u' hM
    · split at hu
      · split at hu
        · rename_i u' hc
          split at hu
          · rename_i h1; simp only [Option.some.injEq] at hu; subst hu; exact ⟨hc, h1⟩
          · cases hu
        · cases hu
      · cases hu

theorem le_shed {K0 K : Ctx} {w : World} (hn : K0.n = n) (h : K0.le K) : K0.le (K.shed w objs n ks) := by
  refine ⟨fun b i u hu => turn_M (h.M b i u hu), fun o v ho hv => ?_, fun o v ho hv => ?_, by simp [Ctx.shed, hn], fun o ho => ?_, h.w0, h.B, fun b i x hx => ?_⟩
  · simp only [Ctx.shed, if_pos (show o < n by omega)]; exact h.ρ o v ho hv
  · simp only [Ctx.shed, if_pos (show o < n by omega)]; exact h.C o v ho hv
  · simp only [Ctx.shed, if_pos (show o < n by omega)]; exact h.vs o ho
  · have hb : K.B b = some x := by rw [h.B]; exact hx
    have hm0 := h.M0 b i x hx
    rw [← hm0]
    simp only [Ctx.shed]
    cases hM : K.M b i with
    | some u => rfl
    | none => simp [hb]

/-- Slots told anew. -/
inductive SubT (objs : Objs) (n : Nat) (ks : List Nat) (s : List (Nat × AVal)) : List (Nat × AVal) → Prop where
  | nil : SubT objs n ks s []
  | cons (t : Nat) (v : AVal) (r : List (Nat × AVal)) (h : TurnV objs n ks (getSlot s t) v) (hr : SubT objs n ks s r) : SubT objs n ks s ((t, v) :: r)

theorem SubT.get {s s' : List (Nat × AVal)} (h : SubT objs n ks s s') (t : Nat) : TurnV objs n ks (getSlot s t) (getSlot s' t) := by
  induction h with
  | nil => exact turn_any
  | cons t' v r h _ ih =>
    rw [getSlot_cons]
    by_cases ht : t' = t
    · subst ht; rw [if_pos rfl]; exact h
    · rw [if_neg ht]; exact ih

/-- At a loop's head. -/
theorem weaker_turn {nt : Nat} {s s' : List (Nat × AVal)} {new : Objs} (ks : List Nat) (hn : n ≤ objs.length) (hl : ∀ o p, objs[o]? = some p → o < n → LowObj n p.2) (hks : ∀ o ∈ ks, n ≤ o) (hnd : ks.Nodup) (hT : TurnL objs n ks ks new) (hs : SubT objs n ks s s') :
    Weaker nt n ⟨s, objs⟩ ⟨s', objs.take n ++ new⟩ := by
  intro K0 K a w h0 hle hsat
  exact ⟨K.shed w objs n ks, le_shed h0 hle, hsat.mem.shed hn hl hks hnd hT, fun t => hs.get t K w _ hsat.mem (hsat.slot t), hsat.size, hsat.defers⟩

/-- .. in a function that began without objects. -/
theorem weaker_turn0 {nt : Nat} {s s' : List (Nat × AVal)} {new : Objs} (ks : List Nat) (hnd : ks.Nodup) (hT : TurnL objs 0 ks ks new) (hs : SubT objs 0 ks s s') : Weaker nt 0 ⟨s, objs⟩ ⟨s', new⟩ := by
  have := weaker_turn (nt := nt) ks (Nat.zero_le _) (fun o p _ h => absurd h (by omega)) (fun _ _ => Nat.zero_le _) hnd hT hs
  simpa using this

/-- A result told anew, with objects that are kept. -/
theorem told_turn {r0 r : AVal} {new : Objs} (ks : List Nat) (hn : n ≤ objs.length) (hl : ∀ o p, objs[o]? = some p → o < n → LowObj n p.2) (hks : ∀ o ∈ ks, n ≤ o) (hnd : ks.Nodup) (hT : TurnL objs n ks ks new) (hr : TurnV objs n ks r0 r) : Told n r0 objs r (objs.take n ++ new) := by
  intro K0 K w v h0 hle hm hrep
  exact ⟨K.shed w objs n ks, le_shed h0 hle, hm.shed hn hl hks hnd hT, hr K w v hm hrep⟩

theorem told_turn0 {r0 r : AVal} {new : Objs} (ks : List Nat) (hnd : ks.Nodup) (hT : TurnL objs 0 ks ks new) (hr : TurnV objs 0 ks r0 r) : Told 0 r0 objs r new := by
  have := told_turn (objs := objs) (n := 0) ks (Nat.zero_le _) (fun o p _ h => absurd h (by omega)) (fun _ _ => Nat.zero_le _) hnd hT hr
  simpa using this

end
end Go.Fw
