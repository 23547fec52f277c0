/-
  From a row's arguments to abstract values: what is read of memory as data is told as lists and structs. Program-independent.
-/
import Derived.Test.YtlgfgcadoocgoaaFwR
import Derived.Deep.Slices
import Derived.ChangeSame
import Derived.Carry
namespace Go.Fw
set_option linter.unusedSimpArgs false
set_option linter.unusedVariables false
open Go.RowKit Go.ChangeShapes Go.WideShapes Go.Deep

/-- Cells stand for abstract ones, and each is one cell. -/
def CellsRep (K : Ctx) (xs : List AVal) (vs : List Value) : Prop := Reps K xs vs ∧ ∀ v ∈ vs, v.oneCell' = true

/-- Whatever is read as data of type t is told by an element, with what is known of it. -/
def ReadAs (P : Program) (t : TypeId) {α : Type} (c : α → List AVal) (G : α → Prop) : Prop :=
  ∀ (H : Type) (enc : TypeId × Value → H) (w : World) (base : Nat) (spare : Nat → Bool) (held : Bool) (fuel : Nat) (cs : List Value) (x : DataW H × List MemPlace),
    DataW.trod enc P w base spare held fuel t cs = some x → ∃ a, G a ∧ CellsRep (worldCtx w) (c a) cs

variable {P : Program} {t : TypeId}

theorem CellsRep.one {K : Ctx} {x : AVal} {v : Value} (h : Rep K x v) (h1 : v.oneCell' = true) : CellsRep K [x] [v] :=
  ⟨.cons h (.nil K), fun u hu => by simp at hu; subst hu; exact h1⟩

theorem ReadAs.int {k : IntKind} (ht : P.underlying t = some (.int k)) : ReadAs P t (fun n => [.lit (.int k n)]) fun n => (Lit.int k n).wf = true := by
  intro H enc w base spare held fuel cs x h
  obtain ⟨n, rfl, _, hw⟩ := DataW.trod_int ht h
  exact ⟨n, hw, .one (.lit _) rfl⟩

theorem ReadAs.bool (ht : P.underlying t = some .bool) : ReadAs P t (fun b => [.lit (.bool b)]) fun _ => True := by
  intro H enc w base spare held fuel cs x h
  obtain ⟨b, rfl, _⟩ := DataW.trod_bool ht h
  exact ⟨b, trivial, .one (.lit _) rfl⟩

theorem ReadAs.string (ht : P.underlying t = some .string) : ReadAs P t (fun s => [.lit (.string s)]) fun s => s.size ≤ maxLen := by
  intro H enc w base spare held fuel cs x h
  obtain ⟨s, rfl, _, hs⟩ := DataW.trod_string ht h
  exact ⟨s, hs, .one (.lit _) rfl⟩

theorem ReadAs.map {α β : Type} {c : α → List AVal} {c' : β → List AVal} {G : α → Prop} {G' : β → Prop} (h : ReadAs P t c G) (g : α → β) (hc : ∀ a, c' (g a) = c a) (hG : ∀ a, G a → G' (g a)) : ReadAs P t c' G' := by
  intro H enc w base spare held fuel cs x hx
  obtain ⟨a, ha, hr⟩ := h H enc w base spare held fuel cs x hx
  exact ⟨g a, hG a ha, by rw [hc]; exact hr⟩

theorem worldCtx_M {w : World} {b i : Nat} {u : Value} (h : w.cell? ⟨b, i, none⟩ = some u) (h1 : u.oneCell' = true) : (worldCtx w).M b i = some u := by
  simp [worldCtx, h, h1]

theorem add_none (b off n : Nat) : (⟨b, off, none⟩ : Addr).add n = ⟨b, off + n, none⟩ := by
  unfold Addr.add
  by_cases h : n = 0
  · subst h; simp
  · simp [h]

theorem cell?_spot {w : World} {a : Addr} {u : Value} (h : w.cell? a = some u) : a.spot = none := by
  unfold World.cell? at h
  split at h
  · split at h
    · cases h
    · rename_i hs
      cases hsp : a.spot with
      | none => rfl
      | some n => rw [hsp] at hs; simp at hs
  · cases h

theorem ReadAs.slice {α : Type} {c : α → List AVal} {G : α → Prop} {e : TypeId} {k : Nat} (d : α) (ht : P.underlying t = some (.slice e)) (hk : P.cellsOf e = k) (hpos : 0 < k) (he : ReadAs P e c G) (hlen : ∀ a, (c a).length = k) :
    ReadAs P t (fun l => [listA k c d l]) fun l => l.length ≤ maxLen ∧ ∀ a ∈ l, G a := by
  intro H enc w base spare held fuel cs x h
  rcases open_slice ht h with ⟨rfl, _⟩ | ⟨a, len, cap, m, n, D, Pl, rfl, -, hl, hcap, hm, -, hi⟩
  · exact ⟨[], ⟨Nat.zero_le _, fun a ha => by simp at ha⟩, .one (.nil _ _ _) rfl⟩
  have hlm : len ≤ m := by rw [hm]; split <;> omega
  have hel : ∀ i, i < len → ∃ y, G y ∧ ∃ vs : List Value, vs.length = k ∧ (∀ j, j < k → w.cell? (a.add (i * k + j)) = vs[j]?) ∧ CellsRep (worldCtx w) (c y) vs := by
    intro i hlt
    obtain ⟨cs', hc, htr⟩ := hi i (by omega)
    obtain ⟨y, hy, hr⟩ := he H enc w base spare held n cs' _ htr
    rw [hk] at hc
    obtain ⟨_, hcl, hat⟩ := World.cells?_some hc
    refine ⟨y, hy, cs', hcl, fun j hj => ?_, hr⟩
    rw [← Go.Deep.add_add]
    exact hat j hj
  -- choose the elements
  have hch : ∃ ys : List α, ys.length = len ∧ ∀ i, i < len → G (ys.getD i d) ∧ ∃ vs : List Value, vs.length = k ∧ (∀ j, j < k → w.cell? (a.add (i * k + j)) = vs[j]?) ∧ CellsRep (worldCtx w) (c (ys.getD i d)) vs := by
    clear hi hm hl hcap hlm h
    induction len with
    | zero => exact ⟨[], rfl, fun i hi => by omega⟩
    | succ len ih =>
      obtain ⟨ys, hys, hall⟩ := ih fun i hlt => hel i (by omega)
      obtain ⟨y, hy, hv⟩ := hel len (by omega)
      refine ⟨ys ++ [y], by simp [hys], fun i hlt => ?_⟩
      rcases Nat.lt_or_ge i len with h' | h'
      · have e : (ys ++ [y]).getD i d = ys.getD i d := by simp [List.getD, List.getElem?_append_left (show i < ys.length by omega)]
        rw [e]
        exact hall i h'
      · have : i = len := by omega
        subst this
        have e : (ys ++ [y]).getD i d = y := by simp [List.getD, List.getElem?_append_right (show ys.length ≤ i by omega), hys]
        rw [e]
        exact ⟨hy, hv⟩
  obtain ⟨ys, hys, hall⟩ := hch
  refine ⟨ys, ⟨by omega, fun y hy => ?_⟩, .one ?_ rfl⟩
  · obtain ⟨i, hlt, rfl⟩ := List.getElem_of_mem hy
    have := (hall i (by omega)).1
    simpa [List.getD, List.getElem?_eq_getElem hlt] using this
  · rcases Nat.eq_zero_or_pos len with h0 | h0
    · subst h0
      have : ys = [] := by cases ys with | nil => rfl | cons _ _ => simp at hys
      subst this
      exact .empty _ _ _ _ _ (fun h => by cases h)
    · have hsp : a.spot = none := by
        obtain ⟨_, vs, hvl, hvc, _⟩ := hall 0 h0
        have := hvc 0 hpos
        rw [List.getElem?_eq_getElem (by omega)] at this
        have := cell?_spot this
        simpa [Addr.add] using this
      obtain ⟨b, off, sp⟩ := a
      simp only at hsp
      subst hsp
      have hu : ∀ i j, i < len → j < k → ∃ u, w.cell? ⟨b, off + (i * k + j), none⟩ = some u ∧ u.oneCell' = true ∧ ∀ x, (c (ys.getD i d))[j]? = some x → Rep (worldCtx w) x u := by
        intro i j hlt hj
        obtain ⟨_, vs, hvl, hvc, hr⟩ := hall i hlt
        have h1 := hvc j hj
        rw [List.getElem?_eq_getElem (by omega)] at h1
        rw [add_none] at h1
        refine ⟨vs[j]'(by omega), h1, hr.2 _ (List.getElem_mem _), fun x hx => hr.1.2 j x _ hx (List.getElem?_eq_getElem (by omega))⟩
      have hrep := Rep.seq (K := worldCtx w) k len false (fun i => c (ys.getD i d)) b off cap (fun i j => (w.cell? ⟨b, off + (i * k + j), none⟩).getD default) hl (fun h => by cases h) (fun i _ => hlen _)
        (fun i j hlt hj => by
          obtain ⟨u, h1, h2, _⟩ := hu i j hlt hj
          rw [h1]
          exact worldCtx_M h1 h2)
        (fun i j x hlt hx => by
          have hj : j < k := by
            have := (List.getElem?_eq_some_iff.1 hx).1
            rw [hlen] at this
            exact this
          obtain ⟨u, h1, _, h3⟩ := hu i j hlt hj
          rw [h1]
          exact h3 x hx)
      unfold listA
      rw [hys]
      exact hrep

/-- Some fields, one behind another from off on. -/
def ReadFs (P : Program) (off : Nat) (fs : List Field) {α : Type} (c : α → List AVal) (G : α → Prop) : Prop :=
  ∀ (H : Type) (enc : TypeId × Value → H) (w : World) (base : Nat) (spare : Nat → Bool) (held : Bool) (fuel : Nat) (cs : List Value),
    (∀ f ∈ fs, ∃ x, DataW.trod enc P w base spare held fuel f.type ((cs.drop f.offset).take (P.cellsOf f.type)) = some x) → ∃ a, G a ∧ CellsRep (worldCtx w) (c a) ((cs.drop off).take ((fs.map fun f => P.cellsOf f.type).sum))

theorem ReadFs.nil {off : Nat} : ReadFs P off [] (fun _ : Unit => []) fun _ => True := by
  intro H enc w base spare held fuel cs _
  exact ⟨(), trivial, by simp only [List.map_nil, List.sum_nil, List.take_zero]; exact ⟨.nil _, fun v hv => by simp at hv⟩⟩

theorem ReadFs.cons {off : Nat} {f : Field} {fs : List Field} {α β : Type} {c1 : α → List AVal} {G1 : α → Prop} {c2 : β → List AVal} {G2 : β → Prop} (ho : f.offset = off) (h1 : ReadAs P f.type c1 G1) (h2 : ReadFs P (off + P.cellsOf f.type) fs c2 G2) :
    ReadFs P off (f :: fs) (fun p : α × β => c1 p.1 ++ c2 p.2) fun p => G1 p.1 ∧ G2 p.2 := by
  intro H enc w base spare held fuel cs hall
  obtain ⟨x, hx⟩ := hall f (List.mem_cons_self ..)
  obtain ⟨a, ha, hra⟩ := h1 H enc w base spare held fuel _ x hx
  obtain ⟨b, hb, hrb⟩ := h2 H enc w base spare held fuel cs fun g hg => hall g (List.mem_cons_of_mem _ hg)
  refine ⟨(a, b), ⟨ha, hb⟩, ?_⟩
  rw [ho] at hra
  rw [← List.drop_drop] at hrb
  simp only [List.map_cons, List.sum_cons]
  rw [List.take_add]
  exact ⟨hra.1.append hrb.1, fun v hv => by
    rcases List.mem_append.1 hv with h | h
    · exact hra.2 v h
    · exact hrb.2 v h⟩

theorem ReadAs.struct {fs : Array Field} {α : Type} {c : α → List AVal} {G : α → Prop} (ht : P.underlying t = some (.struct fs)) (hs : (fs.toList.map fun f => P.cellsOf f.type).sum = P.cellsOf t) (h : ReadFs P 0 fs.toList c G) : ReadAs P t c G := by
  intro H enc w base spare held fuel cs x hx
  obtain ⟨xs, n, _, _, hlen, hxs, hf⟩ := DataW.trod_struct ht hx
  obtain ⟨a, ha, hr⟩ := h H enc w base spare held n cs fun f hfm => by
    obtain ⟨i, hi, rfl⟩ := List.getElem_of_mem hfm
    have hi' : i < fs.size := by simpa using hi
    have := hf i fs[i] (Array.getElem?_eq_getElem hi')
    rw [List.getElem?_eq_getElem (by omega)] at this
    exact ⟨_, by simpa using this⟩
  refine ⟨a, ha, ?_⟩
  rw [hs, List.drop_zero, List.take_of_length_le (by omega)] at hr
  exact hr

end Go.Fw
