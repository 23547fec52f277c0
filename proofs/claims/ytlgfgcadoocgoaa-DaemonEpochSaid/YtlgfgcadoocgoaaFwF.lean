/-
  Soundness, fourth part: the other operations but append and make.
-/
import Derived.Test.YtlgfgcadoocgoaaFwE
import Derived.Laws.StructEq
import Derived.Laws.Tables
namespace Go.Fw
set_option linter.unusedSimpArgs false
set_option linter.unusedVariables false
open Go.RowKit

section
variable {K : Ctx} {P : Program} {w : World} {objs : Objs}

theorem zeroA_some {t : TypeId} {z : List AVal} (h : zeroA P t = some z) : ∃ (i : TypeInfo) (v : Value), P.info? t = some i ∧ i.zero = some v ∧ z = v.cells.toList.map .lit ∧ (∀ u ∈ v.cells.toList, u.oneCell' = true) ∧ v.cells.size = i.size := by
  unfold zeroA at h
  cases hi : P.info? t with
  | none => simp [hi] at h
  | some i =>
    simp only [hi] at h
    cases hz : i.zero with
    | none => simp [hz] at h
    | some v =>
      simp only [hz] at h
      cases hb : v.cells.toList.all (·.oneCell') && Nat.beq v.cells.size i.size with
      | false => rw [hb] at h; cases h
      | true =>
        rw [hb] at h
        simp only [cond_true, Option.some.injEq] at h
        simp only [Bool.and_eq_true, List.all_eq_true] at hb
        exact ⟨i, v, rfl, hz, h.symm, hb.1, Nat.eq_of_beq_eq_true hb.2⟩

theorem reps_lits (vs : List Value) : Reps K (vs.map .lit) vs := by
  refine ⟨by simp, fun i x v hx hv => ?_⟩
  simp only [List.getElem?_map, hv, Option.map_some, Option.some.injEq] at hx
  subst hx
  exact .lit v

/-- A new variable. -/
theorem newVar_does (hm : MemSat K objs w) (t : TypeId) (v : Value) (cs : List AVal) (hr : Reps K cs v.cells.toList) (h1 : ∀ u ∈ v.cells.toList, u.oneCell' = true) :
    ∃ a w' K', (newVar t v).run P w = .ok a w' ∧ K.le K' ∧ MemSat K' (objs ++ [(0, .row t cs.length [cs])]) w' ∧ Rep K' (.ptr objs.length 0 cs.length 0 0) (.pointer (some a)) := by
  refine ⟨⟨w.heap.size, 0, none⟩, w.alloc (.cells v.cells t), K.newObj w.heap.size 1, by simp [newVar, newRow], le_newObj K _ _, hm.addRow t cs.length [cs] v.cells 1 (by omega) (by simp) (by have := hr.1; simp at this; omega) (by simp) h1 ?_, ?_⟩
  · intro i j e x he hx
    cases i with
    | zero =>
      simp only [List.getElem?_cons_zero, Option.some.injEq] at he
      subst he
      obtain ⟨u, hu, hru⟩ := hr.get hx
      exact ⟨u, by simpa using hu, hru⟩
    | succ i => simp at he
  · have := Rep.ptr (K := K.newObj w.heap.size 1) objs.length 0 cs.length 0 0 (by simp [Ctx.newObj, hm.len]) (Nat.zero_le _)
    have e2 : (K.newObj w.heap.size 1).ρ objs.length 0 = w.heap.size := by simp [Ctx.newObj, hm.len]
    rw [e2] at this
    simpa using this

theorem alloc_sound (hm : MemSat K objs w) {t : TypeId} {z : List AVal} (h : zeroA P t = some z) :
    ∃ u w' K', (Instr.alloc t true (.tuple #[])).run P w = .ok u w' ∧ K.le K' ∧ MemSat K' (objs ++ [(0, .row t z.length [z])]) w' ∧ Rep K' (.ptr objs.length 0 z.length 0 0) u := by
  obtain ⟨i, v, hi, hz, rfl, h1, hs⟩ := zeroA_some h
  obtain ⟨a, w', K', hrun, hle, hm', hr⟩ := newVar_does (P := P) hm t v (v.cells.toList.map .lit) (reps_lits _) h1
  exact ⟨.pointer (some a), w', K', by simp [Instr.alloc, zeroValue, typeInfo, hi, hz, hrun], hle, hm', hr⟩

theorem box_sound (hm : MemSat K objs w) {t : TypeId} {x : AVal} {v : Value} {cs : List AVal} (hx : Rep K x v) (h : cellsA x = some cs) :
    ∃ u w' K', (Instr.box t v).run P w = .ok u w' ∧ K.le K' ∧ MemSat K' (objs ++ [(0, .row t cs.length [cs])]) w' ∧ Rep K' (.ptr objs.length 0 cs.length 0 0) u := by
  obtain ⟨hr, h1⟩ := cellsA_sound hx h
  obtain ⟨a, w', K', hrun, hle, hm', hr'⟩ := newVar_does (P := P) hm t v cs hr h1
  exact ⟨.pointer (some a), w', K', by simp [Instr.box, hrun], hle, hm', hr'⟩

theorem foldl_set (l : List Value) : ∀ (cs : Array Value) (off n : Nat), off + n + l.length ≤ cs.size →
    ((l.toArray.zipIdx n).foldl (fun cs (c, j) => cs.setIfInBounds (off + j) c) cs).toList = cs.toList.take (off + n) ++ l ++ cs.toList.drop (off + n + l.length) := by
  induction l with
  | nil =>
    intro cs off n _
    have e : (([] : List Value).toArray.zipIdx n) = #[] := by apply Array.ext'; simp
    rw [e]
    simp
  | cons v l ih =>
    intro cs off n h
    simp only [List.length_cons] at h
    have e : (v :: l).toArray.zipIdx n = #[(v, n)] ++ l.toArray.zipIdx (n + 1) := by
      apply Array.ext'
      simp
    rw [e, Array.foldl_append]
    have := ih (cs.setIfInBounds (off + n) v) off (n + 1) (by simp; omega)
    simp only [List.foldl_toArray', List.foldl_cons, List.foldl_nil] at this ⊢
    rw [this]
    have hstep := list_seg_step cs.toList (off + n) v l (by simp; omega)
    simp only [Array.toList_setIfInBounds]
    rw [← Nat.add_assoc off n 1]
    simpa [Nat.add_assoc, Nat.add_comm, Nat.add_left_comm] using hstep

theorem fillA_sound (place : Nat → Option (Nat × Nat)) : ∀ (ps : List (Nat × AVal)) (qs : List (Nat × Value)) (cells : List AVal) (vs : List Value) (cs : List AVal),
    qs.length = ps.length → (∀ (i : Nat) (p : Nat × AVal) (q : Nat × Value), ps[i]? = some p → qs[i]? = some q → q.1 = p.1 ∧ Rep K p.2 q.2) → Reps K cells vs → (∀ u ∈ vs, u.oneCell' = true) → fillA place cells ps = some cs →
    ∃ us : List Value, Instr.fill place vs.toArray qs = some us.toArray ∧ Reps K cs us ∧ ∀ u ∈ us, u.oneCell' = true
  | [], qs, cells, vs, cs, hl, _, hr, h1, h => by
    have : qs = [] := List.eq_nil_of_length_eq_zero (by simpa using hl)
    subst this
    simp only [fillA, Option.some.injEq] at h
    subst h
    exact ⟨vs, rfl, hr, h1⟩
  | (i, x) :: ps, [], cells, vs, cs, hl, _, hr, h1, h => by simp at hl
  | (i, x) :: ps, (i', v) :: qs, cells, vs, cs, hl, hpq, hr, h1, h => by
    obtain ⟨e0, hxv⟩ := hpq 0 _ _ rfl rfl
    simp only at e0 hxv
    subst e0
    simp only [fillA] at h
    cases hp : place i' with
    | none => simp [hp] at h
    | some os =>
      obtain ⟨off, size⟩ := os
      cases hc : cellsA x with
      | none => simp [hp, hc] at h
      | some cx =>
        simp only [hp, hc] at h
        cases hb : Nat.beq cx.length size && Nat.ble (off + cx.length) cells.length with
        | false => simp [hb] at h
        | true =>
          simp only [hb, cond_true] at h
          simp only [Bool.and_eq_true] at hb
          have hsz := Nat.eq_of_beq_eq_true hb.1
          have hfit := Nat.le_of_ble_eq_true hb.2
          obtain ⟨hrc, h1c⟩ := cellsA_sound hxv hc
          have hlen : v.cells.size = cx.length := by rw [← hrc.1]; simp
          have hvl : vs.length = cells.length := hr.1
          have hset := foldl_set v.cells.toList vs.toArray off 0 (by simp; omega)
          obtain ⟨us, hus, hrus, h1us⟩ := fillA_sound place ps qs (splice cells off cx) (vs.take off ++ v.cells.toList ++ vs.drop (off + v.cells.toList.length)) cs (by simpa using hl)
            (fun i p q hp hq => hpq (i + 1) p q (by simpa using hp) (by simpa using hq)) (hr.splice hrc off)
            (fun u hu => by
              simp only [List.mem_append] at hu
              rcases hu with (hu | hu) | hu
              · exact h1 u (List.mem_of_mem_take hu)
              · exact h1c u hu
              · exact h1 u (List.mem_of_mem_drop hu)) h
          refine ⟨us, ?_, hrus, h1us⟩
          simp only [Instr.fill, hp]
          rw [if_neg (by simp; omega)]
          have e : v.cells.zipIdx.foldl (fun cs (c, j) => cs.setIfInBounds (off + j) c) vs.toArray = (vs.take off ++ v.cells.toList ++ vs.drop (off + v.cells.toList.length)).toArray := by
            apply Array.ext'
            have h2 := hset
            simp only [Array.toArray_toList, Nat.add_zero] at h2
            exact h2
          rw [e]
          exact hus

theorem mapM_sizes (fs : List Field) (h : ∀ f ∈ fs, (P.info? f.type).isSome = true) :
    fs.mapM (fun f => (P.info? f.type).map fun i => (f.offset, i.size)) = some (fs.map fun f => (f.offset, sizeA P f.type)) := by
  induction fs with
  | nil => rfl
  | cons f fs ih =>
    have ih' := ih (fun g hg => h g (by simp [hg]))
    have hf := h f (by simp)
    cases hi : P.info? f.type with
    | none => simp [hi] at hf
    | some i => simp [List.mapM_cons, hi, ih', sizeA]

theorem buildA_sound {t : TypeId} {ps : List (Nat × AVal)} {qs : List (Nat × Value)} {a : AVal} (hl : qs.length = ps.length)
    (hpq : ∀ (i : Nat) (p : Nat × AVal) (q : Nat × Value), ps[i]? = some p → qs[i]? = some q → q.1 = p.1 ∧ Rep K p.2 q.2) (h : buildA P t ps = .val a)
    (hfs : ∀ fs, P.underlying t = some (.struct fs) → ∀ f ∈ fs.toList, (P.info? f.type).isSome = true) (hel : ∀ n e, P.underlying t = some (.array n e) → (P.info? e).isSome = true) :
    ∃ u, (Instr.build t qs.toArray).run P w = .ok u w ∧ Rep K a u := by
  unfold buildA at h
  split at h
  · rename_i fs z hu hz
    obtain ⟨i, v, hi, hz0, rfl, h1, hs⟩ := zeroA_some hz
    split at h
    · rename_i cs hf
      simp only [ORes.val.injEq] at h
      subst h
      obtain ⟨us, hus, hrus, h1us⟩ := fillA_sound (K := K) _ ps qs _ v.cells.toList cs hl hpq (reps_lits _) h1 hf
      refine ⟨.agg us.toArray, ?_, rep_of_agg hrus h1us⟩
      have hpl : structPlace P fs = (fun x : Nat => (fs.toList.map fun (f : Field) => (f.offset, sizeA P f.type))[x]?) := by
        funext x
        simp only [structPlace, List.getElem?_map, Array.getElem?_toList]
        cases fs[x]? <;> rfl
      have hus' := hus
      rw [hpl] at hus'
      simp only [Array.toArray_toList] at hus'
      have hb : P.built t qs = some us.toArray := by
        simp only [Program.built, hi, hu, hz0, mapM_sizes fs.toList (hfs fs hu)]
        simpa using hus'
      exact run_build w t qs.toArray us.toArray (by simpa using hb)
    · cases h
  · rename_i n e z hu hz
    obtain ⟨i, v, hi, hz0, rfl, h1, hs⟩ := zeroA_some hz
    split at h
    · rename_i cs hf
      simp only [ORes.val.injEq] at h
      subst h
      obtain ⟨us, hus, hrus, h1us⟩ := fillA_sound (K := K) _ ps qs _ v.cells.toList cs hl hpq (reps_lits _) h1 hf
      refine ⟨.agg us.toArray, ?_, rep_of_agg hrus h1us⟩
      have hus' := hus
      simp only [Array.toArray_toList] at hus'
      simp [Instr.build, zeroValue, typeInfo, hi, hz0, run_underlying hu, sizeA_run (hel n e hu), hus']
    · cases h
  · cases h

end
end Go.Fw
