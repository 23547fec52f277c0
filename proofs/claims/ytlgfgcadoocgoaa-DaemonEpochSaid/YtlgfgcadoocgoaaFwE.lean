/-
  Soundness, third part: reading abstract values back; parts of structs; loads and stores.
-/
import Derived.Test.YtlgfgcadoocgoaaFwD
namespace Go.Fw
set_option linter.unusedSimpArgs false
set_option linter.unusedVariables false
open Go.RowKit

section
variable {K : Ctx} {P : Program} {w : World} {objs : Objs}

theorem rep_lit {v0 v : Value} (h : Rep K (.lit v0) v) : v = v0 := by cases h; rfl
theorem rep_agg {cs : List AVal} {v : Value} (h : Rep K (.agg cs) v) : ∃ vs : List Value, v = .agg vs.toArray ∧ Reps K cs vs ∧ ∀ u ∈ vs, u.oneCell' = true := by
  cases h with
  | agg _ vs hl h1 h => exact ⟨vs, rfl, ⟨hl, h⟩, h1⟩
theorem rep_tup {cs : List AVal} {v : Value} (h : Rep K (.tup cs) v) : ∃ vs : List Value, v = .tuple vs.toArray ∧ Reps K cs vs := by
  cases h with
  | tup _ vs hl h => exact ⟨vs, rfl, ⟨hl, h⟩⟩
theorem rep_ref {cs : List AVal} {v : Value} (h : Rep K (.ref cs) v) : ∃ (b off : Nat) (u : Nat → Value), v = .pointer (some ⟨b, off, none⟩) ∧ (∀ j, j < cs.length → K.M b (off + j) = some (u j)) ∧ ∀ (j : Nat) (x : AVal), cs[j]? = some x → Rep K x (u j) := by
  cases h with
  | ref _ b off u hM h => exact ⟨b, off, u, rfl, hM, h⟩
theorem rep_ptr {o ver k i j : Nat} {v : Value} (h : Rep K (.ptr o ver k i j) v) : v = .pointer (some ⟨K.ρ o ver, i * k + j, none⟩) ∧ o < K.n ∧ ver ≤ K.vs o := by
  cases h with
  | ptr _ _ _ _ _ ho hv => exact ⟨rfl, ho, hv⟩
theorem rep_fn {f : Fn} {xs ys : List AVal} {v : Value} (h : Rep K (.fn f xs ys) v) : ∃ vs us : List Value, v = .func f vs.toArray us.toArray ∧ Reps K xs vs ∧ Reps K ys us := by
  cases h with
  | fn _ _ _ vs us hl hm h g => exact ⟨vs, us, rfl, ⟨hl, h⟩, ⟨hm, g⟩⟩

theorem add_lit (b off n : Nat) : (⟨b, off, none⟩ : Addr).add n = ⟨b, off + n, none⟩ := by
  unfold Addr.add
  split
  · rename_i h; subst h; rfl
  · rfl

theorem Reps.get {xs : List AVal} {vs : List Value} (h : Reps K xs vs) {i : Nat} {x : AVal} (hx : xs[i]? = some x) : ∃ v, vs[i]? = some v ∧ Rep K x v := by
  have hi : i < xs.length := (List.getElem?_eq_some_iff.1 hx).1
  have hv : vs[i]? = some (vs[i]'(by rw [h.1]; exact hi)) := List.getElem?_eq_getElem _
  exact ⟨_, hv, h.2 i x _ hx hv⟩

theorem Reps.drop {xs : List AVal} {vs : List Value} (h : Reps K xs vs) (n : Nat) : Reps K (xs.drop n) (vs.drop n) := by
  refine ⟨by simp [h.1], fun i x v hx hv => ?_⟩
  rw [List.getElem?_drop] at hx hv
  exact h.2 _ x v hx hv
theorem Reps.take {xs : List AVal} {vs : List Value} (h : Reps K xs vs) (n : Nat) : Reps K (xs.take n) (vs.take n) := by
  refine ⟨by simp [h.1], fun i x v hx hv => ?_⟩
  rw [List.getElem?_take] at hx hv
  split at hx
  · rename_i hi
    rw [if_pos hi] at hv
    exact h.2 _ x v hx hv
  · cases hx
theorem Reps.splice {xs ys : List AVal} {vs us : List Value} (h : Reps K xs vs) (g : Reps K ys us) (off : Nat) : Reps K (splice xs off ys) (vs.take off ++ us ++ vs.drop (off + us.length)) := by
  unfold Fw.splice
  rw [← g.1]
  exact ((h.take off).append g).append (h.drop _)

theorem rep_of_agg {cs : List AVal} {vs : List Value} (h : Reps K cs vs) (h1 : ∀ u ∈ vs, u.oneCell' = true) : Rep K (.agg cs) (.agg vs.toArray) := .agg cs vs h.1 h1 h.2

theorem mem_drop_take {α : Type} {l : List α} {m n : Nat} {x : α} (h : x ∈ (l.drop m).take n) : x ∈ l := List.mem_of_mem_drop (List.mem_of_mem_take h)

theorem oneCell_cells {v : Value} (h : v.oneCell' = true) : v.cells.toList = [v] := by cases v <;> first | rfl | simp [Value.oneCell'] at h

theorem cellsA_sound {x : AVal} {v : Value} {cs : List AVal} (h : Rep K x v) (hc : cellsA x = some cs) : Reps K cs v.cells.toList ∧ ∀ u ∈ v.cells.toList, u.oneCell' = true := by
  have one : ∀ (y : AVal), Rep K y v → v.oneCell' = true → Reps K [y] v.cells.toList ∧ ∀ u ∈ v.cells.toList, u.oneCell' = true := by
    intro y hy h1
    rw [oneCell_cells h1]
    exact ⟨Reps.cons hy (Reps.nil K), by simp [h1]⟩
  cases x with
  | any => simp [cellsA] at hc
  | tup _ => simp [cellsA] at hc
  | lit v0 =>
    have e := rep_lit h
    subst e
    cases v <;> simp only [cellsA, Option.some.injEq] at hc <;> first | (subst hc; exact one _ (.lit _) rfl) | cases hc
  | agg l =>
    simp only [cellsA, Option.some.injEq] at hc
    subst hc
    obtain ⟨vs, rfl, hr, h1⟩ := rep_agg h
    exact ⟨by simpa [Value.cells] using hr, by simpa [Value.cells] using h1⟩
  | seq k n t f => simp only [cellsA, Option.some.injEq] at hc; subst hc; exact one _ h (by cases h <;> rfl)
  | ref l => simp only [cellsA, Option.some.injEq] at hc; subst hc; exact one _ h (by cases h; rfl)
  | ptr o ver k i j => simp only [cellsA, Option.some.injEq] at hc; subst hc; exact one _ h (by cases h; rfl)
  | own o ver k f l => simp only [cellsA, Option.some.injEq] at hc; subst hc; exact one _ h (by cases h <;> rfl)
  | fn f a b => simp only [cellsA, Option.some.injEq] at hc; subst hc; exact one _ h (by cases h; rfl)
  | ifc t a => simp only [cellsA, Option.some.injEq] at hc; subst hc; exact one _ h (by cases h; rfl)
  | map o => simp only [cellsA, Option.some.injEq] at hc; subst hc; exact one _ h (by cases h; rfl)

theorem isAgg_run {t : TypeId} {b : Bool} (h : aggA P t = some b) : (isAgg t).run P w = .ok b w := by
  unfold aggA at h
  cases hu : P.underlying t with
  | none => simp [hu] at h
  | some d =>
    simp only [hu] at h
    cases d <;> simp only [Option.some.injEq] at h <;> subst h <;> simp [isAgg, run_underlying hu]

theorem sizeOf_run {t : TypeId} {i : TypeInfo} (h : P.info? t = some i) : (sizeOf t).run P w = .ok i.size w := by
  simp [sizeOf, typeInfo, h]

theorem sizeA_run {t : TypeId} (h : (P.info? t).isSome = true) : (sizeOf t).run P w = .ok (sizeA P t) w := by
  cases hi : P.info? t with
  | none => simp [hi] at h
  | some i => simp [sizeOf, typeInfo, hi, sizeA]

theorem info_of_underlying {t : TypeId} {d : TypeDesc} (h : P.underlying t = some d) : (P.info? t).isSome = true := by
  unfold Program.underlying at h
  cases hi : P.info? t with
  | none => simp [hi] at h
  | some i => rfl

theorem info_of_agg {t : TypeId} {b : Bool} (h : aggA P t = some b) : (P.info? t).isSome = true := by
  unfold aggA at h
  cases hu : P.underlying t with
  | none => simp [hu] at h
  | some d => exact info_of_underlying hu

theorem partA_sound {t : TypeId} {cs : List AVal} {vs : List Value} {off : Nat} {a : AVal} (h : partA P t cs off = some a) (hr : Reps K cs vs) (h1 : ∀ u ∈ vs, u.oneCell' = true) :
    ∃ u, (part t vs.toArray off).run P w = .ok u w ∧ Rep K a u := by
  unfold partA at h
  cases ha : aggA P t with
  | none => simp [ha] at h
  | some b =>
    simp only [ha] at h
    cases b with
    | true =>
      cases hle : Nat.ble (off + sizeA P t) cs.length with
      | false => simp [hle] at h
      | true =>
        simp only [hle, cond_true, Option.some.injEq] at h
        subst h
        have hsz := Nat.le_of_ble_eq_true hle
        refine ⟨.agg ((vs.drop off).take (sizeA P t)).toArray, ?_, rep_of_agg ((hr.drop off).take _) (fun u hu => h1 u (mem_drop_take hu))⟩
        simp only [part, Sem.run_bind, isAgg_run ha, Result.andThen_ok, if_true, sizeA_run (info_of_agg ha), Sem.run_pure]
        congr 2
        apply Array.ext'
        simp [List.drop_take]
    | false =>
      simp only at h
      obtain ⟨v, hv, hrv⟩ := hr.get h
      refine ⟨v, ?_, hrv⟩
      simp [part, isAgg_run ha, hv]

/-- A variable read out of memory whose cells are known. -/
theorem loadVar_sound {t : TypeId} {cs : List AVal} {off b base : Nat} {a : AVal} (u : Nat → Value) (h : partA P t cs off = some a)
    (hM : ∀ j, j < cs.length → w.cell? ⟨b, base + j, none⟩ = some (u j)) (h1 : ∀ j, j < cs.length → (u j).oneCell' = true) (hr : ∀ (j : Nat) (x : AVal), cs[j]? = some x → Rep K x (u j)) :
    ∃ v, (loadVar t ⟨b, base + off, none⟩).run P w = .ok v w ∧ Rep K a v := by
  unfold partA at h
  cases ha : aggA P t with
  | none => simp [ha] at h
  | some bb =>
    simp only [ha] at h
    cases bb with
    | true =>
      cases hle : Nat.ble (off + sizeA P t) cs.length with
      | false => simp [hle] at h
      | true =>
        simp only [hle, cond_true, Option.some.injEq] at h
        subst h
        have hsz := Nat.le_of_ble_eq_true hle
        refine ⟨.agg ((List.range (sizeA P t)).map fun j => u (off + j)).toArray, ?_, rep_of_agg ⟨by simp; omega, fun i x v hx hv => ?_⟩ (fun v hv => ?_)⟩
        · simp only [loadVar, Sem.run_bind, isAgg_run ha, Result.andThen_ok, if_true, sizeA_run (info_of_agg ha), Sem.run_pure]
          rw [run_loadCells w ⟨b, base + off, none⟩ (sizeA P t) (fun j => u (off + j)) (fun j hj => by rw [add_lit, Nat.add_assoc]; exact hM (off + j) (by omega))]
          rfl
        · rw [List.getElem?_take] at hx
          split at hx
          · rename_i hi
            rw [List.getElem?_drop] at hx
            simp only [List.getElem?_map, List.getElem?_range hi, Option.map_some, Option.some.injEq] at hv
            subst hv
            exact hr _ x hx
          · cases hx
        · simp only [List.mem_map, List.mem_range] at hv
          obtain ⟨j, hj, rfl⟩ := hv
          exact h1 _ (by omega)
    | false =>
      simp only at h
      have hlt : off < cs.length := (List.getElem?_eq_some_iff.1 h).1
      refine ⟨u off, ?_, hr off a h⟩
      simp only [loadVar, Sem.run_bind, isAgg_run ha, Result.andThen_ok, Bool.false_eq_true, if_false, run_load, hM off hlt]

theorem rowOf_some {o ver k : Nat} {te : TypeId} {es : List (List AVal)} (h : rowOf objs o ver k = some (te, es)) : objs[o]? = some (ver, .row te k es) := by
  unfold rowOf at h
  split at h
  · rename_i v t k' es' heq
    cases hb : Nat.beq v ver && Nat.beq k' k with
    | false => simp [hb] at h
    | true =>
      simp only [hb, cond_true, Option.some.injEq, Prod.mk.injEq] at h
      simp only [Bool.and_eq_true] at hb
      obtain ⟨rfl, rfl⟩ := h
      rw [heq, Nat.eq_of_beq_eq_true hb.1, Nat.eq_of_beq_eq_true hb.2]
  · cases h

/-- What an operation comes to. -/
def Does (P : Program) (s : Sem Next) (w : World) (K : Ctx) (objs : Objs) (v : AVal) : Prop :=
  ∃ u w' K', (s.run P w = .ok (.value u) w' ∨ (s.run P w = .ok .skip w' ∧ u = undef)) ∧ Ctx.le K K' ∧ MemSat K' objs w' ∧ Rep K' v u

theorem Does.same {s : Sem Next} {v : AVal} {u : Value} (hm : MemSat K objs w) (h : s.run P w = .ok (.value u) w) (hr : Rep K v u) : Does P s w K objs v :=
  ⟨u, w, K, .inl h, .refl K, hm, hr⟩

theorem esLen (hm : MemSat K objs w) {o ver k : Nat} {te : TypeId} {es : List (List AVal)} (hp : objs[o]? = some (ver, .row te k es)) {i : Nat} {e : List AVal} (he : es[i]? = some e) : e.length = k ∧ K.C o ver ≠ 0 := by
  obtain ⟨h1, h2, _⟩ := hm.obj o _ hp
  have := (List.getElem?_eq_some_iff.1 he).1
  have h2' : es.length ≤ K.C o ver := h2
  exact ⟨h1 e (List.mem_of_getElem? he), by omega⟩

theorem loadA_sound (hm : MemSat K objs w) {t : TypeId} {p a : AVal} {v : Value} (hp : Rep K p v) (h : loadA P t p objs = .val a) :
    ∃ u, (Instr.loadAt t v).run P w = .ok u w ∧ Rep K a u := by
  cases p with
  | ref cs =>
    simp only [loadA] at h
    cases hpa : partA P t cs 0 with
    | none => simp [hpa] at h
    | some a' =>
      simp only [hpa, ORes.val.injEq] at h
      subst h
      obtain ⟨b, off, u, rfl, hM, hr⟩ := rep_ref hp
      obtain ⟨x, hx, hrx⟩ := loadVar_sound (w := w) (b := b) (base := off) u hpa (fun j hj => (hm.mem _ _ _ (hM j hj)).1) (fun j hj => (hm.mem _ _ _ (hM j hj)).2) hr
      exact ⟨x, by simpa [Instr.loadAt, Instr.sureAddr] using hx, hrx⟩
  | ptr o ver k i j =>
    simp only [loadA] at h
    cases hro : rowOf objs o ver k with
    | none => simp [hro] at h
    | some q =>
      obtain ⟨te, es⟩ := q
      simp only [hro] at h
      cases he : es[i]? with
      | none => simp [he] at h
      | some e =>
        simp only [he] at h
        cases hpa : partA P t e j with
        | none => simp [hpa] at h
        | some a' =>
          simp only [hpa, ORes.val.injEq] at h
          subst h
          obtain ⟨rfl, ho, hv⟩ := rep_ptr hp
          have hobj := rowOf_some hro
          obtain ⟨hek, hC⟩ := esLen hm hobj he
          obtain ⟨c, hc, hs, h1, hr⟩ := hm.rowBlock hobj hC
          have cell : ∀ j, j < e.length → ∃ u, c[i * k + j]? = some u ∧ ∀ x, e[j]? = some x → Rep K x u := by
            intro j hj
            obtain ⟨u, hu, hru⟩ := hr i j e _ he (List.getElem?_eq_getElem hj)
            exact ⟨u, hu, fun x hx => by rw [List.getElem?_eq_getElem hj, Option.some.injEq] at hx; subst hx; exact hru⟩
          obtain ⟨x, hx, hrx⟩ := loadVar_sound (K := K) (w := w) (b := K.ρ o ver) (base := i * k) (fun j => (c[i * k + j]?).getD undef) hpa
            (fun j hj => by obtain ⟨u, hu, _⟩ := cell j hj; simp [World.cell?, hc, hu])
            (fun j hj => by obtain ⟨u, hu, _⟩ := cell j hj; simp only [hu, Option.getD_some]; exact h1 u (Array.mem_toList_iff.2 (Array.mem_of_getElem? hu)))
            (fun j x hx => by obtain ⟨u, hu, hru⟩ := cell j (List.getElem?_eq_some_iff.1 hx).1; simp only [hu, Option.getD_some]; exact hru x hx)
          exact ⟨x, by simpa [Instr.loadAt, Instr.sureAddr] using hx, hrx⟩
  | _ => simp [loadA] at h

theorem storeA_sound (hm : MemSat K objs w) {t : TypeId} {p x a : AVal} {v u : Value} {objs' : Objs} (hp : Rep K p v) (hx : Rep K x u) (hty : (P.info? t).isSome = true) (h : storeA P t p x objs = .upd a objs') :
    ∃ w', (Instr.storeAt t v u).run P w = .ok () w' ∧ MemSat K objs' w' ∧ a = .lit undef := by
  unfold storeA at h
  split at h
  · rename_i o ver k i j cs hcs
    cases hro : rowOf objs o ver k with
    | none => simp [hro] at h
    | some q =>
      obtain ⟨te, es⟩ := q
      simp only [hro] at h
      cases he : es[i]? with
      | none => simp [he] at h
      | some e =>
        simp only [he] at h
        cases hb : Nat.beq cs.length (sizeA P t) && Nat.ble (j + cs.length) e.length with
        | false => simp [hb] at h
        | true =>
          simp only [hb, cond_true, ORes.upd.injEq] at h
          obtain ⟨rfl, rfl⟩ := h
          simp only [Bool.and_eq_true] at hb
          have hsz := Nat.eq_of_beq_eq_true hb.1
          have hfit := Nat.le_of_ble_eq_true hb.2
          obtain ⟨rfl, ho, hv⟩ := rep_ptr hp
          have hobj := rowOf_some hro
          obtain ⟨hek, hC⟩ := esLen hm hobj he
          obtain ⟨c, hc, hs, h1, hr⟩ := hm.rowBlock hobj hC
          obtain ⟨hrc, h1c⟩ := cellsA_sound hx hcs
          have hi : i < es.length := (List.getElem?_eq_some_iff.1 he).1
          have hesC : es.length ≤ K.C o ver := (hm.obj o _ hobj).2.1
          have hbound : i * k + k ≤ c.size := by
            rw [hs]
            calc i * k + k = (i + 1) * k := by rw [Nat.add_mul, Nat.one_mul]
              _ ≤ K.C o ver * k := Nat.mul_le_mul_right k (by omega)
          have hlen : u.cells.toList.length = cs.length := hrc.1
          have hstore := run_storeCells_at P (K.ρ o ver) (i * k + j) te u.cells.toList 0 c w hc (by rw [hlen]; omega) h1c
          simp only [Nat.add_zero] at hstore
          refine ⟨w.setRow (K.ρ o ver) (List.take (i * k + j) c.toList ++ u.cells.toList ++ List.drop (i * k + j + u.cells.toList.length) c.toList).toArray, ?_, hm.setRow hobj hC c (List.take (i * k + j) c.toList ++ u.cells.toList ++ List.drop (i * k + j + u.cells.toList.length) c.toList).toArray hc ?_ ?_ _ ?_ ?_ ?_, rfl⟩
          · simp only [Instr.storeAt, Instr.sureAddr, Sem.run_bind, Sem.run_pure, Result.andThen_ok, storeVar, sizeA_run hty]
            have hne : ¬ (u.cells.size ≠ sizeA P t) := by
              have : u.cells.size = cs.length := by rw [← hlen]; simp
              omega
            simp only [hne, if_false, Sem.run_pure, Result.andThen_ok]
            exact hstore
          · simp only [List.size_toArray, List.length_append, List.length_take, List.length_drop, Array.length_toList, hlen]
            omega
          · intro y hy
            simp only [List.mem_append] at hy
            rcases hy with (hy | hy) | hy
            · exact h1 y (List.mem_of_mem_take hy)
            · exact h1c y hy
            · exact h1 y (List.mem_of_mem_drop hy)
          · simpa using hesC
          · intro y hy
            rcases List.mem_or_eq_of_mem_set hy with hy | rfl
            · exact (hm.obj o _ hobj).1 y hy
            · simp only [splice, List.length_append, List.length_take, List.length_drop]
              omega
          · intro i' j' e' x' he' hx'
            rw [List.getElem?_set] at he'
            by_cases hii : i = i'
            · subst hii
              rw [if_pos rfl, if_pos hi] at he'
              simp only [Option.some.injEq] at he'
              subst he'
              have hj' : j' < k := by
                have := (List.getElem?_eq_some_iff.1 hx').1
                simp only [splice, List.length_append, List.length_take, List.length_drop] at this
                omega
              -- the cells of element i behind the store
              have hel : Reps K e ((List.range k).map fun q => (c[i * k + q]?).getD undef) := by
                refine ⟨by simp [hek], fun q y z hy hz => ?_⟩
                have hq : q < k := by have := (List.getElem?_eq_some_iff.1 hy).1; omega
                simp only [List.getElem?_map, List.getElem?_range hq, Option.map_some, Option.some.injEq] at hz
                subst hz
                obtain ⟨z, hz, hrz⟩ := hr i q e y he hy
                simp only [hz, Option.getD_some]
                exact hrz
              obtain ⟨z, hz, hrz⟩ := (hel.splice hrc j).get hx'
              refine ⟨z, ?_, hrz⟩
              rw [← hz]
              simp only [List.getElem?_toArray]
              rcases Nat.lt_or_ge j' j with hlt | hge
              · rw [List.getElem?_append_left (by simp; omega), List.getElem?_append_left (by simp; omega), List.getElem?_append_left (by simp; omega), List.getElem?_append_left (by simp; omega)]
                rw [List.getElem?_take, if_pos (by omega), List.getElem?_take, if_pos hlt]
                simp only [List.getElem?_map, List.getElem?_range hj', Option.map_some]
                simp only [Array.getElem?_toList]
                rw [Array.getElem?_eq_getElem (by omega)]
                simp
              · rcases Nat.lt_or_ge j' (j + cs.length) with hlt | hge2
                · have e1 : (List.take (i * k + j) c.toList).length = i * k + j := by simp; omega
                  have e2 : (List.take j ((List.range k).map fun q => (c[i * k + q]?).getD undef)).length = j := by simp; omega
                  rw [List.getElem?_append_left (by simp only [List.length_append, e1, hlen]; omega), List.getElem?_append_right (by rw [e1]; omega), e1]
                  rw [List.getElem?_append_left (by simp only [List.length_append, e2, hlen]; omega), List.getElem?_append_right (by rw [e2]; omega), e2]
                  congr 1
                  omega
                · have e1 : (List.take (i * k + j) c.toList ++ u.cells.toList).length = i * k + j + cs.length := by simp only [List.length_append, List.length_take, Array.length_toList, hlen]; omega
                  have e2 : (List.take j ((List.range k).map fun q => (c[i * k + q]?).getD undef) ++ u.cells.toList).length = j + cs.length := by simp only [List.length_append, List.length_take, List.length_map, List.length_range, hlen]; omega
                  rw [List.getElem?_append_right (by rw [e1]; omega), e1, List.getElem?_append_right (by rw [e2]; omega), e2]
                  simp only [List.getElem?_drop, hlen]
                  have e3 : j + cs.length + (j' - (j + cs.length)) = j' := by omega
                  have e4 : i * k + j + cs.length + (i * k + j' - (i * k + j + cs.length)) = i * k + j' := by omega
                  rw [e3, e4]
                  simp only [List.getElem?_map, List.getElem?_range hj', Option.map_some, Array.getElem?_toList]
                  rw [Array.getElem?_eq_getElem (by omega)]
                  simp
            · rw [if_neg hii] at he'
              obtain ⟨z, hz, hrz⟩ := hr i' j' e' x' he' hx'
              refine ⟨z, ?_, hrz⟩
              rw [← hz]
              have hj' : j' < k := by
                have h3 := (hm.obj o _ hobj).1 e' (List.mem_of_getElem? he')
                have h4 := (List.getElem?_eq_some_iff.1 hx').1
                omega
              simp only [List.getElem?_toArray]
              have e1 : (List.take (i * k + j) c.toList).length = i * k + j := by simp; omega
              have e2 : (List.take (i * k + j) c.toList ++ u.cells.toList).length = i * k + j + cs.length := by simp only [List.length_append, e1, hlen]
              rcases Nat.lt_or_gt_of_ne hii with hlt | hgt
              · have : (i + 1) * k ≤ i' * k := Nat.mul_le_mul_right k hlt
                rw [Nat.add_mul, Nat.one_mul] at this
                rw [List.getElem?_append_right (by rw [e2]; omega), e2, List.getElem?_drop, hlen]
                have e4 : i * k + j + cs.length + (i' * k + j' - (i * k + j + cs.length)) = i' * k + j' := by omega
                rw [e4]
                simp
              · have : (i' + 1) * k ≤ i * k := Nat.mul_le_mul_right k hgt
                rw [Nat.add_mul, Nat.one_mul] at this
                rw [List.getElem?_append_left (by rw [e2]; omega), List.getElem?_append_left (by rw [e1]; omega), List.getElem?_take, if_pos (by omega)]
                simp
  · cases h

end
end Go.Fw
