/-
  Soundness, sixth part: slice literals, append, make.
-/
import Derived.Test.YtlgfgcadoocgoaaFwG
namespace Go.Fw
set_option linter.unusedSimpArgs false
set_option linter.unusedVariables false
open Go.RowKit

section
variable {K : Ctx} {P : Program} {w : World} {objs : Objs}

/-- Real cells that hold the elements es, k cells each. -/
structure Row (K : Ctx) (k : Nat) (es : List (List AVal)) (us : List Value) : Prop where
  len : us.length = es.length * k
  elem : ∀ e ∈ es, e.length = k
  one : ∀ u ∈ us, u.oneCell' = true
  rep : ∀ (i j : Nat) (e : List AVal) (x : AVal), es[i]? = some e → e[j]? = some x → ∃ u, us[i * k + j]? = some u ∧ Rep K x u

theorem Row.nil (K : Ctx) (k : Nat) : Row K k [] [] := ⟨by simp, by simp, by simp, fun i j e x he => by simp at he⟩

theorem Row.append {k : Nat} {es fs : List (List AVal)} {us vs : List Value} (h : Row K k es us) (g : Row K k fs vs) : Row K k (es ++ fs) (us ++ vs) := by
  refine ⟨by simp [h.len, g.len, Nat.add_mul], fun e he => ?_, fun u hu => ?_, fun i j e x he hx => ?_⟩
  · rcases List.mem_append.1 he with he | he
    · exact h.elem e he
    · exact g.elem e he
  · rcases List.mem_append.1 hu with hu | hu
    · exact h.one u hu
    · exact g.one u hu
  · rcases Nat.lt_or_ge i es.length with hlt | hge
    · rw [List.getElem?_append_left hlt] at he
      obtain ⟨u, hu, hr⟩ := h.rep i j e x he hx
      exact ⟨u, by rw [List.getElem?_append_left (List.getElem?_eq_some_iff.1 hu).1]; exact hu, hr⟩
    · rw [List.getElem?_append_right hge] at he
      obtain ⟨u, hu, hr⟩ := g.rep _ j e x he hx
      have e1 : (i - es.length) * k = i * k - es.length * k := Nat.sub_mul _ _ _
      have e2 : es.length * k ≤ i * k := Nat.mul_le_mul_right k hge
      refine ⟨u, ?_, hr⟩
      rw [List.getElem?_append_right (by rw [h.len]; omega), h.len, ← hu]
      congr 1
      omega

theorem Row.mono {L : Ctx} {k : Nat} {es : List (List AVal)} {us : List Value} (hKL : K.le L) (h : Row K k es us) : Row L k es us :=
  ⟨h.len, h.elem, h.one, fun i j e x he hx => by obtain ⟨u, hu, hr⟩ := h.rep i j e x he hx; exact ⟨u, hu, hr.mono hKL⟩⟩

/-- The elements of an object, from a place on. -/
theorem row_of_obj (hm : MemSat K objs w) {o ver k off len : Nat} {te : TypeId} {es : List (List AVal)} (hp : objs[o]? = some (ver, .row te k es)) (hle : off + len ≤ es.length) (hC : K.C o ver ≠ 0) :
    ∃ us : List Value, Row K k ((es.drop off).take len) us ∧ ∀ (j : Nat) (u : Value), us[j]? = some u → w.cell? ⟨K.ρ o ver, off * k + j, none⟩ = some u := by
  obtain ⟨h1, h2, _⟩ := hm.obj o _ hp
  have h2 : es.length ≤ K.C o ver := h2
  obtain ⟨c, hc, hs, hone, hr⟩ := hm.rowBlock hp hC
  have hsz : (off + len) * k ≤ c.size := by rw [hs]; exact Nat.mul_le_mul_right k (by omega)
  rw [Nat.add_mul] at hsz
  have hl : ((es.drop off).take len).length = len := by simp; omega
  refine ⟨(c.toList.drop (off * k)).take (len * k), ⟨by rw [hl]; simp; omega, fun e he => h1 e (mem_drop_take he), fun u hu => hone u (mem_drop_take hu), fun i j e x he hx => ?_⟩, fun j u hu => ?_⟩
  · rw [List.getElem?_take] at he
    split at he
    · rename_i hi
      rw [List.getElem?_drop] at he
      obtain ⟨u, hu, hru⟩ := hr (off + i) j e x he hx
      have hj : j < k := by have := h1 e (List.mem_of_getElem? he); have := (List.getElem?_eq_some_iff.1 hx).1; omega
      have hik : (i + 1) * k ≤ len * k := Nat.mul_le_mul_right k hi
      rw [Nat.add_mul, Nat.one_mul] at hik
      refine ⟨u, ?_, hru⟩
      rw [List.getElem?_take, if_pos (by omega), List.getElem?_drop, ← Nat.add_assoc, ← Nat.add_mul]
      simpa using hu
    · cases he
  · rw [List.getElem?_take] at hu
    split at hu
    · rw [List.getElem?_drop] at hu
      simp only [World.cell?, hc]
      simpa using hu
    · cases hu

theorem row_of_seq (hm : MemSat K objs w) {k n : Nat} {t : Bool} {f : Nat → List AVal} {A : Option Addr} {c : Nat} (h : Rep K (.seq k n t f) (.slice A n c)) :
    ∃ us : List Value, Row K k ((List.range n).map f) us ∧ (n ≠ 0 → ∃ ad, A = some ad ∧ ∀ (j : Nat) (u : Value), us[j]? = some u → w.cell? (ad.add j) = some u) := by
  obtain ⟨A', c', hv, _, _, _, h'⟩ := rep_seq h
  simp only [Value.slice.injEq] at hv
  obtain ⟨rfl, _, rfl⟩ := hv
  rcases Nat.eq_zero_or_pos n with h0 | h0
  · subst h0
    exact ⟨[], Row.nil K k, fun h => absurd rfl h⟩
  · obtain ⟨b, off, u, rfl, hk, hM, hr⟩ := h' h0
    have divmod : ∀ q, q < n * k → 0 < k ∧ q / k < n ∧ q % k < k ∧ q / k * k + q % k = q := by
      intro q hq
      have hk0 : 0 < k := by
        rcases Nat.eq_zero_or_pos k with h | h
        · subst h; simp at hq
        · exact h
      exact ⟨hk0, (Nat.div_lt_iff_lt_mul hk0).2 hq, Nat.mod_lt _ hk0, by rw [Nat.mul_comm]; exact Nat.div_add_mod q k⟩
    refine ⟨(List.range (n * k)).map fun q => u (q / k) (q % k), ⟨by simp, fun e he => ?_, fun v hv => ?_, fun i j e x he hx => ?_⟩, fun _ => ⟨⟨b, off, none⟩, rfl, fun j v hv => ?_⟩⟩
    · simp only [List.mem_map, List.mem_range] at he
      obtain ⟨i, hi, rfl⟩ := he
      exact hk i hi
    · simp only [List.mem_map, List.mem_range] at hv
      obtain ⟨q, hq, rfl⟩ := hv
      obtain ⟨_, h1, h2, _⟩ := divmod q hq
      exact (hm.mem _ _ _ (hM _ _ h1 h2)).2
    · rw [List.getElem?_map] at he
      rcases Nat.lt_or_ge i n with hi | hi
      · rw [List.getElem?_range hi] at he
        simp only [Option.map_some, Option.some.injEq] at he
        subst he
        have hj : j < k := by have := hk i hi; have := (List.getElem?_eq_some_iff.1 hx).1; omega
        have hik : (i + 1) * k ≤ n * k := Nat.mul_le_mul_right k hi
        rw [Nat.add_mul, Nat.one_mul] at hik
        refine ⟨u i j, ?_, hr i j x hi hx⟩
        rw [List.getElem?_map, List.getElem?_range (by omega)]
        simp only [Option.map_some, Option.some.injEq]
        have e1 : (i * k + j) / k = i := by rw [Nat.mul_comm, Nat.mul_add_div (by omega), Nat.div_eq_of_lt hj]; rfl
        have e2 : (i * k + j) % k = j := by rw [Nat.mul_comm, Nat.mul_add_mod, Nat.mod_eq_of_lt hj]
        rw [e1, e2]
      · rw [List.getElem?_eq_none (by simpa using hi)] at he
        cases he
    · rw [List.getElem?_map] at hv
      rcases Nat.lt_or_ge j (n * k) with hj | hj
      · rw [List.getElem?_range hj] at hv
        simp only [Option.map_some, Option.some.injEq] at hv
        subst hv
        obtain ⟨_, h1, h2, h3⟩ := divmod j hj
        have := (hm.mem _ _ _ (hM _ _ h1 h2)).1
        rw [h3] at this
        rw [add_lit]
        exact this
      · rw [List.getElem?_eq_none (by simpa using hj)] at hv
        cases hv

theorem newsA_sound (hm : MemSat K objs w) {k : Nat} {x : AVal} {v : Value} {es : List (List AVal)} (hx : Rep K x v) (h : newsA k x objs = some es) :
    ∃ (A : Option Addr) (c : Nat) (us : List Value), v = .slice A es.length c ∧ Row K k es us ∧ (es.length ≠ 0 → ∃ ad, A = some ad ∧ ∀ (j : Nat) (u : Value), us[j]? = some u → w.cell? (ad.add j) = some u) := by
  unfold newsA at h
  split at h
  · rename_i o ver k' off len
    cases hk : Nat.beq k k' with
    | false => rw [hk] at h; cases h
    | true =>
      rw [hk] at h
      have hk' := Nat.eq_of_beq_eq_true hk
      subst hk'
      simp only [cond_true] at h
      cases hro : rowOf objs o ver k with
      | none => simp [hro] at h
      | some q =>
        obtain ⟨te, fs⟩ := q
        simp only [hro] at h
        cases hb : Nat.ble (off + len) fs.length with
        | false => rw [hb] at h; cases h
        | true =>
          rw [hb] at h
          simp only [cond_true, Option.some.injEq] at h
          have hle := Nat.le_of_ble_eq_true hb
          subst h
          have hl : ((fs.drop off).take len).length = len := by simp; omega
          rw [hl]
          obtain ⟨ho, hv, hcase⟩ := rep_own hx
          rcases hcase with ⟨rfl, rfl, rfl⟩ | ⟨a, c, rfl, hlc, hC, ha⟩
          · exact ⟨none, 0, [], rfl, by simpa using Row.nil K k, fun h => absurd rfl h⟩
          · rcases Nat.eq_zero_or_pos len with h0 | h0
            · subst h0
              exact ⟨some a, c, [], rfl, by simpa using Row.nil K k, fun h => absurd rfl h⟩
            · obtain ⟨us, hus, hcell⟩ := row_of_obj hm (rowOf_some hro) hle (by omega)
              have := ha (by omega)
              subst this
              exact ⟨_, c, us, rfl, hus, fun _ => ⟨_, rfl, fun j u hu => by rw [add_lit]; exact hcell j u hu⟩⟩
  · split at h
    · rename_i n t f hs
      simp only [Option.some.injEq] at h
      subst h
      have hseq := seqOf_sound hx hs
      obtain ⟨A, c, rfl, _⟩ := rep_seq hseq
      obtain ⟨us, hus, hcell⟩ := row_of_seq hm hseq
      exact ⟨A, c, us, by simp, hus, by simpa using hcell⟩
    · cases h

theorem run_append_zero {t ty e : TypeId} {i : TypeInfo} (ht : P.underlying t = some (.slice e)) (hi : P.info? e = some i) (B A : Option Addr) (n c c' : Nat) (h : n ≤ c') :
    (Builtin.append_ #[t, t] ty #[.slice B n c', .slice A 0 c]).run P w = .ok (.slice B n c') w := by
  cases A <;> cases B <;> simp [Builtin.append_, run_underlying ht, sizeOf, typeInfo, hi, Builtin.lenOf, Builtin.firstCells, h, storeCells, loadCells, loadCellsFrom]

/-- The row that a growing append makes. -/
theorem grown_cells {k need cap : Nat} {es : List (List AVal)} {us : List Value} {z : Value} (hrow : Row K k es us) (hes : es.length = need) (hcap : need ≤ cap) (hz : z.cells.size = k) (h1 : ∀ u ∈ z.cells.toList, u.oneCell' = true)
    (C : Array Value) (hC : C = us.toArray ++ Builtin.zeroCells z.cells (cap - need)) :
    C.size = cap * k ∧ (∀ u ∈ C.toList, u.oneCell' = true) ∧ ∀ (i j : Nat) (e : List AVal) (x : AVal), es[i]? = some e → e[j]? = some x → ∃ u, C[i * k + j]? = some u ∧ Rep K x u := by
  subst hC
  refine ⟨?_, fun u hu => ?_, fun i j e x he hx => ?_⟩
  · simp only [Array.size_append, List.size_toArray, size_zeroCells, hz, hrow.len, hes]
    rw [← Nat.add_mul]
    congr 1
    omega
  · simp only [Array.toList_append, List.mem_append] at hu
    rcases hu with hu | hu
    · exact hrow.one u hu
    · simp only [Builtin.zeroCells, Array.toList_map, List.mem_map, Array.toList_range, List.mem_range] at hu
      obtain ⟨q, hq, rfl⟩ := hu
      rcases Nat.eq_zero_or_pos z.cells.size with h0 | h0
      · rw [h0] at hq; simp at hq
      · rw [getElem!_pos z.cells _ (Nat.mod_lt _ h0)]
        exact h1 _ (by simp)
  · obtain ⟨u, hu, hr⟩ := hrow.rep i j e x he hx
    refine ⟨u, ?_, hr⟩
    rw [Array.getElem?_append_left (by simpa using (List.getElem?_eq_some_iff.1 hu).1)]
    simpa using hu

theorem appendA_sound (hm : MemSat K objs w) {t ty : TypeId} {s x r : AVal} {sv xv : Value} {b : Bool} {objs' : Objs} (hs : Rep K s sv) (hx : Rep K x xv) (h : appendA P t s x objs = .eff b r objs') (hb : b = true) :
    ∃ u w' K', (Builtin.append_ #[t, t] ty #[sv, xv]).run P w = .ok u w' ∧ K.le K' ∧ MemSat K' objs' w' ∧ Rep K' r u := by
  subst hb
  unfold appendA at h
  split at h
  · rename_i e he
    have ht := elemA_some he
    split at h
    · rename_i z news hz hnews
      obtain ⟨i, zv, hi, hz0, -, hz1, hzs⟩ := zeroA_some hz
      have hsize : sizeA P e = i.size := by simp [sizeA, hi]
      have hbytes : bytesA P e = i.bytes := by simp [bytesA, hi]
      rw [hsize] at h hnews
      obtain ⟨A, c, us, rfl, hrow, hcell⟩ := newsA_sound hm hx hnews
      -- a new row
      have grow : ∀ (es : List (List AVal)) (olds : List Value) (cap : Nat), Row K i.size es olds → es.length + news.length ≤ cap →
          ∀ (C : Array Value), C = olds.toArray ++ us.toArray ++ Builtin.zeroCells zv.cells (cap - (es.length + news.length)) →
          C.size = cap * i.size ∧ (∀ u ∈ C.toList, u.oneCell' = true) ∧ ∀ (i' j : Nat) (e : List AVal) (x : AVal), (es ++ news)[i']? = some e → e[j]? = some x → ∃ u, C[i' * i.size + j]? = some u ∧ Rep K x u := by
        intro es olds cap hro hcap C hC
        exact grown_cells (need := es.length + news.length) (hro.append hrow) (by simp) hcap hzs hz1 C (by rw [hC]; simp)
      split at h
      · rename_i o ver k off len
        cases hro : rowOf objs o ver i.size with
        | none => simp [hro] at h
        | some q =>
          obtain ⟨te, es⟩ := q
          simp only [hro] at h
          cases hbb : Nat.beq k i.size && Nat.beq off 0 && Nat.beq te e with
          | false => rw [hbb] at h; cases h
          | true =>
            rw [hbb] at h
            simp only [cond_true, ORes.eff.injEq] at h
            obtain ⟨hob, rfl, rfl⟩ := h
            simp only [Bool.and_eq_true] at hbb hob
            obtain ⟨⟨hk, hoff⟩, hte⟩ := hbb
            have hk := Nat.eq_of_beq_eq_true hk
            have hoff := Nat.eq_of_beq_eq_true hoff
            have hte := Nat.eq_of_beq_eq_true hte
            subst hk hoff hte
            obtain ⟨hlen, hsm⟩ := hob
            have hlen := Nat.eq_of_beq_eq_true hlen
            simp only [smallA, hbytes, decide_eq_true_eq] at hsm
            obtain ⟨hsm, hsm2⟩ := hsm
            have hobj := rowOf_some hro
            obtain ⟨hel, hesC, _⟩ := hm.obj o _ hobj
            have hesC : es.length ≤ K.C o ver := hesC
            have hvs : ver = K.vs o := hm.ver o _ hobj
            obtain ⟨ho, hv, hcase⟩ := rep_own hs
            have elnew : ∀ e ∈ es ++ news, e.length = i.size := by
              intro y hy
              rcases List.mem_append.1 hy with hy | hy
              · exact hel y hy
              · exact hrow.elem y hy
            -- the grown object, in a new block
            have newBlock : ∀ (olds : List Value) (cap : Nat), Row K i.size es olds → es.length + news.length ≤ cap → cap ≠ 0 →
                ∃ K', K.le K' ∧ MemSat K' (objs.set o (ver + 1, .row te i.size (es ++ news))) (w.drew.alloc (.cells (olds.toArray ++ us.toArray ++ Builtin.zeroCells zv.cells (cap - (es.length + news.length))) te)) ∧
                  Rep K' (.own o (ver + 1) i.size 0 (len + news.length)) (.slice (some ⟨w.heap.size, 0, none⟩) (es.length + news.length) cap) := by
              intro olds cap hro' hcap hc0
              obtain ⟨g1, g2, g3⟩ := grow es olds cap hro' hcap _ rfl
              refine ⟨K.turn o w.heap.size cap, le_turn K o _ _, hm.turn hobj te i.size (es ++ news) w.heap.size cap _ (fun _ => .inr (Nat.le_refl _)) (fun _ => by simp) (fun q hq _ => Below.heap_alloc w.drew _ q hq)
                (hm.below.drew.alloc rfl rfl _) (by simpa using hcap) elnew (fun _ => ⟨_, ?_, g1, g2, g3⟩), ?_⟩
              · exact heap_alloc_new w.drew _
              · rw [hlen]
                refine .own o (ver + 1) i.size 0 _ (by simpa [Ctx.turn] using ho) (by simp [Ctx.turn, hvs]) _ cap hcap ?_ (fun _ => ?_)
                · simp [Ctx.turn, hvs]
                · simp [Ctx.turn, hvs]
            rcases hcase with ⟨_, hl0, rfl⟩ | ⟨a, c', rfl, hlc, hC, ha⟩
            · have hes0 : es = [] := List.eq_nil_of_length_eq_zero (by omega)
              subst hl0
              by_cases hn : news.length = 0
              · have hn0 : news = [] := List.eq_nil_of_length_eq_zero hn
                subst hn0 hes0
                refine ⟨.slice none 0 0, w, K.turn o 0 0, run_append_zero ht hi none A 0 c 0 (Nat.le_refl _), le_turn K o 0 0, hm.turn hobj te i.size _ 0 0 w (fun h => absurd rfl h) (fun h => absurd rfl h) (fun _ _ _ => rfl) hm.below (by simp) (by simp) (fun h => absurd rfl h), ?_⟩
                exact .ownNil o (ver + 1) i.size (by simpa [Ctx.turn] using ho) (by simp [Ctx.turn, hvs])
              · obtain ⟨ad, rfl, hcl⟩ := hcell hn
                have hr := run_append_nil (P := P) w t ty te i zv ht hi hz0 ad news.length c us hrow.len hcl (by omega) (by simp only [hes0, List.length_nil, Nat.zero_add] at hsm2 ⊢; omega) (by simp only [Nat.zero_add] at hsm; omega)
                have hge := grownCap_ge w news.length 0 te
                obtain ⟨K', hle, hm', hrep⟩ := newBlock [] (grownCap w news.length 0 te) (by rw [hes0]; exact Row.nil K _) (by rw [hes0]; simpa using hge) (by omega)
                refine ⟨_, _, K', hr, hle, ?_, ?_⟩
                · simpa [hes0] using hm'
                · simpa [hes0] using hrep
            · by_cases hroom : len + news.length ≤ c'
              · by_cases hc0 : c' = 0
                · have hn : news.length = 0 := by omega
                  have hn0 : news = [] := List.eq_nil_of_length_eq_zero hn
                  have hes0 : es = [] := List.eq_nil_of_length_eq_zero (by omega)
                  have hl0 : len = 0 := by omega
                  subst hn0 hes0 hl0 hc0
                  refine ⟨_, w, K.turn o 0 0, run_append_zero ht hi (some a) A 0 c 0 (Nat.le_refl _), le_turn K o 0 0, hm.turn hobj te i.size _ 0 0 w (fun h => absurd rfl h) (fun h => absurd rfl h) (fun _ _ _ => rfl) hm.below (by simp) (by simp) (fun h => absurd rfl h), ?_⟩
                  exact .own o (ver + 1) i.size 0 _ (by simpa [Ctx.turn] using ho) (by simp [Ctx.turn, hvs]) a 0 (by simp) (by simp [Ctx.turn, hvs]) (fun h => absurd rfl h)
                · have := ha hc0
                  subst this
                  have hC0 : K.C o ver ≠ 0 := by omega
                  obtain ⟨cur, hcur, hcs, hc1, hcr⟩ := hm.rowBlock hobj hC0
                  have hfit : len * i.size + us.length ≤ cur.size := by
                    rw [hrow.len, hcs, ← Nat.add_mul]
                    exact Nat.mul_le_mul_right _ (by omega)
                  have key : ∃ w', (Builtin.append_ #[t, t] ty #[.slice (some ⟨K.ρ o ver, 0 * i.size, none⟩) len c', .slice A news.length c]).run P w = .ok (.slice (some ⟨K.ρ o ver, 0, none⟩) (len + news.length) c') w' ∧ w' = w.setRow (K.ρ o ver) (cur.toList.take (len * i.size) ++ us ++ cur.toList.drop (len * i.size + us.length)).toArray := by
                    rw [Nat.zero_mul]
                    by_cases hn : news.length = 0
                    · have hn0 : news = [] := List.eq_nil_of_length_eq_zero hn
                      have hu0 : us = [] := List.eq_nil_of_length_eq_zero (by rw [hrow.len, hn]; simp)
                      subst hn0 hu0
                      refine ⟨w, by simpa using run_append_zero ht hi _ A len c c' hlc, ?_⟩
                      simp only [List.append_nil, List.length_nil, Nat.add_zero, List.take_append_drop, Array.toArray_toList]
                      rw [setRow_self w _ cur te (0, 0) hcur]
                    · obtain ⟨ad, rfl, hcl⟩ := hcell hn
                      exact ⟨_, run_append_room (P := P) w t ty te i ht hi (K.ρ o ver) len c' cur hcur ad news.length c us hrow.len hcl hrow.one hroom hfit, rfl⟩
                  obtain ⟨w', hrun, rfl⟩ := key
                  have hlo := hm.lo o _ hobj rfl hC0
                  refine ⟨_, _, K.turn o (K.ρ o ver) (K.C o ver), hrun, le_turn K o _ _, hm.turn hobj te i.size (es ++ news) (K.ρ o ver) (K.C o ver) _ (fun _ => .inl ⟨rfl, hC0, rfl⟩) (fun _ => by simpa using hlo.2.1)
                    (fun q _ hq => setRow_other w _ _ _ (hq hC0)) (hm.below.step rfl rfl rfl rfl rfl (by simp) fun b x hx => setRow_other w _ _ _ (by rintro rfl; rw [hlo.1] at hx; cases hx)) (by simp; omega) elnew (fun _ => ⟨_, setRow_heap w _ cur _ te _ hcur, ?_, ?_, ?_⟩), ?_⟩
                  · simp only [List.size_toArray, List.length_append, List.length_take, List.length_drop, Array.length_toList]
                    omega
                  · intro y hy
                    simp only [List.mem_append] at hy
                    rcases hy with (hy | hy) | hy
                    · exact hc1 y (List.mem_of_mem_take hy)
                    · exact hrow.one y hy
                    · exact hc1 y (List.mem_of_mem_drop hy)
                  · intro i' j e' x' he' hx'
                    have hj : j < i.size := by have := elnew e' (List.mem_of_getElem? he'); have := (List.getElem?_eq_some_iff.1 hx').1; omega
                    have e1 : (List.take (len * i.size) cur.toList).length = len * i.size := by simp; omega
                    rcases Nat.lt_or_ge i' es.length with hlt | hge
                    · rw [List.getElem?_append_left hlt] at he'
                      obtain ⟨u, hu, hru⟩ := hcr i' j e' x' he' hx'
                      refine ⟨u, ?_, hru⟩
                      have hik : (i' + 1) * i.size ≤ len * i.size := Nat.mul_le_mul_right _ (by omega)
                      rw [Nat.add_mul, Nat.one_mul] at hik
                      rw [List.getElem?_toArray, List.getElem?_append_left (by simp only [List.length_append, e1]; omega), List.getElem?_append_left (by rw [e1]; omega), List.getElem?_take, if_pos (by omega)]
                      simpa using hu
                    · rw [List.getElem?_append_right hge] at he'
                      obtain ⟨u, hu, hru⟩ := hrow.rep _ j e' x' he' hx'
                      refine ⟨u, ?_, hru⟩
                      have h3 : (i' - es.length) * i.size = i' * i.size - es.length * i.size := Nat.sub_mul _ _ _
                      have h4 : es.length * i.size ≤ i' * i.size := Nat.mul_le_mul_right _ hge
                      have h5 := (List.getElem?_eq_some_iff.1 hu).1
                      rw [hlen] at e1 ⊢
                      rw [List.getElem?_toArray, List.getElem?_append_left (by simp only [List.length_append, e1]; omega), List.getElem?_append_right (by rw [e1]; omega), e1, ← hu]
                      congr 1
                      omega
                  · refine .own o (ver + 1) i.size 0 _ (by simpa [Ctx.turn] using ho) (by simp [Ctx.turn, hvs]) _ c' hroom ?_ (fun _ => ?_)
                    · simp [Ctx.turn, hvs]; rw [hvs] at hC; omega
                    · simp [Ctx.turn, hvs]
              · have hn : news.length ≠ 0 := by omega
                obtain ⟨ad, rfl, hcl⟩ := hcell hn
                have olds : ∃ olds : List Value, Row K i.size es olds ∧ ∀ (j : Nat) (u : Value), olds[j]? = some u → w.cell? (a.add j) = some u := by
                  rcases Nat.eq_zero_or_pos len with h0 | h0
                  · have hes0 : es = [] := List.eq_nil_of_length_eq_zero (by omega)
                    subst hes0
                    exact ⟨[], Row.nil K _, fun j u h => by simp at h⟩
                  · have hc0 : c' ≠ 0 := by omega
                    have := ha hc0
                    subst this
                    obtain ⟨us', h1, h2⟩ := row_of_obj (off := 0) (len := es.length) hm hobj (by omega) (by omega)
                    refine ⟨us', by simpa using h1, fun j u hu => ?_⟩
                    rw [add_lit]
                    exact h2 j u hu
                obtain ⟨olds, hro', hco⟩ := olds
                have hr := run_append_grow (P := P) w t ty te i zv ht hi hz0 a len c' olds (by rw [hro'.len, hlen]) hco ad news.length c us hrow.len hcl (by omega) (by omega) (growslice_fits (by omega) (by omega))
                have hge := grownCap_ge w (len + news.length) c' te
                obtain ⟨K', hle, hm', hrep⟩ := newBlock olds (grownCap w (len + news.length) c' te) hro' (by omega) (by omega)
                refine ⟨_, _, K', hr, hle, ?_, ?_⟩
                · rw [hlen] at hm' ⊢; exact hm'
                · rw [hlen] at hrep ⊢; exact hrep
      · split at h
        · rename_i n tight f hsq
          simp only [ORes.eff.injEq] at h
          obtain ⟨hob, rfl, rfl⟩ := h
          simp only [Bool.and_eq_true] at hob
          obtain ⟨⟨htt, hnz⟩, hsm⟩ := hob
          subst htt
          simp only [smallA, hbytes, decide_eq_true_eq] at hsm
          obtain ⟨hsm, hsm2⟩ := hsm
          have hseq := seqOf_sound hs hsq
          obtain ⟨B, c', rfl, hnc, htc, hB, _⟩ := rep_seq hseq
          have hcn := htc rfl
          subst hcn
          obtain ⟨olds, hro', hco⟩ := row_of_seq hm hseq
          have hln : ((List.range c').map f).length = c' := by simp
          have elnew : ∀ e ∈ (List.range c').map f ++ news, e.length = i.size := by
            intro y hy
            rcases List.mem_append.1 hy with hy | hy
            · exact hro'.elem y hy
            · exact hrow.elem y hy
          have newBlock : ∀ (cap : Nat), c' + news.length ≤ cap → cap ≠ 0 →
              ∃ K', K.le K' ∧ MemSat K' (objs ++ [(0, .row e i.size ((List.range c').map f ++ news))]) (w.drew.alloc (.cells (olds.toArray ++ us.toArray ++ Builtin.zeroCells zv.cells (cap - (c' + news.length))) e)) ∧
                Rep K' (.own objs.length 0 i.size 0 (c' + news.length)) (.slice (some ⟨w.heap.size, 0, none⟩) (c' + news.length) cap) := by
            intro cap hcap hc0
            obtain ⟨g1, g2, g3⟩ := grow ((List.range c').map f) olds cap hro' (by simpa using hcap) _ rfl
            simp only [hln] at g1 g2 g3
            refine ⟨K.newObj w.drew.heap.size cap, le_newObj K _ _, hm.drew.addRow e i.size _ _ cap hc0 (by simpa using hcap) g1 elnew g2 g3, ?_⟩
            refine .own objs.length 0 i.size 0 _ (by simp [Ctx.newObj, hm.len]) (Nat.zero_le _) _ cap hcap ?_ (fun _ => ?_)
            · simp [Ctx.newObj, hm.len]
            · simp [Ctx.newObj, hm.len]
          by_cases hn : news.length = 0
          · have hn0 : news = [] := List.eq_nil_of_length_eq_zero hn
            subst hn0
            have hc0 : c' = 0 := by
              simp only [List.length_nil] at hnz
              cases hz : Nat.beq c' 0 with
              | true => exact Nat.eq_of_beq_eq_true hz
              | false => rw [hz] at hnz; simp at hnz
            subst hc0
            refine ⟨_, w, K.newObj 0 0, run_append_zero ht hi B A 0 c 0 (Nat.le_refl _), le_newObj K 0 0, by simpa using hm.addNone e i.size, ?_⟩
            cases B with
            | none => exact .ownNil _ _ _ (by simp [Ctx.newObj, hm.len]) (Nat.zero_le _)
            | some a => exact .own _ _ _ _ _ (by simp [Ctx.newObj, hm.len]) (Nat.zero_le _) a 0 (by simp) (by simp [Ctx.newObj, hm.len]) (fun h => absurd rfl h)
          · obtain ⟨ad, rfl, hcl⟩ := hcell hn
            cases B with
            | none =>
              have hc0 : c' = 0 := (hB rfl).1
              subst hc0
              have ho0 : olds = [] := List.eq_nil_of_length_eq_zero (by rw [hro'.len]; simp)
              subst ho0
              have hr := run_append_nil (P := P) w t ty e i zv ht hi hz0 ad news.length c us hrow.len hcl (by omega) (by omega) (by simp only [Nat.zero_add] at hsm; omega)
              have hge := grownCap_ge w news.length 0 e
              obtain ⟨K', hle, hm', hrep⟩ := newBlock (grownCap w news.length 0 e) (by omega) (by omega)
              exact ⟨_, _, K', hr, hle, by simpa using hm', by simpa using hrep⟩
            | some b =>
              have hco' : ∀ (j : Nat) (v : Value), olds[j]? = some v → w.cell? (b.add j) = some v := by
                intro j v hv
                rcases Nat.eq_zero_or_pos c' with h0 | h0
                · have ho0 : olds = [] := List.eq_nil_of_length_eq_zero (by rw [hro'.len, hln, h0]; simp)
                  subst ho0
                  simp at hv
                · obtain ⟨b', hb', hcc⟩ := hco (by omega)
                  simp only [Option.some.injEq] at hb'
                  subst hb'
                  exact hcc j v hv
              have hr := run_append_grow (P := P) w t ty e i zv ht hi hz0 b c' c' olds (by rw [hro'.len, hln]) hco' ad news.length c us hrow.len hcl (by omega) (by omega) (growslice_fits (by omega) (by omega))
              have hge := grownCap_ge w (c' + news.length) c' e
              obtain ⟨K', hle, hm', hrep⟩ := newBlock (grownCap w (c' + news.length) c' e) hge (by omega)
              exact ⟨_, _, K', hr, hle, hm', hrep⟩
        · cases h
    · cases h
  · cases h

end
end Go.Fw
