/-
  Soundness, seventh part: literals of slices, make, comparisons; then every operation.
-/
import Derived.Test.YtlgfgcadoocgoaaFwH
import Derived.Laws.Small
import Derived.Laws.Cover3
namespace Go.Fw
set_option linter.unusedSimpArgs false
set_option linter.unusedVariables false
open Go.RowKit

section
variable {K : Ctx} {P : Program} {w : World} {objs : Objs}

theorem zeros_reps {v : Value} (n : Nat) (h0 : n ≠ 0 → v.cells.size ≠ 0) : Reps K (zerosA (v.cells.toList.map .lit) n) ((Array.range n).map (v.cells[· % v.cells.size]!)).toList ∧
    ((∀ u ∈ v.cells.toList, u.oneCell' = true) → ∀ u ∈ ((Array.range n).map (v.cells[· % v.cells.size]!)).toList, u.oneCell' = true) := by
  have nz : ∀ q, q < n → v.cells.size ≠ 0 := fun q hq => h0 (by omega)
  refine ⟨⟨by simp [zerosA], fun i x u hx hu => ?_⟩, fun h1 u hu => ?_⟩
  · have hi : i < n := by have := (List.getElem?_eq_some_iff.1 hx).1; simpa [zerosA] using this
    have hz := nz i hi
    have hlt : i % v.cells.size < v.cells.size := Nat.mod_lt _ (by omega)
    simp only [zerosA, List.getElem?_map, List.getElem?_range hi, Option.map_some, Option.some.injEq, List.length_map, Array.length_toList] at hx
    simp only [Array.toList_map, Array.toList_range, List.getElem?_map, List.getElem?_range hi, Option.map_some, Option.some.injEq] at hu
    rw [getElem!_pos v.cells _ hlt] at hu
    subst hu hx
    rw [List.getD_eq_getElem?_getD, List.getElem?_map, Array.getElem?_toList, Array.getElem?_eq_getElem hlt]
    exact .lit _
  · simp only [Array.toList_map, Array.toList_range, List.mem_map, List.mem_range] at hu
    obtain ⟨q, hq, rfl⟩ := hu
    have hz := nz q hq
    rw [getElem!_pos v.cells _ (Nat.mod_lt _ (by omega))]
    exact h1 _ (by simp)

theorem buildSliceA_sound (hm : MemSat K objs w) {t : TypeId} {len : Nat} {ps : List (Nat × AVal)} {qs : List (Nat × Value)} {a : AVal} (hl : qs.length = ps.length)
    (hpq : ∀ (i : Nat) (p : Nat × AVal) (q : Nat × Value), ps[i]? = some p → qs[i]? = some q → q.1 = p.1 ∧ Rep K p.2 q.2) (h : buildSliceA P t len ps = .val a) :
    ∃ u w' K', (Instr.buildSlice t len qs.toArray).run P w = .ok u w' ∧ K.le K' ∧ MemSat K' objs w' ∧ Rep K' a u := by
  unfold buildSliceA at h
  split at h
  · rename_i e he
    have ht := elemA_some he
    split at h
    · rename_i z hz
      obtain ⟨i, v, hi, hz0, rfl, h1, hs⟩ := zeroA_some hz
      have hsize : sizeA P e = i.size := by simp [sizeA, hi]
      simp only [hsize] at h
      split at h
      · rename_i cs hf
        cases hb : Nat.ble (len * i.size) 16777216 with
        | false => rw [hb] at h; cases h
        | true =>
          rw [hb] at h
          simp only [cond_true, ORes.val.injEq] at h
          subst h
          have hle := Nat.le_of_ble_eq_true hb
          have hnz : len * i.size ≠ 0 → v.cells.size ≠ 0 := by
            intro h0 h2
            rw [hs] at h2
            rw [h2] at h0
            simp at h0
          obtain ⟨hzr, hz1⟩ := zeros_reps (K := K) (v := v) (len * i.size) hnz
          obtain ⟨us, hus, hrus, h1us⟩ := fillA_sound (K := K) _ ps qs _ _ cs hl hpq hzr (hz1 h1) hf
          have hlen : us.length = len * i.size := by
            rw [hrus.1]
            have : ∀ (place : Nat → Option (Nat × Nat)) (l : List (Nat × AVal)) (c c' : List AVal), fillA place c l = some c' → c'.length = c.length := by
              intro place l
              induction l with
              | nil => intro c c' hh; simp only [fillA, Option.some.injEq] at hh; rw [hh]
              | cons p l ih =>
                intro c c' hh
                obtain ⟨i0, x0⟩ := p
                simp only [fillA] at hh
                split at hh
                · rename_i off size cx _ _
                  cases hbb : Nat.beq cx.length size && Nat.ble (off + cx.length) c.length with
                  | false => rw [hbb] at hh; cases hh
                  | true =>
                    rw [hbb] at hh
                    simp only [cond_true] at hh
                    simp only [Bool.and_eq_true] at hbb
                    have := Nat.le_of_ble_eq_true hbb.2
                    rw [ih _ _ hh]
                    simp only [splice, List.length_append, List.length_take, List.length_drop]
                    omega
                · cases hh
            rw [this _ _ _ _ hf]
            simp [zerosA]
          refine ⟨.slice (some ⟨w.heap.size, 0, none⟩) len len, w.alloc (.cells us.toArray e), K.frozenBlock w.heap.size us, ?_, le_frozenBlock hm us, hm.newBlock us e, ?_⟩
          · simp only [Array.toArray_toList] at hus
            have n2 : ¬ (16777216 < len * i.size) := by omega
            by_cases hn : len * i.size = 0
            · have e1 : (Array.range (len * i.size)).map (v.cells[· % v.cells.size]!) = (Array.range (len * i.size)).map ((#[] : Array Value)[· % (#[] : Array Value).size]!) := by
                rw [hn]; apply Array.ext'; simp
              rw [e1] at hus
              simp [Instr.buildSlice, run_underlying ht, sizeOf, typeInfo, hi, n2, hn, newRow]
              rw [hn] at hus
              have e3 : (Array.range 0).map ((#[] : Array Value)[· % (#[] : Array Value).size]!) = #[] := by apply Array.ext'; simp
              rw [e3] at hus
              have e4 : (Array.range 0).map (fun _ => (default : Value)) = #[] := by apply Array.ext'; simp
              rw [e4, hus]
              simp
            · simp [Instr.buildSlice, run_underlying ht, sizeOf, typeInfo, hi, n2, hn, zeroValue, hz0, hus, newRow]
          · refine rep_seq_mk (Nat.le_refl _) (fun _ => rfl) (fun h => by cases h) (fun hpos => ⟨w.heap.size, 0, fun i' j => (us[i' * i.size + j]?).getD undef, rfl, fun i' hi' => ?_, fun i' j hi' hj => ?_, fun i' j x hi' hx => ?_⟩)
            · have hik : (i' + 1) * i.size ≤ len * i.size := Nat.mul_le_mul_right _ hi'
              rw [Nat.add_mul, Nat.one_mul] at hik
              have := hrus.1
              simp only [List.length_take, List.length_drop]
              omega
            · have hik : (i' + 1) * i.size ≤ len * i.size := Nat.mul_le_mul_right _ hi'
              rw [Nat.add_mul, Nat.one_mul] at hik
              simp only [Ctx.frozenBlock, if_true, Nat.zero_add]
              have hlt : i' * i.size + j < us.length := by omega
              rw [List.getElem?_eq_getElem hlt]
              simp [h1us _ (List.getElem_mem hlt)]
            · rw [List.getElem?_take] at hx
              split at hx
              · rw [List.getElem?_drop] at hx
                obtain ⟨u, hu, hru⟩ := hrus.get hx
                simp only [hu, Option.getD_some]
                exact hru.mono (le_frozenBlock hm us)
              · cases hx
      · cases h
    · cases h
  · cases h

theorem makeSliceA_sound (hm : MemSat K objs w) {t : TypeId} {l c r : AVal} {lv cv : Value} {b : Bool} {objs' : Objs} (hl : Rep K l lv) (hc : Rep K c cv) (h : makeSliceA P t l c objs = .eff b r objs') (hb : b = true) :
    ∃ u w' K', (Instr.makeSlice t lv cv).run P w = .ok u w' ∧ K.le K' ∧ MemSat K' objs' w' ∧ Rep K' r u := by
  subst hb
  unfold makeSliceA at h
  split at h
  · rename_i e n m he hn hm'
    have ht := elemA_some he
    obtain ⟨kl, rfl⟩ := intOfA_sound hl hn
    obtain ⟨kc, rfl⟩ := intOfA_sound hc hm'
    split at h
    · rename_i z hz
      obtain ⟨i, v, hi, hz0, rfl, h1, hs⟩ := zeroA_some hz
      have hsize : sizeA P e = i.size := by simp [sizeA, hi]
      have hbytes : bytesA P e = i.bytes := by simp [bytesA, hi]
      simp only [hsize, hbytes, ORes.eff.injEq, decide_eq_true_eq] at h
      obtain ⟨⟨h0, hnm, hby, hbig⟩, rfl, rfl⟩ := h
      have hrun := run_make (P := P) w t e i v ht hi hz0 kl kc n m h0 hnm (by rw [Int.mul_comm]; omega) (by omega)
      by_cases hm0 : m.toNat = 0
      · have hn0 : n.toNat = 0 := by omega
        rw [hm0, hn0] at hrun
        have hmade : madeCells v.cells (0 * i.size) = ([] : List Value).toArray := by simp [madeCells, Array.range_zero']
        rw [hmade] at hrun
        have hm1 := hm.newBlock [] e
        refine ⟨_, _, (K.frozenBlock w.heap.size []).newObj 0 0, hrun, (le_frozenBlock hm []).trans (le_newObj _ 0 0), ?_, ?_⟩
        · rw [hn0]; exact hm1.addNone e i.size
        · rw [hn0]
          refine .own _ _ _ _ _ ?_ (Nat.zero_le _) _ 0 (Nat.le_refl _) ?_ (fun h => absurd rfl h)
          · simp [Ctx.newObj, Ctx.frozenBlock, hm.len]
          · simp [Ctx.newObj, Ctx.frozenBlock, hm.len]
      · refine ⟨_, _, K.newObj w.heap.size m.toNat, hrun, le_newObj K _ _, hm.addRow e i.size _ _ m.toNat hm0 (by simp; omega) (by simp [size_madeCells]) (fun y hy => ?_) (fun u hu => ?_) (fun i' j e' x he' hx => ?_), ?_⟩
        · rw [(List.mem_replicate.1 hy).2]; simp [hs]
        · simp only [madeCells, Array.toList_map, Array.toList_range, List.mem_map, List.mem_range] at hu
          obtain ⟨q, hq, rfl⟩ := hu
          rcases Nat.eq_zero_or_pos v.cells.size with hz | hz
          · rw [← hs, hz] at hq; simp at hq
          · rw [getElem!_pos v.cells _ (Nat.mod_lt _ hz)]
            exact h1 _ (by simp)
        · have hi' : i' < n.toNat := by have := (List.getElem?_eq_some_iff.1 he').1; simpa using this
          rw [List.getElem?_replicate, if_pos hi', Option.some.injEq] at he'
          subst he'
          have hj : j < i.size := by have := (List.getElem?_eq_some_iff.1 hx).1; simp at this; omega
          have hik : (i' + 1) * i.size ≤ m.toNat * i.size := Nat.mul_le_mul_right _ (by omega)
          rw [Nat.add_mul, Nat.one_mul] at hik
          rw [List.getElem?_map] at hx
          cases hv : v.cells.toList[j]? with
          | none => simp [hv] at hx
          | some y =>
            simp only [hv, Option.map_some, Option.some.injEq] at hx
            subst hx
            refine ⟨y, ?_, .lit y⟩
            simp only [madeCells, Array.getElem?_map]
            rw [Array.getElem?_range]
            rw [if_pos (by omega)]
            simp only [Option.map_some, Option.some.injEq]
            have e2 : (i' * i.size + j) % v.cells.size = j := by rw [hs, Nat.mul_comm, Nat.mul_add_mod, Nat.mod_eq_of_lt hj]
            rw [e2, getElem!_pos v.cells j (by omega)]
            rw [Array.getElem?_toList, Array.getElem?_eq_getElem (by omega), Option.some.injEq] at hv
            exact hv
        · refine .own _ _ _ _ _ (by simp [Ctx.newObj, hm.len]) (Nat.zero_le _) _ m.toNat (by omega) ?_ (fun _ => ?_)
          · simp [Ctx.newObj, hm.len]
          · simp [Ctx.newObj, hm.len]
    · cases h
  · cases h

theorem eqT_sound : ∀ (d : Nat) (t : TypeId) (x y : AVal) (u v : Value) (b : Bool), eqT P d t x y = some b → stoodFree P d t = true → Rep K x u → Rep K y v → ∀ D, d ≤ D → (Op.equalIn D t u v).run P w = .ok b w
  | 0, t, x, y, u, v, b, h, _, _, _, _, _ => by simp [eqT] at h
  | d + 1, t, x, y, u, v, b, h, hfree, hu, hv, D, hD => by
    obtain ⟨D, rfl⟩ : ∃ D', D = D' + 1 := ⟨D - 1, by omega⟩
    unfold eqT at h
    split at h
    · rename_i hun
      simp only [Option.some.injEq] at h
      have e1 := rep_lit hu
      have e2 := rep_lit hv
      subst e1 e2 h
      exact run_equalIn_bool' w D t _ _ hun
    · rename_i k' k a k2 b' hun
      cases hk : decide (k = k2) with
      | false => rw [hk] at h; cases h
      | true =>
        rw [hk] at h
        simp only [cond_true, Option.some.injEq] at h
        have hk := of_decide_eq_true hk
        have e1 := rep_lit hu
        have e2 := rep_lit hv
        subst e1 e2 h hk
        exact run_equalIn_int w D t _ _ _ _ hun
    · rename_i hun
      simp only [Option.some.injEq] at h
      have e1 := rep_lit hu
      have e2 := rep_lit hv
      subst e1 e2 h
      simp [Op.equalIn, run_underlying hun]
    · rename_i fs xs ys hun
      unfold stoodFree at hfree
      rw [hun] at hfree
      simp only [Bool.and_eq_true, Bool.not_eq_true', List.all_eq_true] at hfree
      obtain ⟨hst, hall⟩ := hfree
      · skip
        obtain ⟨us, rfl, hru, h1u⟩ := rep_agg hu
        obtain ⟨vs, rfl, hrv, h1v⟩ := rep_agg hv
        have hfo : P.fieldsOf t = fs := by simp [Program.fieldsOf, hun]
        rw [run_equalIn_struct w D t us.toArray vs.toArray (by rw [hfo]; exact hun) hst, hfo]
        have key : ∀ (l : List Field) (b : Bool), (∀ f ∈ l, stoodFree P d f.type = true) → eqFs P (eqT P d) xs ys l = some b → (Op.eqFields D us.toArray vs.toArray l).run P w = .ok b w := by
          intro l
          induction l with
          | nil => intro b _ hb; simp only [eqFs, Option.some.injEq] at hb; subst hb; simp [Op.eqFields]
          | cons f l ih =>
            intro b hal hb
            have hf := hal f (List.mem_cons_self ..)
            rw [eqFs] at hb
            cases hnm : f.name == "_" with
            | true => rw [hnm] at hb; cases hb
            | false =>
              rw [hnm] at hb
              simp only [cond_false] at hb
              have hne : f.name ≠ "_" := by simpa using hnm
              split at hb
              · rename_i a b1 ha hb1
                obtain ⟨ua, hua, hra⟩ := partA_sound (w := w) ha hru h1u
                obtain ⟨va, hva, hrb⟩ := partA_sound (w := w) hb1 hrv h1v
                split at hb
                · rename_i p hp
                  simp only [Option.some.injEq] at hb
                  subst hb
                  have := eqT_sound d f.type a b1 ua va p hp hf hra hrb D (by omega)
                  simp only [Op.eqFields, hne, ne_eq, not_false_eq_true, if_true, Sem.run_bind, hua, Result.andThen_ok, hva, this]
                  cases p <;> simp
                · rename_i p g gs hp
                  have := eqT_sound d f.type a b1 ua va p hp hf hra hrb D (by omega)
                  cases hq : eqFs P (eqT P d) xs ys (g :: gs) with
                  | none => rw [hq] at hb; cases hb
                  | some q =>
                    rw [hq] at hb
                    simp only [Option.some.injEq] at hb
                    subst hb
                    have h2 := ih q (fun g hg => hal g (List.mem_cons_of_mem _ hg)) hq
                    rw [show Op.eqFields D us.toArray vs.toArray (f :: g :: gs) = (if f.name ≠ "_" then do
                        let a ← part f.type us.toArray f.offset
                        let b ← part f.type vs.toArray f.offset
                        let r ← Op.equalIn D f.type a b
                        if (!r) = true then pure false else Op.eqFields D us.toArray vs.toArray (g :: gs)
                      else Op.eqFields D us.toArray vs.toArray (g :: gs)) from rfl]
                    simp only [hne, ne_eq, not_false_eq_true, if_true, Sem.run_bind, hua, Result.andThen_ok, hva, this]
                    cases p
                    · simp
                    · simpa using h2
                · cases hb
              · cases hb
        exact key fs.toList b hall h
    · cases h

/-- What a computation of a value comes to. -/
def DoesV (P : Program) (s : Sem Value) (w : World) (K : Ctx) (objs : Objs) (v : AVal) : Prop :=
  ∃ u w' K', s.run P w = .ok u w' ∧ Ctx.le K K' ∧ MemSat K' objs w' ∧ Rep K' v u

def OSoundV (P : Program) (s : Sem Value) (w : World) (K : Ctx) (objs : Objs) : ORes → Prop
  | .bad => True
  | .val v => DoesV P s w K objs v
  | .ifb b v => b = true → DoesV P s w K objs v
  | .eff b v objs' => b = true → DoesV P s w K objs' v
  | .upd v objs' => DoesV P s w K objs' v
  | .call _ _ => False

theorem DoesV.same {s : Sem Value} {v : AVal} (hm : MemSat K objs w) (h : ∃ u, s.run P w = .ok u w ∧ Rep K v u) : DoesV P s w K objs v := by
  obtain ⟨u, h, hr⟩ := h
  exact ⟨u, w, K, h, .refl K, hm, hr⟩

theorem binA_sound (hm : MemSat K objs w) {op : BinOp} {t : TypeId} {ox oy : Operand} {x y : AVal} {u v : Value} (hx : Rep K x u) (hy : Rep K y v) :
    OSoundV P (do eqGuard op t ox oy u v; binOp op t u v) w K objs (binA P op t ox oy x y) := by
  unfold binA
  split
  · rename_i a b
    have e1 := rep_lit hx
    have e2 := rep_lit hy
    subst e1 e2
    split
    · rename_i z hz
      exact .same hm ⟨_, pureRun_sound _ _ hz w, .lit _⟩
    · trivial
  · rename_i xs ys
    · have hx' := hx
      have hy' := hy
      obtain ⟨us, rfl, hru, h1u⟩ := rep_agg hx
      obtain ⟨vs, rfl, hrv, h1v⟩ := rep_agg hy
      have hguard := fun op hg => run_eqGuard_agg (P := P) w op t ox oy us.toArray vs.toArray hg
      split
      · rename_i b hb
        intro hok
        simp only [eqOK, Bool.and_eq_true, Bool.not_eq_true'] at hok
        have hguard := fun op => hguard op hok.1
        have := eqT_sound (w := w) 8 t _ _ _ _ b hb hok.2 hx' hy' 10000 (by omega)
        exact .same hm ⟨.bool b, by simp only [Sem.run_bind, hguard, Result.andThen_ok, run_eql_struct, this], .lit _⟩
      · rename_i b hb
        intro hok
        simp only [eqOK, Bool.and_eq_true, Bool.not_eq_true'] at hok
        have hguard := fun op => hguard op hok.1
        have := eqT_sound (w := w) 8 t _ _ _ _ b hb hok.2 hx' hy' 10000 (by omega)
        exact .same hm ⟨.bool !b, by simp only [Sem.run_bind, hguard, Result.andThen_ok, run_neq_struct, this], .lit _⟩
      · trivial
  · rename_i k n tt f
    have e2 := rep_lit hy
    subst e2
    obtain ⟨A, c, rfl, hc, _, hA, _⟩ := rep_seq hx
    split
    · rename_i e hu
      intro hn
      have hn := of_decide_eq_true hn
      cases A with
      | none => exact absurd (hA rfl).1 hn
      | some a => exact .same hm ⟨.bool false, by simp [eqGuard, binOp, run_equal_slice_nil _ t e (some a) n c hu], .lit _⟩
    · rename_i e hu
      intro hn
      have hn := of_decide_eq_true hn
      cases A with
      | none => exact absurd (hA rfl).1 hn
      | some a => exact .same hm ⟨.bool true, by simp [eqGuard, binOp, run_equal_slice_nil _ t e (some a) n c hu], .lit _⟩
    · trivial
  · trivial

theorem reps_map {look : Operand → AVal} {ρ : Operand → Value} (hl : ∀ x, Rep K (look x) (ρ x)) (xs : List Operand) : Reps K (xs.map look) (xs.map ρ) := by
  refine ⟨by simp, fun i x v hx hv => ?_⟩
  rw [List.getElem?_map] at hx hv
  cases h : xs[i]? with
  | none => simp [h] at hx
  | some y =>
    simp only [h, Option.map_some, Option.some.injEq] at hx hv
    subst hx hv
    exact hl y

theorem repO_map {look : Operand → AVal} {ρ : Operand → Value} (hl : ∀ x, Rep K (look x) (ρ x)) (o : Option Operand) : RepO K (o.map look) (o.map ρ) := by
  cases o with
  | none => trivial
  | some x => exact hl x

/-- What an operation may come to, by its abstract answer. -/
def OSound (P : Program) (s : Sem Next) (w : World) (K : Ctx) (objs : Objs) : ORes → Prop
  | .bad => True
  | .val v => Does P s w K objs v
  | .ifb b v => b = true → Does P s w K objs v
  | .eff b v objs' => b = true → Does P s w K objs' v
  | .upd v objs' => Does P s w K objs' v
  | .call f args => ∃ vs : List Value, s.run P w = .ok (.enter f vs.toArray) w ∧ Reps K args vs

theorem OSound.ofV {s : Sem Value} {r : ORes} (h : OSoundV P s w K objs r) : OSound P (do pure (.value (← s))) w K objs r := by
  have key : ∀ (objs' : Objs) (v : AVal), DoesV P s w K objs' v → Does P (do pure (.value (← s))) w K objs' v := by
    rintro objs' v ⟨u, w', K', hrun, hle, hm, hr⟩
    exact ⟨u, w', K', .inl (by simp [hrun]), hle, hm, hr⟩
  cases r with
  | bad => trivial
  | val v => exact key _ _ h
  | ifb b v => exact fun hb => key _ _ (h hb)
  | eff b v objs' => exact fun hb => key _ _ (h hb)
  | upd v objs' => exact key _ _ h
  | call f args => exact h.elim

theorem Does.pure (hm : MemSat K objs w) {v : AVal} {u : Value} (hr : Rep K v u) : Does P (Pure.pure (.value u)) w K objs v := .same hm (by simp) hr

theorem pureA_sound (hm : MemSat K objs w) (s : Sem Value) : OSoundV P s w K objs (pureA P s) := by
  unfold pureA
  split
  · rename_i v hv; exact .same hm ⟨v, pureRun_sound s v hv w, .lit v⟩
  · trivial

theorem evalOp_sound (hm : MemSat K objs w) {look : Operand → AVal} {ρ : Operand → Value} (hl : ∀ x, Rep K (look x) (ρ x)) (o : Oper) :
    OSound P (execOp ρ o) w K objs (evalOp P look objs o) := by
  obtain ⟨dst, op, type, pos, after, guard⟩ := o
  have pairs : ∀ ps : Array (Nat × Operand), (ps.map fun (i, x) => (i, ρ x)).toList.length = (ps.toList.map fun p => (p.1, look p.2)).length ∧
      ∀ (i : Nat) (p : Nat × AVal) (q : Nat × Value), (ps.toList.map fun p => (p.1, look p.2))[i]? = some p → (ps.map fun (i, x) => (i, ρ x)).toList[i]? = some q → q.1 = p.1 ∧ Rep K p.2 q.2 := by
    intro ps
    refine ⟨by simp, fun i p q hp hq => ?_⟩
    simp only [Array.toList_map, List.getElem?_map, Array.getElem?_toList] at hp hq
    cases h : ps[i]? with
    | none => simp [h] at hp
    | some y =>
      simp only [h, Option.map_some, Option.some.injEq] at hp hq
      subst hp hq
      exact ⟨rfl, hl y.2⟩
  cases op <;> simp only [evalOp] <;> (try trivial)
  case move x => exact .pure hm (hl x)
  case assign x => exact .pure hm (hl x)
  case alloc t =>
    split
    · rename_i z hz
      obtain ⟨u, w', K', h1, h2, h3, h4⟩ := alloc_sound (P := P) hm hz
      exact ⟨u, w', K', .inl (by simp [execOp, h1]), h2, h3, h4⟩
    · trivial
  case box t x =>
    split
    · rename_i cs hc
      obtain ⟨u, w', K', h1, h2, h3, h4⟩ := box_sound (P := P) (t := t) hm (hl x) hc
      exact ⟨u, w', K', .inl (by simp [execOp, h1]), h2, h3, h4⟩
    · trivial
  case build t ps =>
    cases hk : knownT P t with
    | false => trivial
    | true =>
      simp only [Bool.not_true, cond_false]
      cases hb : buildA P t (ps.toList.map fun p => (p.1, look p.2)) with
      | val a =>
        obtain ⟨u, hu, hr⟩ := buildA_sound (w := w) (K := K) (pairs ps).1 (pairs ps).2 hb
          (fun fs hf => by simp only [knownT, hf, List.all_eq_true] at hk; exact hk) (fun n e he => by simp only [knownT, he] at hk; exact hk)
        simp only [Array.toArray_toList] at hu
        exact .same hm (by simp only [execOp, Sem.run_bind, hu, Result.andThen_ok, Sem.run_pure]) hr
      | bad => trivial
      | ifb b v => unfold buildA at hb; split at hb <;> (try split at hb) <;> cases hb
      | eff b v o => unfold buildA at hb; split at hb <;> (try split at hb) <;> cases hb
      | call f a => unfold buildA at hb; split at hb <;> (try split at hb) <;> cases hb
      | upd v o => unfold buildA at hb; split at hb <;> (try split at hb) <;> cases hb
  case buildSlice t n ps =>
    cases hb : buildSliceA P t n (ps.toList.map fun p => (p.1, look p.2)) with
    | val a =>
      obtain ⟨u, w', K', h1, h2, h3, h4⟩ := buildSliceA_sound (P := P) hm (pairs ps).1 (pairs ps).2 hb
      simp only [Array.toArray_toList] at h1
      exact ⟨u, w', K', .inl (by simp only [execOp, Sem.run_bind, h1, Result.andThen_ok, Sem.run_pure]), h2, h3, h4⟩
    | bad => trivial
    | ifb b v => exact absurd hb (by intro hh; unfold buildSliceA at hh; (try simp only [cond_eq_ite] at hh); (repeat' split at hh) <;> cases hh)
    | eff b v o => exact absurd hb (by intro hh; unfold buildSliceA at hh; (try simp only [cond_eq_ite] at hh); (repeat' split at hh) <;> cases hh)
    | call f a => exact absurd hb (by intro hh; unfold buildSliceA at hh; (try simp only [cond_eq_ite] at hh); (repeat' split at hh) <;> cases hh)
    | upd v o => exact absurd hb (by intro hh; unfold buildSliceA at hh; (try simp only [cond_eq_ite] at hh); (repeat' split at hh) <;> cases hh)
  case load t a =>
    cases h : loadA P t (look a) objs with
    | val v =>
      obtain ⟨u, hu, hr⟩ := loadA_sound hm (hl a) h
      exact .same hm (by simp only [execOp, Sem.run_bind, hu, Result.andThen_ok, Sem.run_pure]) hr
    | bad => trivial
    | ifb b v => exact absurd h (by intro hh; unfold loadA at hh; (try simp only [cond_eq_ite] at hh); (repeat' split at hh) <;> cases hh)
    | eff b v o => exact absurd h (by intro hh; unfold loadA at hh; (try simp only [cond_eq_ite] at hh); (repeat' split at hh) <;> cases hh)
    | call f b => exact absurd h (by intro hh; unfold loadA at hh; (try simp only [cond_eq_ite] at hh); (repeat' split at hh) <;> cases hh)
    | upd v o => exact absurd h (by intro hh; unfold loadA at hh; (try simp only [cond_eq_ite] at hh); (repeat' split at hh) <;> cases hh)
  case store t a x =>
    cases hk : (P.info? t).isSome with
    | false => trivial
    | true =>
      simp only [Bool.not_true, cond_false]
      cases h : storeA P t (look a) (look x) objs with
      | upd v o =>
        obtain ⟨w', hw, hm', rfl⟩ := storeA_sound hm (hl a) (hl x) hk h
        exact ⟨undef, w', K, .inr ⟨by simp only [execOp, Sem.run_bind, hw, Result.andThen_ok, Sem.run_pure], rfl⟩, .refl K, hm', .lit _⟩
      | bad => trivial
      | val v => exact absurd h (by intro hh; unfold storeA at hh; (try simp only [cond_eq_ite] at hh); (repeat' split at hh) <;> cases hh)
      | ifb b v => exact absurd h (by intro hh; unfold storeA at hh; (try simp only [cond_eq_ite] at hh); (repeat' split at hh) <;> cases hh)
      | call f b => exact absurd h (by intro hh; unfold storeA at hh; (try simp only [cond_eq_ite] at hh); (repeat' split at hh) <;> cases hh)
      | eff b v o => exact absurd h (by intro hh; unfold storeA at hh; (try simp only [cond_eq_ite] at hh); (repeat' split at hh) <;> cases hh)
  case nilCheck x =>
    split
    · rename_i o v k i j hx
      have hr := hl x
      rw [hx] at hr
      obtain ⟨e, _, _⟩ := rep_ptr hr
      exact .same hm (u := ρ x) (by simp [execOp, e]) hr
    · rename_i cs hx
      have hr := hl x
      rw [hx] at hr
      obtain ⟨b, off, u, e, _, _⟩ := rep_ref hr
      exact .same hm (u := ρ x) (by simp [execOp, e]) hr
    · rename_i f a b hx
      split
      · rename_i g
        have hr := hl x
        rw [hx] at hr
        obtain ⟨vs, us, e, _, _⟩ := rep_fn hr
        exact .same hm (u := ρ x) (by simp [execOp, e]) hr
      · trivial
    · trivial
  case binOp op t x y yt => exact OSound.ofV (binA_sound hm (hl x) (hl y))
  case unOp op t x =>
    split
    · rename_i v hv
      have e := rep_lit (hv ▸ hl x)
      show OSound P (do pure (.value (← Op.unary op (ρ x)))) w K objs _
      rw [e]
      exact OSound.ofV (pureA_sound hm _)
    · trivial
  case convert src dst x =>
    split
    · rename_i v hv
      have e := rep_lit (hv ▸ hl x)
      show OSound P (do pure (.value (← convert src dst (ρ x)))) w K objs _
      rw [e]
      exact OSound.ofV (pureA_sound hm _)
    · trivial
  case makeFunc f a b =>
    refine .same hm (u := .func f (a.toList.map ρ).toArray (b.toList.map ρ).toArray) ?_ (.fn f _ _ _ _ (reps_map hl _).1 (reps_map hl _).1 (reps_map hl _).2 (reps_map hl _).2)
    simp only [execOp, Instr.makeFunc, Sem.run_bind, Sem.run_pure, Result.andThen_ok, ← Array.toList_map, Array.toArray_toList]
  case makeSlice t l c =>
    cases h : makeSliceA P t (look l) (look c) objs with
    | eff b v o =>
      intro hb
      obtain ⟨u, w', K', h1, h2, h3, h4⟩ := makeSliceA_sound (P := P) hm (hl l) (hl c) h hb
      exact ⟨u, w', K', .inl (by simp only [execOp, Sem.run_bind, h1, Result.andThen_ok, Sem.run_pure]), h2, h3, h4⟩
    | bad => trivial
    | val v => exact absurd h (by intro hh; unfold makeSliceA at hh; (try simp only [cond_eq_ite] at hh); (repeat' split at hh) <;> cases hh)
    | ifb b v => exact absurd h (by intro hh; unfold makeSliceA at hh; (try simp only [cond_eq_ite] at hh); (repeat' split at hh) <;> cases hh)
    | call f b => exact absurd h (by intro hh; unfold makeSliceA at hh; (try simp only [cond_eq_ite] at hh); (repeat' split at hh) <;> cases hh)
    | upd v o => exact absurd h (by intro hh; unfold makeSliceA at hh; (try simp only [cond_eq_ite] at hh); (repeat' split at hh) <;> cases hh)
  case slice t x lo hi mx =>
    cases hk : (!knownT P t || (mx.isSome && !hi.isSome)) with
    | true => trivial
    | false =>
      simp only [cond_false]
      simp only [Bool.or_eq_false_iff, Bool.not_eq_false', Bool.and_eq_false_imp] at hk
      cases h : sliceA P t (look x) (lo.map look) (hi.map look) (mx.map look) with
      | ifb b v =>
        intro hb
        obtain ⟨u, hu, hr⟩ := sliceA_sound (w := w) (hl x) (repO_map hl lo) (repO_map hl hi) (repO_map hl mx) h hb (fun hs => by simpa using hk.2 (by simpa using hs)) (fun e he => by simp only [knownT, he] at hk; exact hk.1)
        exact .same hm (by simp only [execOp, Sem.run_bind, hu, Result.andThen_ok, Sem.run_pure]) hr
      | bad => trivial
      | val v => exact absurd h (by intro hh; unfold sliceA at hh; (try simp only [cond_eq_ite] at hh); (repeat' split at hh) <;> cases hh)
      | eff b v o => exact absurd h (by intro hh; unfold sliceA at hh; (try simp only [cond_eq_ite] at hh); (repeat' split at hh) <;> cases hh)
      | call f b => exact absurd h (by intro hh; unfold sliceA at hh; (try simp only [cond_eq_ite] at hh); (repeat' split at hh) <;> cases hh)
      | upd v o => exact absurd h (by intro hh; unfold sliceA at hh; (try simp only [cond_eq_ite] at hh); (repeat' split at hh) <;> cases hh)
  case fieldAddr t x f =>
    cases h : fieldAddrA P t (look x) f with
    | val v =>
      obtain ⟨u, hu, hr⟩ := fieldAddrA_sound (w := w) (hl x) h
      exact .same hm (by simp only [execOp, Sem.run_bind, hu, Result.andThen_ok, Sem.run_pure]) hr
    | bad => trivial
    | ifb b v => exact absurd h (by intro hh; unfold fieldAddrA at hh; (try simp only [cond_eq_ite] at hh); (repeat' split at hh) <;> cases hh)
    | eff b v o => exact absurd h (by intro hh; unfold fieldAddrA at hh; (try simp only [cond_eq_ite] at hh); (repeat' split at hh) <;> cases hh)
    | call f b => exact absurd h (by intro hh; unfold fieldAddrA at hh; (try simp only [cond_eq_ite] at hh); (repeat' split at hh) <;> cases hh)
    | upd v o => exact absurd h (by intro hh; unfold fieldAddrA at hh; (try simp only [cond_eq_ite] at hh); (repeat' split at hh) <;> cases hh)
  case field t x f =>
    split
    · rename_i fd cs hf hx
      split
      · rename_i v hv
        have hr := hl x
        rw [hx] at hr
        obtain ⟨u, hu, hru⟩ := field_sound (w := w) hr hf hv
        exact .same hm (by simp only [execOp, Sem.run_bind, hu, Result.andThen_ok, Sem.run_pure]) hru
      · trivial
    · trivial
  case indexAddr t x i =>
    cases hk : knownT P t with
    | false => trivial
    | true =>
      simp only [Bool.not_true, cond_false]
      cases h : indexAddrA P t (look x) (look i) with
      | ifb b v =>
        intro hb
        obtain ⟨u, hu, hr⟩ := indexAddrA_sound (w := w) (hl x) (hl i) h hb (fun e he => by simp only [knownT, he] at hk; exact hk) (fun n e he => by simp only [knownT, he] at hk; exact hk)
        exact .same hm (by simp only [execOp, Sem.run_bind, hu, Result.andThen_ok, Sem.run_pure]) hr
      | bad => trivial
      | val v => exact absurd h (by intro hh; unfold indexAddrA at hh; (try simp only [cond_eq_ite] at hh); (repeat' split at hh) <;> cases hh)
      | eff b v o => exact absurd h (by intro hh; unfold indexAddrA at hh; (try simp only [cond_eq_ite] at hh); (repeat' split at hh) <;> cases hh)
      | call f b => exact absurd h (by intro hh; unfold indexAddrA at hh; (try simp only [cond_eq_ite] at hh); (repeat' split at hh) <;> cases hh)
      | upd v o => exact absurd h (by intro hh; unfold indexAddrA at hh; (try simp only [cond_eq_ite] at hh); (repeat' split at hh) <;> cases hh)
  case extract x i =>
    split
    · rename_i cs hx
      split
      · rename_i v hv
        have hr := hl x
        rw [hx] at hr
        obtain ⟨vs, e, hr⟩ := rep_tup hr
        obtain ⟨u, hu, hru⟩ := hr.get hv
        exact .same hm (u := u) (by simp [execOp, Instr.extract, e, hu]) hru
      · trivial
    · trivial
  case call c =>
    obtain ⟨callee, args, argTypes⟩ := c
    simp only
    split
    · split
      · rename_i x t ha ht
        have ea : args = #[x] := by rw [← Array.toArray_toList (xs := args), ha]
        have et : argTypes = #[t] := by rw [← Array.toArray_toList (xs := argTypes), ht]
        subst ea et
        cases h : lenA P t (look x) with
        | val v =>
          obtain ⟨u, hu, hr⟩ := lenA_sound (P := P) (w := w) (ty := type) (hl x) h
          exact .same hm (by simp [execOp, resolve, invoke, builtin, hu]) hr
        | bad => trivial
        | ifb b v => exact absurd h (by intro hh; unfold lenA at hh; (try simp only [cond_eq_ite] at hh); (repeat' split at hh) <;> cases hh)
        | eff b v o => exact absurd h (by intro hh; unfold lenA at hh; (try simp only [cond_eq_ite] at hh); (repeat' split at hh) <;> cases hh)
        | call f b => exact absurd h (by intro hh; unfold lenA at hh; (try simp only [cond_eq_ite] at hh); (repeat' split at hh) <;> cases hh)
        | upd v o => exact absurd h (by intro hh; unfold lenA at hh; (try simp only [cond_eq_ite] at hh); (repeat' split at hh) <;> cases hh)
      · trivial
    · split
      · rename_i x y t u ha ht
        have ea : args = #[x, y] := by rw [← Array.toArray_toList (xs := args), ha]
        have et : argTypes = #[t, u] := by rw [← Array.toArray_toList (xs := argTypes), ht]
        subst ea et
        cases htu : Nat.beq t u with
        | false => trivial
        | true =>
          have htu := Nat.eq_of_beq_eq_true htu
          subst htu
          simp only [cond_true]
          cases h : appendA P t (look x) (look y) objs with
          | eff b v o =>
            intro hb
            obtain ⟨u, w', K', h1, h2, h3, h4⟩ := appendA_sound (P := P) (ty := type) hm (hl x) (hl y) h hb
            exact ⟨u, w', K', .inl (by simp [execOp, resolve, invoke, builtin, h1]), h2, h3, h4⟩
          | bad => trivial
          | val v => exact absurd h (by intro hh; unfold appendA at hh; (try simp only [cond_eq_ite] at hh); (repeat' split at hh) <;> cases hh)
          | ifb b v => exact absurd h (by intro hh; unfold appendA at hh; (try simp only [cond_eq_ite] at hh); (repeat' split at hh) <;> cases hh)
          | call f b => exact absurd h (by intro hh; unfold appendA at hh; (try simp only [cond_eq_ite] at hh); (repeat' split at hh) <;> cases hh)
          | upd v o => exact absurd h (by intro hh; unfold appendA at hh; (try simp only [cond_eq_ite] at hh); (repeat' split at hh) <;> cases hh)
      · trivial
    · unfold minmaxA
      split
      · rename_i k a k' b hab
        cases ha : args.toList with
        | nil => simp [ha] at hab
        | cons x l =>
          cases l with
          | nil => simp [ha] at hab
          | cons y l =>
            cases l with
            | cons z l => simp [ha] at hab
            | nil =>
              have ea : args = #[x, y] := by rw [← Array.toArray_toList (xs := args), ha]
              subst ea
              simp only [List.map_cons, List.map_nil, List.cons.injEq, and_true] at hab
              have e1 := rep_lit (hab.1 ▸ hl x)
              have e2 := rep_lit (hab.2 ▸ hl y)
              have e3 : (if b < a then b else a) = min a b := by omega
              exact .same hm (u := .int k (min a b)) (by simp [execOp, resolve, invoke, builtin, e1, e2, run_min_int2, e3]) (.lit _)
      · trivial
    · unfold minmaxA
      split
      · rename_i k a k' b hab
        cases ha : args.toList with
        | nil => simp [ha] at hab
        | cons x l =>
          cases l with
          | nil => simp [ha] at hab
          | cons y l =>
            cases l with
            | cons z l => simp [ha] at hab
            | nil =>
              have ea : args = #[x, y] := by rw [← Array.toArray_toList (xs := args), ha]
              subst ea
              simp only [List.map_cons, List.map_nil, List.cons.injEq, and_true] at hab
              have e1 := rep_lit (hab.1 ▸ hl x)
              have e2 := rep_lit (hab.2 ▸ hl y)
              have e3 : (if a < b then b else a) = max a b := by omega
              exact .same hm (u := .int k (max a b)) (by simp [execOp, resolve, invoke, builtin, e1, e2, run_max_int2, e3]) (.lit _)
      · trivial
    · rename_i f
      unfold callA
      split
      · rename_i g first captured hf
        split
        · rename_i fn hfn
          cases hb : (fn.body.isSome && !(fn.name == "runtime.NumGoroutine")) with
          | false => trivial
          | true =>
            simp only [Bool.and_eq_true, Bool.not_eq_true'] at hb
            obtain ⟨hbody, hname⟩ := hb
            have hr := hl f
            rw [hf] at hr
            obtain ⟨vs, us, e, h1, h2⟩ := rep_fn hr
            refine ⟨vs ++ args.toList.map ρ ++ us, ?_, (h1.append (reps_map hl _)).append h2⟩
            have hnone : fn.body.isNone = false := by cases hbb : fn.body <;> simp [hbb] at hbody ⊢
            simp only [execOp, resolve, Sem.run_bind, e, Deferred.ofValue, Sem.run_pure, Result.andThen_ok, invoke, callFunc, run_program, hfn, hname, Bool.false_eq_true, if_false, hnone]
            congr 2
            apply Array.ext'
            simp
        · trivial
      · trivial
    · trivial

end
end Go.Fw
