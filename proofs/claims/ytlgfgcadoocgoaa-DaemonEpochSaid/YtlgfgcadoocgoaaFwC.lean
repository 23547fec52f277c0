/-
  Soundness, first part: memory. A computation without memory; new blocks; stores; kept values.
-/
import Derived.Test.YtlgfgcadoocgoaaFwB
import Derived.Laws.Cells
import Derived.Laws.Entries
import Derived.Laws.NewBlocks
namespace Go.Fw
set_option linter.unusedSimpArgs false
set_option linter.unusedVariables false
open Go.RowKit

theorem pureRun_sound {α : Type} {P : Program} : ∀ (s : Sem α) (v : α), pureRun P s = some v → ∀ w, s.run P w = .ok v w
  | .pure a, v, h, w => by simp only [pureRun, Option.some.injEq] at h; subst h; rfl
  | .program k, v, h, w => by simp only [pureRun] at h; exact pureRun_sound (k P) v h w
  | .mark m k, v, h, w => by simp only [pureRun] at h; exact pureRun_sound k v h w
  | .load .., _, h, _ => by simp [pureRun] at h
  | .store .., _, h, _ => by simp [pureRun] at h
  | .new .., _, h, _ => by simp [pureRun] at h
  | .shape .., _, h, _ => by simp [pureRun] at h
  | .freeze .., _, h, _ => by simp [pureRun] at h
  | .frozen .., _, h, _ => by simp [pureRun] at h
  | .getObj .., _, h, _ => by simp [pureRun] at h
  | .setObj .., _, h, _ => by simp [pureRun] at h
  | .choose .., _, h, _ => by simp [pureRun] at h
  | .sys .., _, h, _ => by simp [pureRun] at h
  | .halt .., _, h, _ => by simp [pureRun] at h

section
variable {K : Ctx} {objs : Objs} {w : World}

theorem MemSat.M_lt (h : MemSat K objs w) {b i : Nat} {u : Value} (hu : K.M b i = some u) : b < w.heap.size := by
  have := (h.mem b i u hu).1
  rcases Nat.lt_or_ge b w.heap.size with hlt | hge
  · exact hlt
  · simp [World.cell?, Array.getElem?_eq_none hge] at this

/-- An object in a world that has the same block, and a grown context. -/
theorem ObjSat.mono {L : Ctx} {w' : World} {o ver : Nat} {p : AObj} (hKL : K.le L) (ho : o < K.n) (hv : ver ≤ K.vs o) (h : ObjSat K w o ver p)
    (hb : p.live = true → K.C o ver ≠ 0 → w'.heap[K.ρ o ver]? = w.heap[K.ρ o ver]?) : ObjSat L w' o ver p := by
  cases p with
  | dead => trivial
  | row t k es =>
    obtain ⟨h1, h2, h3⟩ := h
    refine ⟨h1, by rw [hKL.C o ver ho hv]; exact h2, fun hC => ?_⟩
    rw [hKL.C o ver ho hv] at hC ⊢
    rw [hKL.ρ o ver ho hv]
    obtain ⟨c, hc, hs, h1c, hr⟩ := h3 hC
    exact ⟨c, (hb rfl hC).trans hc, hs, h1c, fun i j e x he hx => by obtain ⟨u, hu, hru⟩ := hr i j e x he hx; exact ⟨u, hu, hru.mono hKL⟩⟩

theorem MemSat.drew (h : MemSat K objs w) : MemSat K objs w.drew :=
  ⟨h.len, h.ver, fun o p hp => (h.obj o p hp).mono (Ctx.le.refl K) (by rw [← h.len]; exact (List.getElem?_eq_some_iff.1 hp).1) (by rw [h.ver o p hp]; exact Nat.le_refl _) (fun _ _ => rfl), h.lo, h.dis, h.mem, h.below.drew⟩

theorem MemSat.drawn (h : MemSat K objs w) (n : Nat) : MemSat K objs { w with drawn := n } :=
  ⟨h.len, h.ver, fun o p hp => (h.obj o p hp).mono (Ctx.le.refl K) (by rw [← h.len]; exact (List.getElem?_eq_some_iff.1 hp).1) (by rw [h.ver o p hp]; exact Nat.le_refl _) (fun _ _ => rfl), h.lo, h.dis, h.mem,
   h.below.step rfl rfl rfl rfl rfl (Nat.le_refl _) fun _ _ _ => rfl⟩

theorem MemSat.olt (h : MemSat K objs w) {o : Nat} {p : Nat × AObj} (hp : objs[o]? = some p) : o < K.n := by
  rw [← h.len]; exact (List.getElem?_eq_some_iff.1 hp).1

/-- The context behind a new block that nobody will write. -/
def Ctx.frozenBlock (K : Ctx) (b : Nat) (c : List Value) : Ctx := { K with M := fun b' i => if b' = b then (match c[i]? with | some u => if u.oneCell' then some u else none | none => none) else K.M b' i }

theorem le_frozenBlock (h : MemSat K objs w) (c : List Value) : K.le (K.frozenBlock w.heap.size c) := by
  refine ⟨fun b i u hu => ?_, fun _ _ _ _ => rfl, fun _ _ _ _ => rfl, Nat.le_refl _, fun _ _ => Nat.le_refl _, rfl, rfl, fun b i x hx => ?_⟩
  · have := h.M_lt hu
    simp only [Ctx.frozenBlock]
    rw [if_neg (by omega)]
    exact hu
  · have := h.below.lt hx
    simp only [Ctx.frozenBlock]
    rw [if_neg (by omega)]

theorem MemSat.newBlock (h : MemSat K objs w) (c : List Value) (t : TypeId) : MemSat (K.frozenBlock w.heap.size c) objs (w.alloc (.cells c.toArray t)) := by
  have hle := le_frozenBlock h c
  refine ⟨h.len, h.ver, fun o p hp => ?_, fun o p hp hl hC => ?_, h.dis, fun b i u hu => ?_, h.below.alloc (L := K.frozenBlock w.heap.size c) rfl rfl _⟩
  · refine (h.obj o p hp).mono hle (h.olt hp) (by rw [h.ver o p hp]; exact Nat.le_refl _) (fun hl hC => ?_)
    exact Below.heap_alloc _ _ _ (h.lo o p hp hl hC).2.1
  · obtain ⟨h1, h2, h3⟩ := h.lo o p hp hl hC
    refine ⟨h1, ?_, fun i => ?_⟩
    · show _ < (w.heap.push _).size
      simp only [Array.size_push]
      exact Nat.lt_succ_of_lt h2
    · show (if K.ρ o p.1 = w.heap.size then _ else _) = none
      rw [if_neg (by omega)]
      exact h3 i
  · simp only [Ctx.frozenBlock] at hu
    by_cases hb : b = w.heap.size
    · subst hb
      rw [if_pos rfl] at hu
      rw [World.cell?_alloc_new]
      cases hc : c[i]? with
      | none => simp [hc] at hu
      | some x =>
        simp only [hc] at hu
        split at hu
        · rename_i h1
          simp only [Option.some.injEq] at hu
          subst hu
          exact ⟨by simpa using hc, h1⟩
        · cases hu
    · rw [if_neg hb] at hu
      have := h.mem b i u hu
      exact ⟨(World.cell?_alloc_old w _ _ (by simpa using hb)).trans this.1, this.2⟩

/-- The context behind a new object. -/
def Ctx.newObj (K : Ctx) (b c : Nat) : Ctx :=
  { K with ρ := fun o v => if o = K.n then b else K.ρ o v, C := fun o v => if o = K.n then c else K.C o v, n := K.n + 1, vs := fun o => if o = K.n then 0 else K.vs o }

theorem le_newObj (K : Ctx) (b c : Nat) : K.le (K.newObj b c) := by
  refine ⟨fun b i u hu => hu, fun o v ho _ => ?_, fun o v ho _ => ?_, by simp [Ctx.newObj], fun o ho => ?_, rfl, rfl, fun _ _ _ _ => rfl⟩
  · simp only [Ctx.newObj]; rw [if_neg (by omega)]
  · simp only [Ctx.newObj]; rw [if_neg (by omega)]
  · simp only [Ctx.newObj]; rw [if_neg (by omega)]; exact Nat.le_refl _

/-- A new object in a new block. -/
theorem MemSat.addRow (h : MemSat K objs w) (t : TypeId) (k : Nat) (es : List (List AVal)) (c : Array Value) (C : Nat) (hC : C ≠ 0) (hlen : es.length ≤ C) (hsz : c.size = C * k) (hk : ∀ e ∈ es, e.length = k)
    (h1 : ∀ u ∈ c.toList, u.oneCell' = true) (hr : ∀ (i j : Nat) (e : List AVal) (x : AVal), es[i]? = some e → e[j]? = some x → ∃ u, c[i * k + j]? = some u ∧ Rep K x u) :
    MemSat (K.newObj w.heap.size C) (objs ++ [(0, .row t k es)]) (w.alloc (.cells c t)) := by
  have hle := le_newObj K w.heap.size C
  have cases_o : ∀ (o : Nat) (p : Nat × AObj), (objs ++ [(0, AObj.row t k es)])[o]? = some p → (objs[o]? = some p ∧ o < K.n) ∨ (o = K.n ∧ p = (0, .row t k es)) := by
    intro o p hp
    rcases Nat.lt_trichotomy o K.n with hlt | heq | hgt
    · left
      rw [List.getElem?_append_left (by rw [h.len]; exact hlt)] at hp
      exact ⟨hp, hlt⟩
    · right
      subst heq
      rw [List.getElem?_append_right (by rw [h.len]; exact Nat.le_refl _), h.len, Nat.sub_self] at hp
      exact ⟨rfl, by simpa using hp.symm⟩
    · rw [List.getElem?_eq_none (by simp [h.len]; omega)] at hp
      cases hp
  refine ⟨by simp [Ctx.newObj, h.len], fun o p hp => ?_, fun o p hp => ?_, fun o p hp hl hC => ?_, fun o o' p p' hp hp' hl hl' hC hC' hne => ?_, fun b i u hu => ?_, h.below.alloc (L := K.newObj w.heap.size C) rfl rfl _⟩
  · rcases cases_o o p hp with ⟨hp, hlt⟩ | ⟨rfl, rfl⟩
    · simp only [Ctx.newObj]; rw [if_neg (by omega)]; exact h.ver o p hp
    · simp [Ctx.newObj]
  · rcases cases_o o p hp with ⟨hp, hlt⟩ | ⟨rfl, rfl⟩
    · refine (h.obj o p hp).mono hle hlt (by rw [h.ver o p hp]; exact Nat.le_refl _) (fun hl hC => ?_)
      exact Below.heap_alloc _ _ _ (h.lo o p hp hl hC).2.1
    · refine ⟨hk, by simpa [Ctx.newObj] using hlen, fun _ => ⟨c, ?_, by simpa [Ctx.newObj] using hsz, h1, fun i j e x he hx => ?_⟩⟩
      · have e2 : (K.newObj w.heap.size C).ρ K.n 0 = w.heap.size := by simp [Ctx.newObj]
        show (w.heap.push _)[(K.newObj w.heap.size C).ρ K.n 0]? = _
        rw [e2, Array.getElem?_push, if_pos rfl]
      · obtain ⟨u, hu, hru⟩ := hr i j e x he hx
        exact ⟨u, hu, hru.mono hle⟩
  · rcases cases_o o p hp with ⟨hp, hlt⟩ | ⟨rfl, rfl⟩
    · have e1 : (K.newObj w.heap.size C).C o p.1 = K.C o p.1 := by simp only [Ctx.newObj]; rw [if_neg (by omega)]
      have e2 : (K.newObj w.heap.size C).ρ o p.1 = K.ρ o p.1 := by simp only [Ctx.newObj]; rw [if_neg (by omega)]
      rw [e1] at hC
      obtain ⟨g1, g2, g3⟩ := h.lo o p hp hl hC
      rw [e2]
      exact ⟨g1, by simp; omega, g3⟩
    · have e2 : (K.newObj w.heap.size C).ρ K.n 0 = w.heap.size := by simp [Ctx.newObj]
      show _ ∧ _ ∧ ∀ i, (K.newObj w.heap.size C).M ((K.newObj w.heap.size C).ρ K.n 0) i = none
      rw [e2]
      refine ⟨h.below.fresh (Nat.le_refl _), by simp, fun i => ?_⟩
      cases hM : K.M w.heap.size i with
      | none => exact hM
      | some u => exact absurd (h.M_lt hM) (by omega)
  · have e2 : ∀ o v, o < K.n → (K.newObj w.heap.size C).ρ o v = K.ρ o v := fun o v ho => by simp only [Ctx.newObj]; rw [if_neg (by omega)]
    have e1 : ∀ o v, o < K.n → (K.newObj w.heap.size C).C o v = K.C o v := fun o v ho => by simp only [Ctx.newObj]; rw [if_neg (by omega)]
    have e3 : ∀ v, (K.newObj w.heap.size C).ρ K.n v = w.heap.size := fun v => by simp [Ctx.newObj]
    rcases cases_o o p hp with ⟨hp, hlt⟩ | ⟨rfl, rfl⟩ <;> rcases cases_o o' p' hp' with ⟨hp', hlt'⟩ | ⟨rfl, rfl⟩
    · rw [e2 _ _ hlt, e2 _ _ hlt']
      rw [e1 _ _ hlt] at hC
      rw [e1 _ _ hlt'] at hC'
      exact h.dis o o' p p' hp hp' hl hl' hC hC' hne
    · rw [e2 _ _ hlt, e3]
      rw [e1 _ _ hlt] at hC
      have := (h.lo o p hp hl hC).2.1
      omega
    · rw [e2 _ _ hlt', e3]
      rw [e1 _ _ hlt'] at hC'
      have := (h.lo o' p' hp' hl' hC').2.1
      omega
    · exact absurd rfl hne
  · have hu' : K.M b i = some u := hu
    have := h.mem b i u hu'
    exact ⟨(World.cell?_alloc_lt w _ ⟨b, i, none⟩ (h.M_lt hu')).trans this.1, this.2⟩

end
end Go.Fw
