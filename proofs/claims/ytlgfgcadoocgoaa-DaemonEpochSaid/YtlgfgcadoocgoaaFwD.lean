/-
  Soundness, second part: objects that are written, and objects that move to another block.
-/
import Derived.Test.YtlgfgcadoocgoaaFwC
import Derived.Laws.CopyRow
import Derived.Laws.CopyOwn
import Derived.Laws.MakeOwn
import Derived.Laws.AppendOwn
namespace Go.Fw
set_option linter.unusedSimpArgs false
set_option linter.unusedVariables false
open Go.RowKit

section
variable {K : Ctx} {objs : Objs} {w : World}

/-- The block of a live object. -/
theorem MemSat.rowBlock (h : MemSat K objs w) {o ver k : Nat} {t : TypeId} {es : List (List AVal)} (hp : objs[o]? = some (ver, .row t k es)) (hC : K.C o ver ≠ 0) :
    ∃ c : Array Value, w.heap[K.ρ o ver]? = some (.cells c t (0, 0)) ∧ c.size = K.C o ver * k ∧ (∀ u ∈ c.toList, u.oneCell' = true) ∧
      (∀ (i j : Nat) (e : List AVal) (x : AVal), es[i]? = some e → e[j]? = some x → ∃ u, c[i * k + j]? = some u ∧ Rep K x u) := (h.obj o _ hp).2.2 hC

theorem get_set_ne {o o' : Nat} {q : Nat × AObj} (h : o ≠ o') : (objs.set o q)[o']? = objs[o']? := by
  rw [List.getElem?_set_ne h]

theorem get_set_eq {o : Nat} {q p : Nat × AObj} (h : objs[o]? = some p) : (objs.set o q)[o]? = some q := by
  rw [List.getElem?_set_self (List.getElem?_eq_some_iff.1 h).1]

/-- A store into an object's own block. -/
theorem MemSat.setRow (h : MemSat K objs w) {o ver k : Nat} {t : TypeId} {es : List (List AVal)} (hp : objs[o]? = some (ver, .row t k es)) (hC : K.C o ver ≠ 0)
    (c c' : Array Value) (hc : w.heap[K.ρ o ver]? = some (.cells c t (0, 0))) (hs : c'.size = c.size) (h1 : ∀ u ∈ c'.toList, u.oneCell' = true)
    (es' : List (List AVal)) (hl : es'.length ≤ K.C o ver) (hk : ∀ e ∈ es', e.length = k)
    (hr : ∀ (i j : Nat) (e : List AVal) (x : AVal), es'[i]? = some e → e[j]? = some x → ∃ u, c'[i * k + j]? = some u ∧ Rep K x u) :
    MemSat K (objs.set o (ver, .row t k es')) (w.setRow (K.ρ o ver) c') := by
  have hlo := h.lo o _ hp rfl hC
  have hv : ver = K.vs o := h.ver o _ hp
  have key : ∀ (o' : Nat) (p : Nat × AObj), (objs.set o (ver, .row t k es'))[o']? = some p → (o' = o ∧ p = (ver, .row t k es')) ∨ (o' ≠ o ∧ objs[o']? = some p) := by
    intro o' p hp'
    by_cases ho : o' = o
    · subst ho
      rw [get_set_eq hp] at hp'
      exact .inl ⟨rfl, by simpa using hp'.symm⟩
    · rw [get_set_ne (Ne.symm ho)] at hp'
      exact .inr ⟨ho, hp'⟩
  have live : ∀ (o' : Nat) (p : Nat × AObj), (objs.set o (ver, .row t k es'))[o']? = some p → ∃ q : Nat × AObj, objs[o']? = some q ∧ q.1 = p.1 ∧ (p.2.live = true → q.2.live = true) := by
    intro o' p hp'
    rcases key o' p hp' with ⟨rfl, rfl⟩ | ⟨_, hq⟩
    · exact ⟨_, hp, rfl, fun _ => rfl⟩
    · exact ⟨p, hq, rfl, id⟩
  refine ⟨by simp [h.len], fun o' p hp' => ?_, fun o' p hp' => ?_, fun o' p hp' hl' hC' => ?_, fun o1 o2 p1 p2 hp1 hp2 hl1 hl2 hC1 hC2 hne => ?_, fun b i u hu => ?_, ?_⟩
  · obtain ⟨q, hq, hq1, _⟩ := live o' p hp'
    rw [← hq1]; exact h.ver o' q hq
  · rcases key o' p hp' with ⟨rfl, rfl⟩ | ⟨ho, hq⟩
    · exact ⟨hk, hl, fun _ => ⟨c', setRow_heap w _ c c' t _ hc, hs.trans (by obtain ⟨c2, hc2, hs2, _⟩ := h.rowBlock hp hC; rw [hc] at hc2; injection hc2 with hc2; injection hc2 with hc2; rw [hc2]; exact hs2), h1, hr⟩⟩
    · refine (h.obj o' p hq).mono (Ctx.le.refl K) (h.olt hq) (by rw [h.ver o' p hq]; exact Nat.le_refl _) (fun hl' hC' => setRow_other w _ _ _ ?_)
      exact h.dis o' o p _ hq hp hl' rfl hC' hC ho
  · obtain ⟨q, hq, hq1, hq2⟩ := live o' p hp'
    rw [← hq1] at hC' ⊢
    obtain ⟨g1, g2, g3⟩ := h.lo o' q hq (hq2 hl') hC'
    exact ⟨g1, by simpa using g2, g3⟩
  · obtain ⟨q1, hq1, e1, f1⟩ := live o1 p1 hp1
    obtain ⟨q2, hq2, e2, f2⟩ := live o2 p2 hp2
    rw [← e1] at hC1 ⊢
    rw [← e2] at hC2 ⊢
    exact h.dis o1 o2 q1 q2 hq1 hq2 (f1 hl1) (f2 hl2) hC1 hC2 hne
  · have := h.mem b i u hu
    refine ⟨(cell_setRow_other w _ _ _ ?_).trans this.1, this.2⟩
    intro hb
    have hb' : b = K.ρ o ver := hb
    rw [hb', hlo.2.2 i] at hu
    cases hu
  · refine h.below.step rfl rfl rfl rfl rfl (by simp) fun b x hx => setRow_other w _ _ _ ?_
    rintro rfl
    rw [hlo.1] at hx
    cases hx

/-- The context behind an object that has moved (or grown) into a block. -/
def Ctx.turn (K : Ctx) (o b c : Nat) : Ctx :=
  { K with ρ := fun o' v => if o' = o ∧ v = K.vs o + 1 then b else K.ρ o' v, C := fun o' v => if o' = o ∧ v = K.vs o + 1 then c else K.C o' v, vs := fun o' => if o' = o then K.vs o + 1 else K.vs o' }

theorem le_turn (K : Ctx) (o b c : Nat) : K.le (K.turn o b c) := by
  refine ⟨fun b i u hu => hu, fun o' v ho hv => ?_, fun o' v ho hv => ?_, Nat.le_refl _, fun o' ho => ?_, rfl, rfl, fun _ _ _ _ => rfl⟩
  · simp only [Ctx.turn]; rw [if_neg]; rintro ⟨rfl, rfl⟩; omega
  · simp only [Ctx.turn]; rw [if_neg]; rintro ⟨rfl, rfl⟩; omega
  · simp only [Ctx.turn]; split
    · rename_i he; subst he; omega
    · exact Nat.le_refl _

/-- An object is given a new version, in a block that is its own, or new, or none (capacity 0). -/
theorem MemSat.turn (h : MemSat K objs w) {o ver : Nat} {p : AObj} (hp : objs[o]? = some (ver, p)) (t : TypeId) (k : Nat) (es' : List (List AVal)) (b C : Nat) (w' : World)
    (hb : C ≠ 0 → (p.live = true ∧ K.C o ver ≠ 0 ∧ b = K.ρ o ver) ∨ w.heap.size ≤ b) (hblt : C ≠ 0 → b < w'.heap.size)
    (hw : ∀ i, i < w.heap.size → (C ≠ 0 → i ≠ b) → w'.heap[i]? = w.heap[i]?) (hbelow : Prot K w')
    (hl : es'.length ≤ C) (hk : ∀ e ∈ es', e.length = k)
    (hcell : C ≠ 0 → ∃ c : Array Value, w'.heap[b]? = some (.cells c t (0, 0)) ∧ c.size = C * k ∧ (∀ u ∈ c.toList, u.oneCell' = true) ∧
      (∀ (i j : Nat) (e : List AVal) (x : AVal), es'[i]? = some e → e[j]? = some x → ∃ u, c[i * k + j]? = some u ∧ Rep K x u)) :
    MemSat (K.turn o b C) (objs.set o (ver + 1, .row t k es')) w' := by
  have hv : ver = K.vs o := h.ver o _ hp
  subst hv
  have hle := le_turn K o b C
  have eρ : (K.turn o b C).ρ o (K.vs o + 1) = b := by simp [Ctx.turn]
  have eC : (K.turn o b C).C o (K.vs o + 1) = C := by simp [Ctx.turn]
  have ρo : ∀ o' v, o' ≠ o → (K.turn o b C).ρ o' v = K.ρ o' v := fun o' v ho => by simp only [Ctx.turn]; rw [if_neg]; exact fun h => ho h.1
  have Co : ∀ o' v, o' ≠ o → (K.turn o b C).C o' v = K.C o' v := fun o' v ho => by simp only [Ctx.turn]; rw [if_neg]; exact fun h => ho h.1
  have key : ∀ (o' : Nat) (q : Nat × AObj), (objs.set o (K.vs o + 1, .row t k es'))[o']? = some q → (o' = o ∧ q = (K.vs o + 1, .row t k es')) ∨ (o' ≠ o ∧ objs[o']? = some q) := by
    intro o' q hq
    by_cases ho : o' = o
    · subst ho
      rw [get_set_eq hp] at hq
      exact .inl ⟨rfl, by simpa using hq.symm⟩
    · rw [get_set_ne (Ne.symm ho)] at hq
      exact .inr ⟨ho, hq⟩
  have far : ∀ (o' : Nat) (q : Nat × AObj), o' ≠ o → objs[o']? = some q → q.2.live = true → K.C o' q.1 ≠ 0 → C ≠ 0 → K.ρ o' q.1 ≠ b := by
    intro o' q ho hq hl' hC' hC
    rcases hb hC with ⟨hpl, hC0, rfl⟩ | hge
    · exact h.dis o' o q _ hq hp hl' hpl hC' hC0 ho
    · have := (h.lo o' q hq hl' hC').2.1
      omega
  have Mb : ∀ i, C ≠ 0 → K.M b i = none := by
    intro i hC
    rcases hb hC with ⟨hpl, hC0, rfl⟩ | hge
    · exact (h.lo o _ hp hpl hC0).2.2 i
    · cases hM : K.M b i with
      | none => rfl
      | some u => exact absurd (h.M_lt hM) (by omega)
  refine ⟨by simp [h.len, Ctx.turn], fun o' q hq => ?_, fun o' q hq => ?_, fun o' q hq hl' hC' => ?_, fun o1 o2 p1 p2 hp1 hp2 hl1 hl2 hC1 hC2 hne => ?_, fun b' i u hu => ?_, hbelow.step (L := K.turn o b C) rfl rfl rfl rfl rfl (Nat.le_refl _) fun _ _ _ => rfl⟩
  · rcases key o' q hq with ⟨rfl, rfl⟩ | ⟨ho, hq⟩
    · simp [Ctx.turn]
    · simp only [Ctx.turn]; rw [if_neg ho]; exact h.ver o' q hq
  · rcases key o' q hq with ⟨rfl, rfl⟩ | ⟨ho, hq⟩
    · refine ⟨hk, by rw [eC]; exact hl, fun hC => ?_⟩
      rw [eC] at hC ⊢
      rw [eρ]
      obtain ⟨c, h1, h2, h3, h4⟩ := hcell hC
      exact ⟨c, h1, h2, h3, fun i j e x he hx => by obtain ⟨u, hu, hru⟩ := h4 i j e x he hx; exact ⟨u, hu, hru.mono hle⟩⟩
    · refine (h.obj o' q hq).mono hle (h.olt hq) (by rw [h.ver o' q hq]; exact Nat.le_refl _) (fun hl' hC' => ?_)
      exact hw _ (h.lo o' q hq hl' hC').2.1 (fun hC => far o' q ho hq hl' hC' hC)
  · rcases key o' q hq with ⟨rfl, rfl⟩ | ⟨ho, hq⟩
    · rw [eC] at hC'
      show (K.turn o' b C).B ((K.turn o' b C).ρ o' (K.vs o' + 1)) = none ∧ _
      rw [eρ]
      refine ⟨?_, hblt hC', fun i => Mb i hC'⟩
      rcases hb hC' with ⟨hpl, hC0, rfl⟩ | hge
      · exact (h.lo o' _ hp hpl hC0).1
      · exact h.below.fresh hge
    · rw [Co o' _ ho] at hC'
      rw [ρo o' _ ho]
      obtain ⟨g1, g2, g3⟩ := h.lo o' q hq hl' hC'
      refine ⟨g1, ?_, g3⟩
      rcases Nat.lt_or_ge (K.ρ o' q.1) w'.heap.size with h' | h'
      · exact h'
      · have e1 := hw _ g2 (fun hC => far o' q ho hq hl' hC' hC)
        rw [Array.getElem?_eq_none h'] at e1
        rw [Array.getElem?_eq_getElem g2] at e1
        cases e1
  · rcases key o1 p1 hp1 with ⟨rfl, rfl⟩ | ⟨ho1, hq1⟩ <;> rcases key o2 p2 hp2 with ⟨rfl, rfl⟩ | ⟨ho2, hq2⟩
    · exact absurd rfl hne
    · rw [eC] at hC1
      rw [Co o2 _ ho2] at hC2
      show (K.turn o1 b C).ρ o1 (K.vs o1 + 1) ≠ _
      rw [eρ, ρo o2 _ ho2]
      exact (far o2 p2 ho2 hq2 hl2 hC2 hC1).symm
    · rw [eC] at hC2
      rw [Co o1 _ ho1] at hC1
      show _ ≠ (K.turn o2 b C).ρ o2 (K.vs o2 + 1)
      rw [eρ, ρo o1 _ ho1]
      exact far o1 p1 ho1 hq1 hl1 hC1 hC2
    · rw [Co o1 _ ho1] at hC1
      rw [Co o2 _ ho2] at hC2
      rw [ρo o1 _ ho1, ρo o2 _ ho2]
      exact h.dis o1 o2 p1 p2 hq1 hq2 hl1 hl2 hC1 hC2 hne
  · have hu' : K.M b' i = some u := hu
    have := h.mem b' i u hu'
    refine ⟨?_, this.2⟩
    rw [← this.1]
    refine World.cell?_of_block (w := w) (hw b' (h.M_lt hu') (fun hC => ?_))
    rintro rfl
    rw [Mb i hC] at hu'
    cases hu'

/-- A new object without a block. -/
theorem MemSat.addNone (h : MemSat K objs w) (t : TypeId) (k : Nat) : MemSat (K.newObj 0 0) (objs ++ [(0, .row t k [])]) w := by
  have hle := le_newObj K 0 0
  have cases_o : ∀ (o : Nat) (p : Nat × AObj), (objs ++ [(0, AObj.row t k [])])[o]? = some p → (objs[o]? = some p ∧ o < K.n) ∨ (o = K.n ∧ p = (0, .row t k [])) := by
    intro o p hp
    rcases Nat.lt_trichotomy o K.n with hlt | heq | hgt
    · left
      rw [List.getElem?_append_left (by rw [h.len]; exact hlt)] at hp
      exact ⟨hp, hlt⟩
    · right
      subst heq
      rw [List.getElem?_append_right (by rw [h.len]; exact Nat.le_refl _), h.len, Nat.sub_self] at hp
      exact ⟨rfl, by simpa using hp.symm⟩
    · rw [List.getElem?_eq_none (by simp [h.len]; omega)] at hp
      cases hp
  have e2 : ∀ o v, o < K.n → (K.newObj 0 0).ρ o v = K.ρ o v := fun o v ho => by simp only [Ctx.newObj]; rw [if_neg (by omega)]
  have e1 : ∀ o v, o < K.n → (K.newObj 0 0).C o v = K.C o v := fun o v ho => by simp only [Ctx.newObj]; rw [if_neg (by omega)]
  have e0 : ∀ v, (K.newObj 0 0).C K.n v = 0 := fun v => by simp [Ctx.newObj]
  refine ⟨by simp [Ctx.newObj, h.len], fun o p hp => ?_, fun o p hp => ?_, fun o p hp hl hC => ?_, fun o o' p p' hp hp' hl hl' hC hC' hne => ?_, h.mem, h.below.step (L := K.newObj 0 0) rfl rfl rfl rfl rfl (Nat.le_refl _) fun _ _ _ => rfl⟩
  · rcases cases_o o p hp with ⟨hp, hlt⟩ | ⟨rfl, rfl⟩
    · simp only [Ctx.newObj]; rw [if_neg (by omega)]; exact h.ver o p hp
    · simp [Ctx.newObj]
  · rcases cases_o o p hp with ⟨hp, hlt⟩ | ⟨rfl, rfl⟩
    · exact (h.obj o p hp).mono hle hlt (by rw [h.ver o p hp]; exact Nat.le_refl _) (fun _ _ => rfl)
    · exact ⟨by simp, by simp, fun hC => absurd (e0 0) hC⟩
  · rcases cases_o o p hp with ⟨hp, hlt⟩ | ⟨rfl, rfl⟩
    · rw [e1 _ _ hlt] at hC
      rw [e2 _ _ hlt]
      exact h.lo o p hp hl hC
    · exact absurd (e0 0) hC
  · rcases cases_o o p hp with ⟨hp, hlt⟩ | ⟨rfl, rfl⟩ <;> rcases cases_o o' p' hp' with ⟨hp', hlt'⟩ | ⟨rfl, rfl⟩
    · rw [e2 _ _ hlt, e2 _ _ hlt']
      rw [e1 _ _ hlt] at hC
      rw [e1 _ _ hlt'] at hC'
      exact h.dis o o' p p' hp hp' hl hl' hC hC' hne
    · exact absurd (e0 0) hC'
    · exact absurd (e0 0) hC
    · exact absurd rfl hne

end
end Go.Fw
