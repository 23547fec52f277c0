/-
  Soundness, fifth part: slices that nobody writes, comparisons, addresses, cuts.
-/
import Derived.Test.YtlgfgcadoocgoaaFwF
import Derived.Laws.Slices
namespace Go.Fw
set_option linter.unusedSimpArgs false
set_option linter.unusedVariables false
open Go.RowKit

section
variable {K : Ctx} {P : Program} {w : World} {objs : Objs}

/-- A slice that nobody writes, read back. -/
theorem rep_seq {k n : Nat} {t : Bool} {f : Nat → List AVal} {v : Value} (h : Rep K (.seq k n t f) v) :
    ∃ (A : Option Addr) (c : Nat), v = .slice A n c ∧ n ≤ c ∧ (t = true → c = n) ∧ (A = none → n = 0 ∧ c = 0) ∧
      (0 < n → ∃ (b off : Nat) (u : Nat → Nat → Value), A = some ⟨b, off, none⟩ ∧ (∀ i, i < n → (f i).length = k) ∧ (∀ i j, i < n → j < k → K.M b (off + (i * k + j)) = some (u i j)) ∧
        ∀ (i j : Nat) (x : AVal), i < n → (f i)[j]? = some x → Rep K x (u i j)) := by
  cases h with
  | nil => exact ⟨none, 0, rfl, Nat.le_refl _, fun _ => rfl, fun _ => ⟨rfl, rfl⟩, fun h => absurd h (by omega)⟩
  | empty _ _ _ a c ht => exact ⟨some a, c, rfl, Nat.zero_le _, ht, (fun h => by cases h), fun h => absurd h (by omega)⟩
  | seq _ _ _ _ b off c u hc ht hk hM h => exact ⟨some ⟨b, off, none⟩, c, rfl, hc, ht, (fun h => by cases h), fun _ => ⟨b, off, u, rfl, hk, hM, h⟩⟩

theorem rep_seq_mk {k n : Nat} {t : Bool} {f : Nat → List AVal} {A : Option Addr} {c : Nat} (hc : n ≤ c) (ht : t = true → c = n) (hA : A = none → n = 0 ∧ c = 0)
    (h : 0 < n → ∃ (b off : Nat) (u : Nat → Nat → Value), A = some ⟨b, off, none⟩ ∧ (∀ i, i < n → (f i).length = k) ∧ (∀ i j, i < n → j < k → K.M b (off + (i * k + j)) = some (u i j)) ∧
        ∀ (i j : Nat) (x : AVal), i < n → (f i)[j]? = some x → Rep K x (u i j)) : Rep K (.seq k n t f) (.slice A n c) := by
  rcases Nat.eq_zero_or_pos n with h0 | h0
  · subst h0
    cases A with
    | none => obtain ⟨_, rfl⟩ := hA rfl; exact .nil k t f
    | some a => exact .empty k t f a c ht
  · obtain ⟨b, off, u, rfl, hk, hM, hr⟩ := h h0
    exact .seq k n t f b off c u hc ht hk hM hr

theorem seqOf_sound {k n : Nat} {t : Bool} {f : Nat → List AVal} {x : AVal} {v : Value} (hx : Rep K x v) (h : seqOf k x = some (n, t, f)) : Rep K (.seq k n t f) v := by
  unfold seqOf at h
  split at h
  · rename_i k' n' t' f'
    cases hb : Nat.beq k k' with
    | false => rw [hb] at h; cases h
    | true =>
      rw [hb] at h
      simp only [cond_true, Option.some.injEq, Prod.mk.injEq] at h
      obtain ⟨rfl, rfl, rfl⟩ := h
      rw [Nat.eq_of_beq_eq_true hb]
      exact hx
  · simp only [Option.some.injEq, Prod.mk.injEq] at h
    obtain ⟨rfl, rfl, rfl⟩ := h
    have := rep_lit hx
    subst this
    exact .nil k true _
  · cases h

theorem intOfA_sound {x : AVal} {v : Value} {n : Int} (hx : Rep K x v) (h : intOfA x = some n) : ∃ k, v = .int k n := by
  unfold intOfA at h
  split at h
  · simp only [Option.some.injEq] at h
    subst h
    exact ⟨_, rep_lit hx⟩
  · cases h

theorem elemA_some {t e : TypeId} (h : elemA P t = some e) : P.underlying t = some (.slice e) := by
  unfold elemA at h
  split at h
  · rename_i hu; simp only [Option.some.injEq] at h; subst h; exact hu
  · cases h

theorem ref_of_seq {k n : Nat} {t : Bool} {f : Nat → List AVal} {A : Option Addr} {c : Nat} (h : Rep K (.seq k n t f) (.slice A n c)) {i : Nat} (hi : i < n) :
    ∃ b off, A = some ⟨b, off, none⟩ ∧ Rep K (.ref (f i)) (.pointer (some ⟨b, off + i * k, none⟩)) := by
  obtain ⟨A', c', hv, _, _, _, h'⟩ := rep_seq h
  simp only [Value.slice.injEq] at hv
  obtain ⟨rfl, _, rfl⟩ := hv
  obtain ⟨b, off, u, hA, hk, hM, hr⟩ := h' (by omega)
  refine ⟨b, off, hA, .ref (f i) b (off + i * k) (u i) (fun j hj => ?_) (fun j x hx => hr i j x hi hx)⟩
  rw [hk i hi] at hj
  rw [Nat.add_assoc]
  exact hM i j hi hj

theorem rep_own {o ver k off len : Nat} {v : Value} (h : Rep K (.own o ver k off len) v) : o < K.n ∧ ver ≤ K.vs o ∧ ((off = 0 ∧ len = 0 ∧ v = .slice none 0 0) ∨ ∃ a c, v = .slice (some a) len c ∧ len ≤ c ∧ off + c ≤ K.C o ver ∧ (c ≠ 0 → a = ⟨K.ρ o ver, off * k, none⟩)) := by
  cases h with
  | own _ _ _ _ _ ho hv a c hl hC ha => exact ⟨ho, hv, .inr ⟨a, c, rfl, hl, hC, ha⟩⟩
  | ownNil _ _ _ ho hv => exact ⟨ho, hv, .inl ⟨rfl, rfl, rfl⟩⟩

theorem indexAddrA_sound {t : TypeId} {x i r : AVal} {v iv : Value} {b : Bool} (hx : Rep K x v) (hi : Rep K i iv) (h : indexAddrA P t x i = .ifb b r) (hb : b = true)
    (hel : ∀ e, P.underlying t = some (.slice e) → (P.info? e).isSome = true) (hel' : ∀ n e, P.underlying t = some (.array n e) → (P.info? e).isSome = true) :
    ∃ u, (Instr.indexAt t v iv).run P w = .ok u w ∧ Rep K r u := by
  subst hb
  unfold indexAddrA at h
  split at h
  · rename_i e n hu hn
    obtain ⟨ki, rfl⟩ := intOfA_sound hi hn
    have hsz := sizeA_run (w := w) (hel e hu)
    split at h
    · rename_i o ver k off len
      cases hk : Nat.beq k (sizeA P e) with
      | false => rw [hk] at h; cases h
      | true =>
        rw [hk] at h
        simp only [cond_true, ORes.ifb.injEq, decide_eq_true_eq] at h
        obtain ⟨⟨h0, h1⟩, rfl⟩ := h
        have hk' := Nat.eq_of_beq_eq_true hk
        obtain ⟨ho, hv, hcase⟩ := rep_own hx
        rcases hcase with ⟨rfl, rfl, rfl⟩ | ⟨a, c, rfl, hl, hC, ha⟩
        · omega
        · have hc0 : c ≠ 0 := by omega
          have := ha hc0
          subst this
          refine ⟨.pointer (some ⟨K.ρ o ver, (off + n.toNat) * k + 0, none⟩), ?_, .ptr o ver k _ 0 ho hv⟩
          simp only [Instr.indexAt, asIntOf, Sem.run_bind, Sem.run_pure, Result.andThen_ok, run_underlying hu]
          rw [if_pos ⟨h0, by omega⟩]
          simp only [Sem.run_bind, hsz, Result.andThen_ok, Sem.run_pure, add_lit, ← hk']
          rw [Nat.add_mul]
          rfl
    · split at h
      · rename_i len t' f hs
        simp only [ORes.ifb.injEq, decide_eq_true_eq] at h
        obtain ⟨⟨h0, h1⟩, rfl⟩ := h
        have hseq := seqOf_sound hx hs
        obtain ⟨A, c, rfl, hc, _, _, _⟩ := rep_seq hseq
        obtain ⟨b, off, rfl, hr⟩ := ref_of_seq hseq (i := n.toNat) (by omega)
        refine ⟨_, ?_, hr⟩
        simp only [Instr.indexAt, asIntOf, Sem.run_bind, Sem.run_pure, Result.andThen_ok, run_underlying hu]
        rw [if_pos ⟨h0, by omega⟩]
        simp only [Sem.run_bind, hsz, Result.andThen_ok, Sem.run_pure, add_lit]
      · cases h
  · rename_i len e n hu hn
    obtain ⟨ki, rfl⟩ := intOfA_sound hi hn
    have hsz := sizeA_run (w := w) (hel' len e hu)
    split at h
    · rename_i o ver k i' j
      simp only [ORes.ifb.injEq, decide_eq_true_eq] at h
      obtain ⟨⟨h0, h1⟩, rfl⟩ := h
      obtain ⟨rfl, ho, hv⟩ := rep_ptr hx
      refine ⟨.pointer (some ⟨K.ρ o ver, i' * k + (j + n.toNat * sizeA P e), none⟩), ?_, .ptr o ver k i' _ ho hv⟩
      simp only [Instr.indexAt, asIntOf, Instr.sureAddr, Sem.run_bind, Sem.run_pure, Result.andThen_ok, run_underlying hu]
      rw [if_pos ⟨h0, by omega⟩]
      simp only [Sem.run_bind, hsz, Result.andThen_ok, Sem.run_pure, add_lit, Nat.add_assoc]
    · rename_i cs
      simp only [ORes.ifb.injEq, decide_eq_true_eq] at h
      obtain ⟨⟨h0, h1⟩, rfl⟩ := h
      obtain ⟨b, off, u, rfl, hM, hr⟩ := rep_ref hx
      refine ⟨.pointer (some ⟨b, off + n.toNat * sizeA P e, none⟩), ?_, .ref _ b _ (fun j => u (n.toNat * sizeA P e + j)) (fun j hj => ?_) (fun j x hx => ?_)⟩
      · simp only [Instr.indexAt, asIntOf, Instr.sureAddr, Sem.run_bind, Sem.run_pure, Result.andThen_ok, run_underlying hu]
        rw [if_pos ⟨h0, by omega⟩]
        simp only [Sem.run_bind, hsz, Result.andThen_ok, Sem.run_pure, add_lit]
      · rw [Nat.add_assoc]
        exact hM _ (by simp at hj; omega)
      · rw [List.getElem?_drop] at hx
        exact hr _ x hx
    · cases h
  · cases h

theorem fieldA_some {t : TypeId} {i : Nat} {f : Field} (h : fieldA P t i = some f) : ∃ fs, P.underlying t = some (.struct fs) ∧ fs[i]? = some f := by
  unfold fieldA at h
  split at h
  · rename_i fs hu; exact ⟨fs, hu, h⟩
  · cases h

theorem sizeA_pos_info {t : TypeId} (h : sizeA P t ≠ 0) : (P.info? t).isSome = true := by
  unfold sizeA at h
  cases hi : P.info? t with
  | none => simp [hi] at h
  | some i => rfl

theorem fieldAddrA_sound {t : TypeId} {x r : AVal} {v : Value} {f : Nat} (hx : Rep K x v) (h : fieldAddrA P t x f = .val r) : ∃ u, (Instr.fieldAt t v f).run P w = .ok u w ∧ Rep K r u := by
  unfold fieldAddrA at h
  split at h
  · rename_i fd hf
    obtain ⟨fs, hu, hfd⟩ := fieldA_some hf
    cases hz : Nat.beq (sizeA P fd.type) 0 with
    | true => rw [hz] at h; cases h
    | false =>
      rw [hz] at h
      simp only [cond_false] at h
      have hne : sizeA P fd.type ≠ 0 := fun e => by rw [e] at hz; cases hz
      have hsz := sizeA_run (w := w) (sizeA_pos_info hne)
      have run : ∀ a : Addr, (Instr.fieldAt t (.pointer (some a)) f).run P w = .ok (.pointer (some (a.add fd.offset))) w := by
        intro a
        simp only [Instr.fieldAt, Sem.run_bind, run_underlying hu, Result.andThen_ok, hfd, Instr.sureAddr, Sem.run_pure, fieldPlace, hsz, hne, if_false]
      split at h
      · rename_i o ver k i j
        simp only [ORes.val.injEq] at h
        subst h
        obtain ⟨rfl, ho, hv⟩ := rep_ptr hx
        refine ⟨_, run _, ?_⟩
        rw [add_lit, Nat.add_assoc]
        exact .ptr o ver k i _ ho hv
      · rename_i cs
        simp only [ORes.val.injEq] at h
        subst h
        obtain ⟨b, off, u, rfl, hM, hr⟩ := rep_ref hx
        refine ⟨_, run _, ?_⟩
        rw [add_lit]
        refine .ref _ b _ (fun j => u (fd.offset + j)) (fun j hj => ?_) (fun j x hx => ?_)
        · rw [Nat.add_assoc]
          exact hM _ (by simp at hj; omega)
        · rw [List.getElem?_drop] at hx
          exact hr _ x hx
      · cases h
  · cases h

theorem field_sound {t : TypeId} {r : AVal} {v : Value} {f : Nat} {fd : Field} {cs : List AVal} (hx : Rep K (.agg cs) v) (hf : fieldA P t f = some fd) (hp : partA P fd.type cs fd.offset = some r) :
    ∃ u, (Instr.field t v f).run P w = .ok u w ∧ Rep K r u := by
  obtain ⟨fs, hu, hfd⟩ := fieldA_some hf
  obtain ⟨vs, rfl, hr, h1⟩ := rep_agg hx
  obtain ⟨u, hu', hru⟩ := partA_sound (w := w) hp hr h1
  exact ⟨u, by simp [Instr.field, run_underlying hu, hfd, asAgg, hu'], hru⟩

theorem lenA_sound {t ty : TypeId} {x r : AVal} {v : Value} (hx : Rep K x v) (h : lenA P t x = .val r) : ∃ u, (Builtin.len_ #[t] ty #[v]).run P w = .ok u w ∧ Rep K r u := by
  unfold lenA at h
  split at h <;> (try (cases h; done)) <;> simp only [ORes.val.injEq] at h <;> subst h
  · rename_i hu
    obtain ⟨A, c, rfl, _⟩ := rep_seq hx
    exact ⟨_, by simp [Builtin.len_, run_underlying hu, goInt], .lit _⟩
  · rename_i hu
    obtain ⟨_, _, ⟨_, rfl, rfl⟩ | ⟨a, c, rfl, _⟩⟩ := rep_own hx
    · exact ⟨_, by simp [Builtin.len_, run_underlying hu, goInt], .lit _⟩
    · exact ⟨_, by simp [Builtin.len_, run_underlying hu, goInt], .lit _⟩
  · rename_i hu
    have := rep_lit hx
    subst this
    exact ⟨_, by simp [Builtin.len_, run_underlying hu, goInt], .lit _⟩
  · rename_i hu
    have := rep_lit hx
    subst this
    exact ⟨_, by simp [Builtin.len_, run_underlying hu, goInt], .lit _⟩
  · rename_i hu
    exact ⟨_, by simp [Builtin.len_, run_underlying hu, goInt], .lit _⟩

def RepO (K : Ctx) : Option AVal → Option Value → Prop
  | none, none => True
  | some a, some v => Rep K a v
  | _, _ => False

theorem optInt_sound {lo : Option AVal} {lv : Option Value} {l : Option Int} (h : optInt lo = some l) (hr : RepO K lo lv) :
    (l = none ∧ lv = none) ∨ ∃ k n, l = some n ∧ lv = some (.int k n) := by
  cases lo with
  | none =>
    simp only [optInt, Option.some.injEq] at h
    cases lv with
    | none => exact .inl ⟨h.symm, rfl⟩
    | some v => exact hr.elim
  | some a =>
    cases lv with
    | none => exact hr.elim
    | some v =>
      simp only [optInt] at h
      cases hn : intOfA a with
      | none => simp [hn] at h
      | some n =>
        simp only [hn, Option.some.injEq] at h
        obtain ⟨k, rfl⟩ := intOfA_sound hr hn
        exact .inr ⟨k, n, h.symm, rfl⟩

theorem sliceBound_ok {k : IntKind} {i : Int} {y : Nat} {code : BoundsCode} (h0 : 0 ≤ i) (h1 : i ≤ (y : Int)) : (Instr.sliceBound (.int k i) y code).run P w = .ok i.toNat w := by
  simp only [Instr.sliceBound, asIntOf, Sem.run_bind, Sem.run_pure, Result.andThen_ok]
  rw [if_pos ⟨h0, h1⟩]
  rfl

/-- The bounds of a cut that fits. -/
theorem sliceBounds_ok {isSlice : Bool} {n c : Nat} {lv hv mv : Option Value} {l h m : Option Int} (hnc : n ≤ c)
    (hl : (l = none ∧ lv = none) ∨ ∃ k n, l = some n ∧ lv = some (.int k n)) (hh : (h = none ∧ hv = none) ∨ ∃ k n, h = some n ∧ hv = some (.int k n)) (hm : (m = none ∧ mv = none) ∨ ∃ k n, m = some n ∧ mv = some (.int k n))
    (h0 : 0 ≤ l.getD 0) (h1 : l.getD 0 ≤ h.getD n) (h2 : h.getD n ≤ m.getD c) (h3 : m.getD c ≤ c) (hmh : m.isSome = true → h.isSome = true) :
    (Instr.sliceBounds isSlice n c lv hv mv).run P w = .ok ((l.getD 0).toNat, (h.getD n).toNat, (m.getD c).toNat) w := by
  rcases hm with ⟨rfl, rfl⟩ | ⟨km, m, rfl, rfl⟩
  · simp only [Option.getD_none] at h2 h3
    rcases hh with ⟨rfl, rfl⟩ | ⟨kh, h, rfl, rfl⟩
    · simp only [Option.getD_none] at h1 h2
      rcases hl with ⟨rfl, rfl⟩ | ⟨kl, l, rfl, rfl⟩
      · simp [Instr.sliceBounds]
      · simp only [Option.getD_some] at h0 h1
        simp [Instr.sliceBounds, sliceBound_ok (P := P) (w := w) h0 h1]
    · simp only [Option.getD_some] at h1 h2
      have hh0 : 0 ≤ h := by omega
      rcases hl with ⟨rfl, rfl⟩ | ⟨kl, l, rfl, rfl⟩
      · simp [Instr.sliceBounds, sliceBound_ok (P := P) (w := w) hh0 h2]
      · simp only [Option.getD_some] at h0 h1
        have h1' : l ≤ ((h.toNat : Nat) : Int) := by omega
        simp [Instr.sliceBounds, sliceBound_ok (P := P) (w := w) hh0 h2, sliceBound_ok (P := P) (w := w) h0 h1']
  · simp only [Option.getD_some] at h2 h3
    rcases hh with ⟨rfl, rfl⟩ | ⟨kh, h, rfl, rfl⟩
    · exact absurd (hmh rfl) (by simp)
    · simp only [Option.getD_some] at h1 h2
      have hh0 : 0 ≤ h := by omega
      have hm0 : 0 ≤ m := by omega
      have h2' : h ≤ ((m.toNat : Nat) : Int) := by omega
      rcases hl with ⟨rfl, rfl⟩ | ⟨kl, l, rfl, rfl⟩
      · simp [Instr.sliceBounds, sliceBound_ok (P := P) (w := w) hm0 h3, sliceBound_ok (P := P) (w := w) hh0 h2']
      · simp only [Option.getD_some] at h0 h1
        have h1' : l ≤ ((h.toNat : Nat) : Int) := by omega
        simp [Instr.sliceBounds, sliceBound_ok (P := P) (w := w) hm0 h3, sliceBound_ok (P := P) (w := w) hh0 h2', sliceBound_ok (P := P) (w := w) h0 h1']

theorem sliceA_sound {t : TypeId} {x r : AVal} {v : Value} {lo hi mx : Option AVal} {lv hv mv : Option Value} {b : Bool} (hx : Rep K x v)
    (hlo : RepO K lo lv) (hhi : RepO K hi hv)
    (hmx : RepO K mx mv)
    (h : sliceA P t x lo hi mx = .ifb b r) (hb : b = true) (hmh : mx.isSome = true → hi.isSome = true) (hel : ∀ e, P.underlying t = some (.slice e) → (P.info? e).isSome = true) :
    ∃ u, (Instr.sliceAt t v lv hv mv).run P w = .ok u w ∧ Rep K r u := by
  subst hb
  unfold sliceA at h
  split at h
  · rename_i e l hh m hu hl hh' hm
    have hsz := sizeA_run (w := w) (hel e hu)
    have Hl := optInt_sound hl hlo
    have Hh := optInt_sound hh' hhi
    have Hm := optInt_sound hm hmx
    have hmh' : m.isSome = true → hh.isSome = true := by
      intro h1
      have h2 : mx.isSome = true := by
        cases mx with
        | none => simp only [optInt, Option.some.injEq] at hm; subst hm; cases h1
        | some a => rfl
      have h3 := hmh h2
      cases hi with
      | none => cases h3
      | some a =>
        simp only [optInt] at hh'
        cases ha : intOfA a with
        | none => simp [ha] at hh'
        | some n => simp only [ha, Option.some.injEq] at hh'; subst hh'; rfl
    have run : ∀ (A : Option Addr) (n c l' h' m' : Nat), (Instr.sliceBounds true n c lv hv mv).run P w = .ok (l', h', m') w →
        (Instr.sliceAt t (.slice A n c) lv hv mv).run P w = .ok (.slice (if m' = l' then A else A.map (·.add (l' * sizeA P e))) (h' - l') (m' - l')) w := by
      intro A n c l' h' m' hb
      simp only [Instr.sliceAt, Instr.slice, Sem.run_bind, run_underlying hu, Result.andThen_ok, hb, hsz, Sem.run_pure]
    split at h
    · rename_i o ver k off len
      split at h
      · cases hk : Nat.beq k (sizeA P e) with
        | false => rw [hk] at h; cases h
        | true =>
          rw [hk] at h
          simp only [cond_true, ORes.ifb.injEq, decide_eq_true_eq] at h
          obtain ⟨⟨h0, h1, h2⟩, rfl⟩ := h
          have hk' := Nat.eq_of_beq_eq_true hk
          obtain ⟨ho, hv', hcase⟩ := rep_own hx
          rcases hcase with ⟨rfl, rfl, rfl⟩ | ⟨a, c, rfl, hlc, hC, ha⟩
          · have hbo := sliceBounds_ok (P := P) (w := w) (isSlice := true) (n := 0) (c := 0) (Nat.le_refl _) Hl Hh Hm h0 h1 (by simpa using h2) (by simp) hmh'
            refine ⟨_, run none 0 0 _ _ _ hbo, ?_⟩
            have e1 : (l.getD 0).toNat = 0 := by omega
            have e2 : (hh.getD ((0 : Nat) : Int)).toNat = 0 := by omega
            simp only [e1, e2]
            simpa using Rep.ownNil (K := K) o ver k ho hv'
          · have hbo := sliceBounds_ok (P := P) (w := w) (isSlice := true) (n := len) (c := c) hlc Hl Hh Hm h0 h1 (by simp; omega) (by simp) hmh'
            refine ⟨_, run (some a) len c _ _ _ hbo, ?_⟩
            simp only [Option.getD_none, Int.toNat_natCast]
            by_cases hml : c = (l.getD 0).toNat
            · rw [if_pos hml]
              have e3 : (hh.getD (len : Int)).toNat - (l.getD 0).toNat = 0 := by omega
              rw [e3]
              exact .own o ver k _ 0 ho hv' a _ (Nat.zero_le _) (by omega) (fun hne => absurd hne (by omega))
            · rw [if_neg hml]
              have hc0 : c ≠ 0 := by omega
              have := ha hc0
              subst this
              simp only [Option.map_some, add_lit]
              refine .own o ver k _ _ ho hv' _ _ (by omega) (by omega) (fun _ => ?_)
              rw [← hk', Nat.add_mul]
      · cases h
    · split at h
      · rename_i n t' f hs
        have hseq := seqOf_sound hx hs
        obtain ⟨A, c, rfl, hc, ht, hA, hr⟩ := rep_seq hseq
        have fin : ∀ (m' : Nat) (tt : Bool), (l.getD 0).toNat ≤ (hh.getD (n : Int)).toNat → (hh.getD (n : Int)).toNat ≤ n → (hh.getD (n : Int)).toNat ≤ m' → m' ≤ c → (tt = true → m' = (hh.getD (n : Int)).toNat) →
            Rep K (.seq (sizeA P e) ((hh.getD (n : Int)).toNat - (l.getD 0).toNat) tt fun i => f ((l.getD 0).toNat + i)) (.slice (if m' = (l.getD 0).toNat then A else A.map (·.add ((l.getD 0).toNat * sizeA P e))) ((hh.getD (n : Int)).toNat - (l.getD 0).toNat) (m' - (l.getD 0).toNat)) := by
          intro m' tt hlh hhn hhm hmc htt
          refine rep_seq_mk (by omega) (fun h => by have := htt h; omega) (fun h => ?_) (fun hpos => ?_)
          · split at h
            · have := hA h; omega
            · cases A with
              | none => have := hA rfl; omega
              | some a => cases h
          · obtain ⟨b, off, u, rfl, hk, hM, hru⟩ := hr (by omega)
            rw [if_neg (by omega)]
            refine ⟨b, off + (l.getD 0).toNat * sizeA P e, fun i j => u ((l.getD 0).toNat + i) j, by simp [add_lit], fun i hi => hk _ (by omega), fun i j hi hj => ?_, fun i j x hi hx => hru _ j x (by omega) hx⟩
            have := hM ((l.getD 0).toNat + i) j (by omega) hj
            rw [Nat.add_mul, Nat.add_assoc ((l.getD 0).toNat * sizeA P e), ← Nat.add_assoc off] at this
            exact this
        split at h
        · simp only [ORes.ifb.injEq, decide_eq_true_eq] at h
          obtain ⟨⟨h0, h1, h2⟩, rfl⟩ := h
          have hbo := sliceBounds_ok (P := P) (w := w) (isSlice := true) (n := n) (c := c) hc Hl Hh Hm h0 h1 (by simp; omega) (by simp) hmh'
          refine ⟨_, run A n c _ _ _ hbo, ?_⟩
          simp only [Option.getD_none, Int.toNat_natCast]
          refine fin c _ (by omega) (by omega) (by omega) (Nat.le_refl _) (fun htt => ?_)
          simp only [Bool.and_eq_true, decide_eq_true_eq] at htt
          have := ht htt.1
          omega
        · rename_i m
          simp only [ORes.ifb.injEq, decide_eq_true_eq] at h
          obtain ⟨⟨h0, h1, h2, h3⟩, rfl⟩ := h
          have hbo := sliceBounds_ok (P := P) (w := w) (isSlice := true) (n := n) (c := c) hc Hl Hh Hm h0 h1 (by simpa using h2) (by simp; omega) hmh'
          refine ⟨_, run A n c _ _ _ hbo, ?_⟩
          simp only [Option.getD_some]
          refine fin m.toNat _ (by omega) (by omega) (by omega) (by omega) (fun htt => ?_)
          simp only [decide_eq_true_eq] at htt
          omega
      · cases h
  · rename_i l hh hu hl hh' hm
    have Hl := optInt_sound hl hlo
    have Hh := optInt_sound hh' hhi
    have Hm := optInt_sound hm hmx
    split at h
    · rename_i s
      simp only [ORes.ifb.injEq, decide_eq_true_eq] at h
      obtain ⟨⟨h0, h1, h2⟩, rfl⟩ := h
      have := rep_lit hx
      subst this
      have hmv : mv = none := by rcases Hm with ⟨_, rfl⟩ | ⟨_, _, h, _⟩; rfl; cases h
      subst hmv
      have hbo := sliceBounds_ok (P := P) (w := w) (isSlice := false) (n := s.size) (c := s.size) (Nat.le_refl _) Hl Hh (.inl ⟨rfl, rfl⟩) h0 h1 (by simpa using h2) (by simp) (fun h => by cases h)
      refine ⟨_, ?_, .lit _⟩
      simp only [Instr.sliceAt, Instr.slice, Sem.run_bind, run_underlying hu, Result.andThen_ok, Option.isSome_none, Bool.false_eq_true, if_false, hbo, Sem.run_pure]
    · cases h
  · cases h

end
end Go.Fw
