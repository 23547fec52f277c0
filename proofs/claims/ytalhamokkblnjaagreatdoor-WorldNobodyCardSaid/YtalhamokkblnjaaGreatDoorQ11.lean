/-
  The evaluator of this claim, part 11: what it reckons is so of the program. No condition.
-/
import Derived.Test.YtalhamokkblnjaaGreatDoorQ10
import Derived.ScopeJumps
import Derived.Deep.LoopGhost
import Derived.Sort.LoopGhostIn
import Derived.Test.YtalhamokkblnjaaGreatDoorQ6
import Derived.Test.YtalhamokkblnjaaGreatDoorProg
import Derived.Shelf.Strings.Repeat
import Derived.KernelRfl

namespace Go.Fw
set_option linter.unusedSimpArgs false
set_option linter.unusedVariables false
open Go.RowKit

/-- What is checked of such a region; f, the allocation. -/
structure StatA (P : Program) (ow : Bool) (ops : Array Oper) (l : List (Oper × DrK)) (f d : Nat) (te : TypeId) (z : List AVal) : Prop where
  b : StatB ops l
  sched : ∀ (i : Nat) (o : Oper) (e : Edge), ops[i]? = some o → e ∈ o.after → Region.binds .any e = true → e.on < i
  effs : ∀ i j, i < j → i ≠ f → j ≠ f → isEff l i → isEff l j → Must ops j i
  effF : ∀ j, f < j → isEff l j → Must ops j f
  look : ∀ (i : Nat) (o : Oper) (j : Nat), ops[i]? = some o → i ≠ f → (lookB ops o).testBit d = true → j < f → isEff l j → Must ops i j
  flo : ∀ (i : Nat) (o : Oper) (lo hi : Nat), l[i]? = some (o, DrK.flo lo hi) → (lo = 0 ∨ 0 < lo ∧ isEff l (lo - 1) ∧ lo - 1 ≠ f ∧ Must ops i (lo - 1)) ∧ (ops.size ≤ hi ∨ isEff l hi ∧ hi ≠ f ∧ Must ops hi i)
  look0 : ∀ (i : Nat) (o : Oper), ops[i]? = some o → i < f → (lookB ops o).testBit d = false
  nofix : ∀ (i : Nat) (o : Oper), l[i]? ≠ some (o, DrK.fix)
  pure : ∀ (i : Nat) (o : Oper), l[i]? = some (o, DrK.pure) → kindO P ow o = 0
  alo : ∃ o, ops[f]? = some o ∧ l[f]? = some (o, DrK.eff) ∧ o.op = .alloc te ∧ o.guard = none ∧ o.dst = some d ∧ zeroA P te = some z

section
variable {P : Program} {call : CallF} {low : LowF} {ow : Bool} {nt : Nat} {F : Fence} {Y : Option YT} {ops : Array Oper} {l : List (Oper × DrK)} {tr : Nat → Tr × Objs} {K0 : Ctx} {f d : Nat} {te : TypeId} {z : List AVal}

theorem marks_unaside {K : Ctx} {b : Nat} {c : Array Value} {t : TypeId} {ds : List Deferred} (h : Marks K ds) (hB : K.B b = some (.cells c t)) : Marks ((K.unaside b).newObj b 1) ds := ⟨h.1, fun x hx => by
  obtain ⟨D, h1, h2, h3⟩ := h.2 x hx
  refine ⟨D, h1, ?_, h3⟩
  show (if D = b then none else K.B D) = _
  rw [if_neg (by rintro rfl; rw [hB] at h2; cases h2)]
  exact h2⟩

/-- What is looked at, told: then the operands are, and whether it runs. -/
theorem want_of {o : Oper} {gb : Bool} {K : Ctx} {a : Act} {t : Tr} (look : ∀ s, (lookB ops o).testBit s = true → Rep K (t.get s) (a.tmps.getD s undef)) (hg : gdT ops t o.guard = some gb) :
    (∀ x ∈ o.op.operands, Rep K (lookT t x) (a.eval x)) ∧ Region.wanted o (yielded ops a.tmps) = gb := by
  refine ⟨fun x hx => ?_, ?_⟩
  · cases x with
    | tmp s => exact look s (lookB_op hx)
    | const v => exact .lit v
    | global g => exact .any _
    | func f => exact .fn (.func f) [] [] [] [] rfl rfl (fun i x v h => by simp at h) (fun i x v h => by simp at h)
  · rw [gdT_eq] at hg
    unfold Region.wanted
    split at hg
    · rename_i e
      simp only [Option.some.injEq] at hg
      simp only [e, hg]
    · rename_i g e
      simp only [e]
      unfold guardT at hg
      split at hg
      · rename_i o' ho'
        split at hg
        · rename_i d hd
          have hs := look d (lookB_gd e ho' hd)
          split at hg
          · rename_i b' hb
            rw [hb] at hs
            have hv := rep_lit hs
            have hv : a.tmps[d]? = some (.bool b') := by
              rcases Nat.lt_or_ge d a.tmps.size with h' | h'
              · rw [Array.getElem?_eq_getElem h']; simpa [h'] using hv
              · simp [Array.getElem?_eq_none h', undef] at hv
            simp only [Option.some.injEq] at hg
            subst hg
            simp only [yielded, ho', hd, Option.bind_some, hv]
            cases b' <;> cases g.2 <;> rfl
          · rename_i vs hb
            rw [hb] at hs
            have hv := rep_lit hs
            simp only [Option.some.injEq] at hg
            subst hg
            simp only [yielded, ho', hd, Option.bind_some]
            rcases Nat.lt_or_ge d a.tmps.size with h' | h'
            · have hv : a.tmps[d]? = some (.tuple vs) := by rw [Array.getElem?_eq_getElem h']; simpa [h'] using hv
              simp only [hv]; rfl
            · simp only [Array.getElem?_eq_none h']; rfl
          · cases hg
        · cases hg
      · cases hg

/-- The allocation has run, and the text's order has not come to it. -/
structure PInv (nt : Nat) (ops : Array Oper) (l : List (Oper × DrK)) (tr : Nat → Tr × Objs) (K0 : Ctx) (f d : Nat) (te : TypeId) (z : List AVal) (S : Nat → Bool) (a : Act) (w : World) : Prop where
  closed : Closed ops S
  size : a.tmps.size = nt
  ran : S f = true
  mem : ∃ (K : Ctx) (p b : Nat) (c : Array Value), K0.le K ∧ Marks K a.defers ∧ p ≤ f ∧ (p = 0 ∨ ∃ q, p = q + 1 ∧ isEff l q) ∧ MemSat K (tr p).2 w ∧ (∀ j, isEff l j → j ≠ f → (S j = true ↔ j < p)) ∧
    K.B b = some (.cells c te) ∧ (∀ i, K.M b i = none) ∧ K0.B b = none ∧ (∀ u ∈ c.toList, u.oneCell' = true) ∧ z = c.toList.map .lit ∧ a.tmps.getD d undef = .pointer (some ⟨b, 0, none⟩) ∧
    (∀ j o t, ops[j]? = some o → o.dst = some t → S j = true → j ≠ f → Rep K ((tr ops.size).1.get t) (a.tmps.getD t undef)) ∧
    (∀ t, (∀ j o, ops[j]? = some o → o.dst = some t → S j = false) → Rep K ((tr 0).1.get t) (a.tmps.getD t undef)) ∧
    (∀ i o, ops[i]? = some o → i ≠ f → (lookB ops o).testBit d = true → S i = false)

/-- The text's order comes to the allocation. -/
theorem PInv.conv (ht : TraceD P F K0 nt ops l tr) (hst : StatA P ow ops l f d te z) (hf : (tr (f + 1)).2 = (tr f).2 ++ [(0, .row te z.length [z])]) (hv : (tr (f + 1)).1.get d = .any ∨ (tr (f + 1)).1.get d = .ptr (tr f).2.length 0 z.length 0 0)
    {S : Nat → Bool} {a : Act} {w : World} (h : PInv nt ops l tr K0 f d te z S a w) (hall : ∀ j, j < f → isEff l j → S j = true) : DInv2 nt ops l tr K0 S a w := by
  obtain ⟨K, p, b, c, hK, hmk, hp, hpos, hm, heff, hB, hM, h0, h1, hz, hd, hin, hout, hlk⟩ := h.mem
  obtain ⟨of, hof, hlf, hop, hgd, hdst, hza⟩ := hst.alo
  have hfs : f < ops.size := (Array.getElem?_eq_some_iff.1 hof).1
  have hob : (tr p).2 = (tr f).2 := (ht.objs hst.b f hp (by omega) fun j h1 h2 he => by
    have := (heff j he (by omega)).1 (hall j h2 he)
    omega).symm
  have hm2 := hm.unaside hB hM h1
  have hlen : (tr f).2.length = K.n := by rw [← hob]; exact hm.len
  have hzl : z.length = c.size := by rw [hz]; simp
  have hR := leR_unaside K b 1
  refine ⟨h.closed, h.size, (K.unaside b).newObj b 1, f + 1, le_unaside hK h0, marks_unaside hmk hB, by omega, .inr ⟨f, rfl, of, hlf⟩, ?_, fun j hj => ?_, fun j o t ho ht' hS => ?_, fun t hn => (hout t hn).monoR hR⟩
  · rw [hf, ← hob, hz]
    rw [hz] at hzl
    rw [hzl]
    exact hm2
  · by_cases e : j = f
    · subst e
      exact ⟨fun _ => Nat.lt_succ_self _, fun _ => h.ran⟩
    · rcases Nat.lt_or_ge j f with hlt | hge
      · exact ⟨fun _ => by omega, fun _ => hall j hlt hj⟩
      · refine ⟨fun hS => ?_, fun hlt => by omega⟩
        have := (heff j hj e).1 hS
        omega
  · by_cases e : j = f
    · subst e
      rw [hof] at ho
      simp only [Option.some.injEq] at ho
      subst ho
      rw [hdst] at ht'
      simp only [Option.some.injEq] at ht'
      subst ht'
      rw [ht.get hst.b (a := j + 1) (t := d) ops.size (by omega) (Nat.le_refl _) fun k o2 h1 h2 hk hd2 => ((hst.b.pair j k hfs h2) of o2 hof hk (by omega)).1 d hdst hd2]
      rcases hv with e | e
      · rw [e]; exact .any _
      · rw [e, hd]
        have := Rep.ptr (K := (K.unaside b).newObj b 1) (tr j).2.length 0 z.length 0 0 (by rw [hlen]; show K.n < K.n + 1; omega) (Nat.zero_le _)
        have e2 : ((K.unaside b).newObj b 1).ρ (tr j).2.length 0 = b := by rw [hlen]; exact if_pos rfl
        rw [e2] at this
        simpa using this
    · exact (hin j o t ho ht' hS e).monoR hR

/-- Either. -/
def AInv (nt : Nat) (ops : Array Oper) (l : List (Oper × DrK)) (tr : Nat → Tr × Objs) (K0 : Ctx) (f d : Nat) (te : TypeId) (z : List AVal) (S : Nat → Bool) (a : Act) (w : World) : Prop := DInv2 nt ops l tr K0 S a w ∨ PInv nt ops l tr K0 f d te z S a w

theorem closed_add {S : Nat → Bool} {i : Nat} {o : Oper} (h : Closed ops S) (ho : ops[i]? = some o) (hready : ∀ e ∈ o.after, Region.binds .any e = true → S e.on = true) : Closed ops (fun k => S k || Nat.beq k i) := by
  intro k o' e hk ho' he hb
  simp only [Bool.or_eq_true] at hk ⊢
  rcases hk with hk | hk
  · exact .inl (h k o' e hk ho' he hb)
  · have := Nat.eq_of_beq_eq_true hk
    subst this
    rw [ho] at ho'
    simp only [Option.some.injEq] at ho'
    subst ho'
    exact .inl (hready e he hb)

theorem AInv.step (ht : TraceD P F K0 nt ops l tr) (hst : StatA P ow ops l f d te z) (hF : OpLift F P) (hf : (tr (f + 1)).2 = (tr f).2 ++ [(0, .row te z.length [z])]) (hv : (tr (f + 1)).1.get d = .any ∨ (tr (f + 1)).1.get d = .ptr (tr f).2.length 0 z.length 0 0)
    {S : Nat → Bool} {a : Act} {w : World} {i : Nat} {o : Oper} {Q : Exit → Act → World → Prop} {next : Act → World → Prop} (h : AInv nt ops l tr K0 f d te z S a w)
    (ho : ops[i]? = some o) (hSi : S i = false) (hready : ∀ e ∈ o.after, Region.binds .any e = true → S e.on = true) (hn : ∀ a w, AInv nt ops l tr K0 f d te z (fun k => S k || Nat.beq k i) a w → next a w) :
    if Region.wanted o (yielded ops a.tmps) then o.wpIn F 0 P a w next Q else (∀ f, o.about P w a.eval = some f → F.fn f) ∧ next (a.put o.dst undef) w := by
  have hi : i < ops.size := (Array.getElem?_eq_some_iff.1 ho).1
  obtain ⟨of, hof, hlf, hopf, hgdf, hdstf, hza⟩ := hst.alo
  have hfs : f < ops.size := (Array.getElem?_eq_some_iff.1 hof).1
  have hef : isEff l f := ⟨of, hlf⟩
  have hcl : Closed ops S := h.elim (fun h => h.closed) (fun h => h.closed)
  have hS' := closed_add hcl ho hready
  have before : ∀ j, Must ops i j → j ≠ i → S j = true := fun j hj hne => by
    have := hj _ hS' (by simp)
    simp only [Bool.or_eq_true] at this
    exact this.resolve_right fun hb => hne (Nat.eq_of_beq_eq_true hb)
  have after' : ∀ j, Must ops j i → S j = false := fun j hj => by
    cases hS : S j with
    | false => rfl
    | true => have := hj S hcl hS; rw [hSi] at this; cases this
  have hflo : ∀ lo hi, l[i]? = some (o, DrK.flo lo hi) → (lo = 0 ∨ 0 < lo ∧ isEff l (lo - 1) ∧ Must ops i (lo - 1)) ∧ (ops.size ≤ hi ∨ isEff l hi ∧ Must ops hi i) := fun lo hi hl => by
    obtain ⟨q1, q2⟩ := hst.flo i o lo hi hl
    exact ⟨q1.imp id fun q => ⟨q.1, q.2.1, q.2.2.2⟩, q2.imp id fun q => ⟨q.1, q.2.2⟩⟩
  -- from a plain state, but for an early allocation
  have plain : DInv2 nt ops l tr K0 S a w → (i = f → ∀ j, j < f → isEff l j → S j = true) →
      if Region.wanted o (yielded ops a.tmps) then o.wpIn F 0 P a w next Q else (∀ f, o.about P w a.eval = some f → F.fn f) ∧ next (a.put o.dst undef) w := by
    intro hD hif
    refine hD.step ht hst.b hF ho hSi hready (fun hx j hj => ?_) hflo fun a' w' hd => hn a' w' (.inl hd)
    rcases hx with hx | hx
    · by_cases e : i = f
      · subst e
        exact ⟨fun hlt => hif rfl j hlt hj, fun hlt => after' j (hst.effF j hlt hj)⟩
      · by_cases ej : j = f
        · subst ej
          refine ⟨fun hlt => before j (hst.effF i hlt hx) (by omega), fun hlt => ?_⟩
          obtain ⟨K, p, _, _, _, _, _, heff, _⟩ := hD.mem
          cases hS : S j with
          | false => rfl
          | true =>
            have h1 := (heff j hj).1 hS
            have h2 := (heff i hx).2 (by omega)
            rw [hSi] at h2; cases h2
        · exact ⟨fun hlt => before j (hst.effs j i hlt ej e hj hx) (by omega), fun hlt => after' j (hst.effs i j hlt e ej hx hj)⟩
    · exact absurd hx (hst.nofix i o)
  rcases h with hD | hP
  · by_cases hearly : i = f ∧ ¬ ∀ j, j < f → isEff l j → S j = true
    · -- an early allocation
      obtain ⟨rfl, _⟩ := hearly
      rw [hof] at ho
      simp only [Option.some.injEq] at ho
      subst ho
      have hw : Region.wanted of (yielded ops a.tmps) = true := by simp [Region.wanted, hgdf]
      rw [if_pos hw]
      obtain ⟨K, p, hK, hmk, hp, hpos, hm, heff, hin, hout⟩ := hD.mem
      obtain ⟨ti, zv, hi1, hz0, hz1, hz2, hz3⟩ := zeroA_some hza
      have hrun : (execOp a.eval of).run P w = .ok (.value (.pointer (some ⟨w.heap.size, 0, none⟩))) (w.alloc (.cells zv.cells te)) := by
        simp [execOp, hopf, Instr.alloc, zeroValue, typeInfo, hi1, hz0, newVar, newRow]
      refine hF.op of a w _ Q (fun c e => by rw [hopf] at e; cases e) ?_
      unfold Oper.wp
      rw [hrun]
      obtain ⟨hB, hma⟩ := hm.asideAlloc zv.cells te
      have hle := le_aside (x := Obj.cells zv.cells te) hB
      have hpf : p ≤ i := by
        rcases Nat.lt_or_ge i p with h' | h'
        · have := (heff i hef).2 h'
          rw [hSi] at this; cases this
        · exact h'
      refine hn _ _ (.inr ⟨hS', by rw [hdstf]; simpa [Act.put] using hD.size, by simp, ?_⟩)
      have hlt : d < a.tmps.size := by
        obtain ⟨gb, v, _, hput, _⟩ := ht.step i of .eff hlf
        rw [putT_eq, hdstf] at hput
        simp only at hput
        split at hput
        · rename_i hb
          rw [hD.size]; simpa using hb
        · cases hput
      have keep : ∀ t, t ≠ d → (a.put of.dst (.pointer (some ⟨w.heap.size, 0, none⟩))).tmps.getD t undef = a.tmps.getD t undef := fun t hne => by
        simp [Act.put, hdstf, Array.getElem?_setIfInBounds_ne (Ne.symm hne)]
      have hdf : (a.put of.dst (.pointer (some ⟨w.heap.size, 0, none⟩))).defers = a.defers := by simp [Act.put, hdstf]
      refine ⟨K.aside w.heap.size (.cells zv.cells te), p, w.heap.size, zv.cells, hK.trans hle, by rw [hdf]; exact hmk.mono hle, hpf, hpos, hma, fun j hj hne => ?_, ?_, fun q => hm.noM q, ?_, hz2, hz1, ?_, fun j o2 t hoj hdj hSj hne => ?_, fun t hnt => ?_, fun j o2 hoj hne hlk => ?_⟩
      · rw [← heff j hj, Bool.or_eq_true]
        refine ⟨fun h => h.resolve_right fun hb => hne (Nat.eq_of_beq_eq_true hb), .inl⟩
      · show (if w.heap.size = w.heap.size then _ else _) = _
        rw [if_pos rfl]
      · cases hb : K0.B w.heap.size with
        | none => rfl
        | some x => have := hK.B _ _ hb; rw [hB] at this; cases this
      · simp [Act.put, hdstf, hlt]
      · have htd : t ≠ d := fun e => by
          subst e
          have hj : j < ops.size := (Array.getElem?_eq_some_iff.1 hoj).1
          exact ((hst.b.pair i j hfs hj) of o2 hof hoj (by omega)).1 t hdstf hdj
        rw [keep t htd]
        simp only [Bool.or_eq_true] at hSj
        exact (hin j o2 t hoj hdj (hSj.resolve_right fun hb => hne (Nat.eq_of_beq_eq_true hb))).mono hle
      · have htd : t ≠ d := fun e => by
          have := hnt i of hof (by rw [hdstf, e])
          simp at this
        rw [keep t htd]
        refine (hout t fun j o2 hoj hdj => ?_).mono hle
        have := hnt j o2 hoj hdj
        simp only [Bool.or_eq_false_iff] at this
        exact this.1
      · have hj : j < ops.size := (Array.getElem?_eq_some_iff.1 hoj).1
        have hM : Must ops j i := (((hst.b.pair j i hj hfs) o2 of hoj hof hne).2 d hlk hdstf).elim (fun h => h.2) (fun h => by rw [hst.look0 j o2 hoj h.1] at hlk; cases hlk)
        show (S j || Nat.beq j i) = false
        have hb : Nat.beq j i = false := by
          cases hb : Nat.beq j i with
          | false => rfl
          | true => exact absurd (Nat.eq_of_beq_eq_true hb) hne
        rw [after' j hM, hb]; rfl
    · exact plain hD fun e => Classical.not_not.1 fun hh => hearly ⟨e, hh⟩
  · have hne : i ≠ f := fun e => by rw [e, hP.ran] at hSi; cases hSi
    by_cases hconv : (lookB ops o).testBit d = true ∨ isEff l i ∧ f < i
    · -- the text's order has come to it
      refine plain (hP.conv ht hst hf hv fun j hj he => ?_) fun e => absurd e hne
      rcases hconv with hc | ⟨he2, hlt⟩
      · exact before j (hst.look i o j ho hne hc hj he) (fun e => by
          subst e
          obtain ⟨K, p, b, c, _, _, hp, _, _, heff, _⟩ := hP.mem
          have hM := hst.look j o j ho hne hc hj he
          have h3 := hst.look0 j o ho hj
          rw [h3] at hc; cases hc)
      · exact before j (hst.effs j i (by omega) (by omega) hne he he2) (by omega)
    · have hnl : (lookB ops o).testBit d = false := by
        cases hb : (lookB ops o).testBit d with
        | false => rfl
        | true => exact absurd (.inl hb) hconv
      have hnlt : isEff l i → i < f := fun he => by
        rcases Nat.lt_or_ge f i with h' | h'
        · exact absurd (.inr ⟨he, h'⟩) hconv
        · omega
      obtain ⟨K, p, b, c, hK, hmk, hp, hpos, hm, heff, hB, hM, h0, h1, hz, hd, hin, hout, hlk⟩ := hP.mem
      obtain ⟨⟨o1, dk⟩, hl⟩ : ∃ x, l[i]? = some x := ⟨_, List.getElem?_eq_getElem (by rw [hst.b.len]; exact hi)⟩
      have e1 := hst.b.op i o1 dk hl
      rw [ho] at e1
      simp only [Option.some.injEq] at e1
      subst e1
      obtain ⟨gb, v, hg, hput, hobj, hgf, hgt⟩ := ht.step i o dk hl
      -- what it looks at
      have look : ∀ t, (lookB ops o).testBit t = true → Rep K ((tr i).1.get t) (a.tmps.getD t undef) := by
        intro t htl
        have htd : t ≠ d := fun e => by rw [e, hnl] at htl; cases htl
        by_cases hw : ∃ (j : Nat) (o' : Oper), j < i ∧ ops[j]? = some o' ∧ o'.dst = some t
        · obtain ⟨j, o', hj, hoj, hdj⟩ := hw
          have hM : Must ops i j := (((hst.b.pair i j hi (by omega)) o o' ho hoj (by omega)).2 t htl hdj).elim (fun h => h.2) (fun h => by omega)
          have hSj := before j hM (by omega)
          have hjf : j ≠ f := fun e => by
            subst e
            rw [hof] at hoj
            simp only [Option.some.injEq] at hoj
            subst hoj
            rw [hdstf] at hdj
            exact htd (Option.some.inj hdj).symm
          rw [← ht.get hst.b (a := i) (t := t) ops.size (by omega) (Nat.le_refl _) fun k o2 h1 h2 hk hd => ?_]
          · exact hin j o' t hoj hdj hSj hjf
          · exact ((hst.b.pair j k (by omega) h2) o' o2 hoj hk (by omega)).1 t hdj hd
        · rw [ht.get hst.b (a := 0) (t := t) i (Nat.zero_le _) (by omega) fun k o2 _ h2 hk hd => hw ⟨k, o2, h2, hk, hd⟩]
          refine hout t fun j o' hoj hdj => ?_
          rcases Nat.lt_trichotomy j i with hlt | rfl | hgt
          · exact absurd ⟨j, o', hlt, hoj, hdj⟩ hw
          · exact hSi
          · have hj : j < ops.size := (Array.getElem?_eq_some_iff.1 hoj).1
            exact (((hst.b.pair i j hi hj) o o' ho hoj (by omega)).2 t htl hdj).elim (fun h => by omega) (fun h => after' j h.2)
      obtain ⟨opnd, hwant⟩ := want_of look hg
      have slots : ∀ (K' : Ctx) (u : Value) (w' : World) (p' : Nat), K.le K' → p' ≤ f → (p' = 0 ∨ ∃ q, p' = q + 1 ∧ isEff l q) → MemSat K' (tr p').2 w' → (∀ j, isEff l j → j ≠ f → ((S j || Nat.beq j i) = true ↔ j < p')) → Rep K' v u →
          PInv nt ops l tr K0 f d te z (fun k => S k || Nat.beq k i) (a.put o.dst u) w' := by
        intro K' u w' p' hle hp' hpos' hm' heff' hr
        have hdd : o.dst ≠ some d := fun e => ((hst.b.pair f i hfs hi) of o hof ho (Ne.symm hne)).1 d hdstf e
        have hsz : (a.put o.dst u).tmps.size = nt := by
          cases hd : o.dst with
          | none => exact hP.size
          | some d => simpa [Act.put] using hP.size
        have hdf : (a.put o.dst u).defers = a.defers := by cases hd : o.dst <;> simp [Act.put]
        have keep : ∀ t, o.dst ≠ some t → (a.put o.dst u).tmps.getD t undef = a.tmps.getD t undef := by
          intro t hnt
          cases hd : o.dst with
          | none => rfl
          | some d' =>
            have : d' ≠ t := fun e => hnt (by rw [hd, e])
            simp [Act.put, Array.getElem?_setIfInBounds_ne this]
        have atD : ∀ d', o.dst = some d' → Rep K' ((tr ops.size).1.get d') ((a.put o.dst u).tmps.getD d' undef) := by
          intro d' hd'
          rw [ht.get hst.b (a := i + 1) (t := d') ops.size (by omega) (Nat.le_refl _) fun k o2 h1 h2 hk hd2 => ((hst.b.pair i k hi h2) o o2 ho hk (by omega)).1 d' hd' hd2]
          rw [putT_eq] at hput
          rw [hd'] at hput
          simp only at hput
          split at hput
          · rename_i hlt
            simp only [R2.ok.injEq] at hput
            rw [← hput.1]
            have hlt : d' < a.tmps.size := by rw [hP.size]; simpa using hlt
            have e : (a.put o.dst u).tmps.getD d' undef = u := by simp [Act.put, hd', hlt]
            rw [e]
            rcases (Tr.get_put v (tr i).1 d' d').2 with e2 | e2
            · rw [e2]; exact hr
            · rw [e2]; exact .any _
          · cases hput
        refine ⟨hS', hsz, by simp [hP.ran], K', p', b, c, hK.trans hle, by rw [hdf]; exact hmk.mono hle, hp', hpos', hm', heff', hle.B _ _ hB, fun q => (hle.M0 b q _ hB).trans (hM q), h0, h1, hz, by rw [keep d hdd]; exact hd, fun j o' t hoj hdj hSj hjf => ?_, fun t htn => ?_, fun j o' hoj hjf hlj => ?_⟩
        · by_cases hd : o.dst = some t
          · exact atD t hd
          · rw [keep t hd]
            simp only [Bool.or_eq_true] at hSj
            rcases hSj with hSj | hSj
            · exact (hin j o' t hoj hdj hSj hjf).mono hle
            · have := Nat.eq_of_beq_eq_true hSj
              subst this
              rw [ho] at hoj
              simp only [Option.some.injEq] at hoj
              subst hoj
              exact absurd hdj hd
        · have hnt : o.dst ≠ some t := fun e => by
            have := htn i o ho e
            simp at this
          rw [keep t hnt]
          refine (hout t fun j o' hoj hdj => ?_).mono hle
          have := htn j o' hoj hdj
          simp only [Bool.or_eq_false_iff] at this
          exact this.1
        · show (S j || Nat.beq j i) = false
          have hb : Nat.beq j i = false := by
            cases hb : Nat.beq j i with
            | false => rfl
            | true =>
              have := Nat.eq_of_beq_eq_true hb
              subst this
              rw [ho] at hoj
              simp only [Option.some.injEq] at hoj
              subst hoj
              rw [hnl] at hlj; cases hlj
          rw [hlk j o' hoj hjf hlj, hb]; rfl
      have ordE : isEff l i → ∀ j, isEff l j → j ≠ f → (j < i → S j = true) ∧ (i < j → S j = false) := fun he j hj hjf =>
        ⟨fun hlt => before j (hst.effs j i hlt hjf hne hj he) (by omega), fun hlt => after' j (hst.effs i j hlt hne hjf he hj)⟩
      have here : isEff l i → (tr p).2 = (tr i).2 := by
        intro he
        have hif := hnlt he
        have no1 : ∀ j, i ≤ j → j < p → ¬ isEff l j := fun j h1 h2 hj => by
          have hS := (heff j hj (by omega)).2 h2
          rcases Nat.lt_or_ge i j with h' | h'
          · rw [(ordE he j hj (by omega)).2 h'] at hS; cases hS
          · have : j = i := by omega
            subst this
            rw [hSi] at hS; cases hS
        have no2 : ∀ j, p ≤ j → j < i → ¬ isEff l j := fun j h1 h2 hj => by
          have := (heff j hj (by omega)).1 ((ordE he j hj (by omega)).1 h2)
          omega
        rcases Nat.le_total p i with hle | hle
        · exact (ht.objs hst.b i hle (by omega) no2).symm
        · exact ht.objs hst.b p hle (by omega) no1
      have stay : ¬ isEff l i → ∀ j, isEff l j → j ≠ f → ((S j || Nat.beq j i) = true ↔ j < p) := by
        intro hni j hj hjf
        rw [← heff j hj hjf, Bool.or_eq_true]
        refine ⟨fun h => h.resolve_right fun hb => hni ?_, .inl⟩
        rw [← Nat.eq_of_beq_eq_true hb]; exact hj
      have move : isEff l i → ∀ j, isEff l j → j ≠ f → ((S j || Nat.beq j i) = true ↔ j < i + 1) := by
        intro he j hj hjf
        rw [Bool.or_eq_true]
        constructor
        · rintro (hS | hb)
          · rcases Nat.lt_or_ge i j with h' | h'
            · rw [(ordE he j hj hjf).2 h'] at hS; cases hS
            · omega
          · have := Nat.eq_of_beq_eq_true hb; omega
        · intro hlt
          by_cases e : j = i
          · subst e; exact .inr (Nat.beq_refl _)
          · exact .inl ((ordE he j hj hjf).1 (by omega))
      have effI : dk = .eff → isEff l i := fun e => ⟨o, by rw [hl, e]⟩
      have notI : dk ≠ .eff → ¬ isEff l i := fun hne ⟨o', h'⟩ => hne (by rw [hl] at h'; simp only [Option.some.injEq, Prod.mk.injEq] at h'; exact h'.2)
      cases gb with
      | false =>
        rw [if_neg (by rw [hwant]; simp)]
        obtain ⟨q1, rfl⟩ := hgf rfl
        refine ⟨fun f _ => hF.fn f, hn _ _ (.inr ?_)⟩
        by_cases hk : dk = .eff
        · have he := effI hk
          have hm2 : MemSat K (tr (i + 1)).2 w := by rw [q1, ← here he]; exact hm
          exact slots K undef w (i + 1) (.refl K) (by have := hnlt he; omega) (.inr ⟨i, rfl, he⟩) hm2 (move he) (.lit undef)
        · exact slots K undef w p (.refl K) hp hpos hm (stay (notI hk)) (.lit undef)
      | true =>
        rw [if_pos hwant]
        obtain ⟨g1, g2, g3, g4⟩ := hgt rfl
        have fin : dk ≠ .eff → GivesV P F K0 (lookT (tr i).1) (tr p).2 o v (tr p).2 → o.wpIn F 0 P a w next Q := fun hne hgv =>
          hgv K a w next Q hK hm opnd fun u w' K' h1 h2 h3 => hn _ _ (.inr (slots K' u w' p h1 hp hpos h2 (stay (notI hne)) h3))
        cases dk with
        | eff =>
          have he := effI rfl
          have hm2 : MemSat K (tr i).2 w := by rw [← here he]; exact hm
          exact g1 rfl K a w next Q hK hm2 opnd fun u w' K' h1 h2 h3 => hn _ _ (.inr (slots K' u w' (i + 1) h1 (by have := hnlt he; omega) (.inr ⟨i, rfl, he⟩) h2 (move he) h3))
        | pure => exact fin (by simp) (g3 rfl _)
        | fix => exact absurd hl (hst.nofix i o)
        | flo lo hi =>
          refine fin (by simp) (g4 lo hi rfl p hpos ?_ ?_)
          · rcases (hst.flo i o lo hi hl).1 with rfl | ⟨h1, h2, h3, h4⟩
            · exact Nat.zero_le _
            · have := (heff _ h2 h3).1 (before _ h4 fun e => notI (by simp) (by rw [← e]; exact h2))
              omega
          · rcases (hst.flo i o lo hi hl).2 with h1 | ⟨h1, h3, h2⟩
            · omega
            · rcases Nat.lt_or_ge hi p with h' | h'
              · have := (heff _ h1 h3).2 h'
                rw [after' hi h2] at this; cases this
              · exact h'

end
end Go.Fw

namespace Go.Fw
set_option linter.unusedSimpArgs false
set_option linter.unusedVariables false
open Go.RowKit

def mbA (la : List (Oper × Nat)) (i j : Nat) : Bool := match la[i]? with | some (_, m) => hasB m j | none => false

def knA (P : Program) (ow : Bool) (ops : Array Oper) (i : Nat) : Nat := match ops[i]? with | some o => kindO P ow o | none => 0

def wrA (P : Program) (ow : Bool) (ops : Array Oper) (i : Nat) : Bool := Nat.beq (knA P ow ops i) 1 || Nat.beq (knA P ow ops i) 2

def allocAt (ops : Array Oper) (i : Nat) : Option (TypeId × Nat) :=
  match ops[i]? with
  | some o => (match o.op with | .alloc te => (match o.guard, o.dst with | none, some d => some (te, d) | _, _ => none) | _ => none)
  | none => none

/-- The allocation that floats. -/
def aloOf (P : Program) (ow : Bool) (ops : Array Oper) (la : List (Oper × Nat)) : Option Nat :=
  (List.range ops.size).find? fun f => (allocAt ops f).isSome && (List.range ops.size).any fun c => !Nat.beq c f && (wrA P ow ops c && (!mbA la f c && !mbA la c f))

def efA (P : Program) (ow : Bool) (ops : Array Oper) (la : List (Oper × Nat)) (f i : Nat) : Bool :=
  Nat.beq i f || (Nat.beq (knA P ow ops i) 1 || (Nat.beq (knA P ow ops i) 2 && (List.range ops.size).all fun c => Nat.beq c i || (Nat.beq c f || (!wrA P ow ops c || (mbA la i c || mbA la c i)))))

def tagA (P : Program) (ow : Bool) (ops : Array Oper) (la : List (Oper × Nat)) (f i : Nat) : DrK :=
  match efA P ow ops la f i with
  | true => .eff
  | false =>
    match knA P ow ops i with
    | 0 => .pure
    | _ + 1 => .flo (match (List.range i).reverse.find? fun j => efA P ow ops la f j && (!Nat.beq j f && mbA la i j) with | some j => j + 1 | none => 0)
      (match (List.range ops.size).find? fun j => Nat.blt i j && (efA P ow ops la f j && (!Nat.beq j f && mbA la j i)) with | some j => j | none => ops.size)

def effB (l : List (Oper × DrK)) (i : Nat) : Bool := match l[i]? with | some (_, k) => isEffK k | none => false

def okA (P : Program) (ow : Bool) (ops : Array Oper) (la : List (Oper × Nat)) (f d : Nat) (l : List (Oper × DrK)) : Bool :=
  ((List.range ops.size).all fun i => (List.range ops.size).all fun j => !(Nat.blt i j && (effB l i && (effB l j && (!Nat.beq i f && !Nat.beq j f)))) || mbA la j i) &&
  (((List.range ops.size).all fun j => !(Nat.blt f j && effB l j) || mbA la j f) &&
  (((List.range ops.size).all fun i => match ops[i]? with | some o => Nat.beq i f || (!hasB (lookB ops o) d || (Nat.blt f i && (List.range f).all fun j => !effB l j || mbA la i j)) | none => true) &&
  ((List.range ops.size).all fun i => match l[i]? with
    | some (o, k) => (match k with
      | .pure => Nat.beq (kindO P ow o) 0
      | .eff => true
      | .fix => false
      | .flo lo hi => (Nat.beq lo 0 || (effB l (lo - 1) && (!Nat.beq (lo - 1) f && mbA la i (lo - 1)))) && (Nat.ble ops.size hi || (effB l hi && (!Nat.beq hi f && mbA la hi i))))
    | none => true)))

def statA (P : Program) (ow : Bool) (ops : Array Oper) : Option (Nat × List (Oper × DrK)) :=
  match stA ops 0 ops.toList [] 0 0 [] with
  | none => none
  | some la =>
    match aloOf P ow ops la with
    | none => none
    | some f =>
      match allocAt ops f with
      | none => none
      | some (te, d) =>
        match zeroA P te with
        | none => none
        | some _ => match effB (ops.toList.zip ((List.range ops.size).map (tagA P ow ops la f))) f && okA P ow ops la f d (ops.toList.zip ((List.range ops.size).map (tagA P ow ops la f))) with | true => some (f, ops.toList.zip ((List.range ops.size).map (tagA P ow ops la f))) | false => none

noncomputable def aloT (P : Program) (call : CallF) (low : LowF) (ow : Bool) (nt : Nat) (Y : Option YT) (ops : Array Oper) (t : Tr) (o : Objs) : Option R2 :=
  match P.follows .mixedOrders with
  | true => (match statA P ow ops with | some (_, l) => some (runD P call low ow nt Y ops l 0 t o [(0, o)] []) | none => none)
  | false => none

section
variable {P : Program} {call : CallF} {low : LowF} {ow : Bool} {nt : Nat} {F : Fence} {Y : Option YT} {ops : Array Oper} {l : List (Oper × DrK)} {tr : Nat → Tr × Objs} {K0 : Ctx} {f d : Nat} {te : TypeId} {z : List AVal}

theorem effB_iff {i : Nat} : effB l i = true ↔ isEff l i := by
  unfold effB isEff
  cases h : l[i]? with
  | none => simp
  | some p =>
    obtain ⟨o, k⟩ := p
    cases k <;> simp [isEffK]

theorem effB_lt (hl : l.length = ops.size) {i : Nat} (h : isEff l i) : i < ops.size := by
  obtain ⟨o, ho⟩ := h
  have := (List.getElem?_eq_some_iff.1 ho).1
  omega

theorem statA_ok (h : statA P ow ops = some (f, l)) : ∃ d te z, StatA P ow ops l f d te z := by
  unfold statA at h
  split at h
  · cases h
  · rename_i la ha
    split at h
    · cases h
    · rename_i f' hfo
      split at h
      · cases h
      · rename_i te d hal
        split at h
        · cases h
        · rename_i z hz
          split at h
          · rename_i hb
            simp only [Option.some.injEq, Prod.mk.injEq] at h
            obtain ⟨rfl, rfl⟩ := h
            generalize hlz : ops.toList.zip ((List.range ops.size).map (tagA P ow ops la f')) = l at hb
            obtain ⟨p1, p2, p3⟩ := stA_ok ops.toList 0 [] 0 0 [] la rfl (Nat.zero_le _) ⟨rfl, fun k hk => by omega, fun k hk => by omega⟩ (fun j o d hj => by omega) (fun j o t hj => by omega) (fun j o hj => by omega) (fun j k hj => by omega) ha
            have p2 : la.length = ops.size := by rw [p2]; simp
            have must : ∀ {i j : Nat}, mbA la i j = true → Must ops i j := fun {i j} h => by
              unfold mbA at h
              split at h
              · rename_i o m hm
                rw [hasB_iff] at h
                have := (p3 i o m hm).2.1 j h
                rw [Nat.zero_add] at this
                exact this
              · cases h
            have hlen : l.length = ops.size := by rw [← hlz]; simp
            have hop : ∀ (i : Nat) (o : Oper) (dk : DrK), l[i]? = some (o, dk) → ops[i]? = some o := fun i o dk hi => by
              rw [← hlz, List.getElem?_zip_eq_some] at hi
              simpa using hi.1
            rw [Bool.and_eq_true] at hb
            obtain ⟨hbf, hb⟩ := hb
            simp only [okA, Bool.and_eq_true, List.all_eq_true, List.mem_range] at hb
            obtain ⟨c1, c2, c3, c4⟩ := hb
            refine ⟨d, te, z, ⟨hlen, hop, p1⟩, fun i o e ho he hb => ?_, fun i j hij hif hjf hi hj => ?_, fun j hlt hj => ?_, fun i o j ho hif hlk hj he => ?_, fun i o lo hi hk => ?_, fun i o ho hif => ?_, fun i o hk => ?_, fun i o hk => ?_, ?_⟩
            · have hi : i < la.length := by rw [p2]; exact (Array.getElem?_eq_some_iff.1 ho).1
              obtain ⟨⟨o1, m1⟩, h1⟩ : ∃ x, la[i]? = some x := ⟨_, List.getElem?_eq_getElem hi⟩
              obtain ⟨r1, _, r3⟩ := p3 i o1 m1 h1
              rw [Nat.zero_add] at r1 r3
              rw [ho] at r1
              simp only [Option.some.injEq] at r1
              subst r1
              exact r3 e he hb
            · have h1 := c1 i (effB_lt hlen hi) j (effB_lt hlen hj)
              have b1 : Nat.beq i f' = false := by cases hb : Nat.beq i f' with | false => rfl | true => exact absurd (Nat.eq_of_beq_eq_true hb) hif
              have b2 : Nat.beq j f' = false := by cases hb : Nat.beq j f' with | false => rfl | true => exact absurd (Nat.eq_of_beq_eq_true hb) hjf
              have b3 : Nat.blt i j = true := by simpa using hij
              rw [effB_iff.2 hi, effB_iff.2 hj, b1, b2, b3] at h1
              exact must (by simpa using h1)
            · have h1 := c2 j (effB_lt hlen hj)
              have b3 : Nat.blt f' j = true := by simpa using hlt
              rw [effB_iff.2 hj, b3] at h1
              exact must (by simpa using h1)
            · have h1 := c3 i (Array.getElem?_eq_some_iff.1 ho).1
              simp only [ho] at h1
              have b1 : Nat.beq i f' = false := by cases hb : Nat.beq i f' with | false => rfl | true => exact absurd (Nat.eq_of_beq_eq_true hb) hif
              rw [b1, hasB_iff, hlk] at h1
              simp only [Bool.not_true, Bool.false_or, Bool.and_eq_true, List.all_eq_true, List.mem_range] at h1
              have := h1.2 j hj
              rw [effB_iff.2 he] at this
              exact must (by simpa using this)
            · have hi' : i < ops.size := by have := (List.getElem?_eq_some_iff.1 hk).1; omega
              have h1 := c4 i hi'
              simp only [hk, Bool.and_eq_true, Bool.or_eq_true, Bool.not_eq_true'] at h1
              obtain ⟨q1, q2⟩ := h1
              constructor
              · rcases q1 with q1 | ⟨q1, q3, q4⟩
                · exact .inl (Nat.eq_of_beq_eq_true q1)
                · by_cases e : lo = 0
                  · exact .inl e
                  · exact .inr ⟨by omega, effB_iff.1 q1, fun e => (by rw [e, Nat.beq_refl] at q3; cases q3), must q4⟩
              · rcases q2 with q2 | ⟨q2, q3, q4⟩
                · exact .inl (Nat.le_of_ble_eq_true q2)
                · exact .inr ⟨effB_iff.1 q2, fun e => (by rw [e, Nat.beq_refl] at q3; cases q3), must q4⟩
            · cases hb : (lookB ops o).testBit d with
              | false => rfl
              | true =>
                have h1 := c3 i (Array.getElem?_eq_some_iff.1 ho).1
                simp only [ho] at h1
                have b1 : Nat.beq i f' = false := by cases hb : Nat.beq i f' with | false => rfl | true => exact absurd (Nat.eq_of_beq_eq_true hb) (by omega)
                rw [b1, hasB_iff, hb] at h1
                simp only [Bool.not_true, Bool.false_or, Bool.and_eq_true, Nat.blt_eq] at h1
                omega
            · have hi' : i < ops.size := by have := (List.getElem?_eq_some_iff.1 hk).1; omega
              have h1 := c4 i hi'
              simp [hk] at h1
            · have hi' : i < ops.size := by have := (List.getElem?_eq_some_iff.1 hk).1; omega
              have h1 := c4 i hi'
              simp only [hk] at h1
              exact Nat.eq_of_beq_eq_true h1
            · obtain ⟨o, ho⟩ := effB_iff.1 hbf
              have ho2 := hop f' o _ ho
              unfold allocAt at hal
              simp only [ho2] at hal
              split at hal
              · rename_i te' hop'
                split at hal
                · rename_i hg hd'
                  simp only [Option.some.injEq, Prod.mk.injEq] at hal
                  obtain ⟨rfl, rfl⟩ := hal
                  exact ⟨o, ho2, ho, hop', hg, hd', hz⟩
                · cases hal
              · cases hal
          · cases h

theorem trace_ofA (hc : GoodCall P call) (hlow : GoodLow P low) (hF : OpLift F P) (hY : YGood P F K0 Y) (hst : StatA P ow ops l f d te z) {Bs : List (Nat × Objs)} {Rd : List (Nat × Nat × (Objs → Bool))} (hfin : finR Bs Rd = true) (h0 : (0, (tr 0).2) ∈ Bs)
    (h : ∀ (k : Nat) (op : Oper) (dk : DrK), l[k]? = some (op, dk) → RawStep P call low ow nt Y ops (tr k) (tr (k + 1)) Bs Rd k op dk) : TraceD P F K0 nt ops l tr := by
  refine ⟨fun i o dk hl => ?_⟩
  obtain ⟨gb, v, h1, h2, h3, _, h5, h6⟩ := h i o dk hl
  refine ⟨gb, v, h1, h2, h3, h5, fun hb => ?_⟩
  have h6 := h6 hb
  refine ⟨fun e => ?_, fun e => ?_, fun e ob => ?_, fun lo hi e p hp q1 q2 => ?_⟩
  · subst e; exact stepV_sound hc hF hY h6
  · subst e; exact readV_gives hlow hF h6
  · subst e; exact pureV_gives hF (hst.pure i o hl) h6 ob
  · subst e
    have hmem : (p, (tr p).2) ∈ Bs := by
      rcases hp with rfl | ⟨q, rfl, o', hq⟩
      · exact h0
      · obtain ⟨_, _, _, _, _, r4, _⟩ := h q o' .eff hq
        exact r4 rfl
    have hr := chkR_mem (finR_mem hfin lo hi _ h6.2) p _ hmem q1 q2
    unfold reRead at hr
    split at hr
    · rename_i u hu
      exact (readV_gives hlow hF hu).sub (subA_sound _ _ _ hr)
    · cases hr

theorem val_runA (ht : TraceD P F K0 nt ops l tr) (hst : StatA P ow ops l f d te z) (hF : OpLift F P) (hf : (tr (f + 1)).2 = (tr f).2 ++ [(0, .row te z.length [z])]) (hv : (tr (f + 1)).1.get d = .any ∨ (tr (f + 1)).1.get d = .ptr (tr f).2.length 0 z.length 0 0)
    {Q : Exit → Act → World → Prop} (hQ : ∀ K a w, K0.le K → SatT nt K (tr ops.size).1 (tr ops.size).2 a w → Q .normal a w) :
    ∀ (L : List Nat) (listed : Array Bool) (a : Act) (w : World), listed.size = ops.size → Val ops listed L → AInv nt ops l tr K0 f d te z (fun k => listed.getD k false) a w → wpOpsIn F 0 P ops Q L a w
  | [], listed, a, w, hsz, hvl, h => by
    have hr : Region.ready .any ops listed = [] := hvl
    have hall : ∀ i, i < ops.size → listed.getD i false = true := by
      intro i
      induction i using Nat.strongRecOn with
      | _ i ih =>
        intro hi
        cases hl : listed.getD i false with
        | true => rfl
        | false =>
          obtain ⟨o, ho⟩ : ∃ o, ops[i]? = some o := ⟨_, Array.getElem?_eq_getElem hi⟩
          have : i ∈ Region.ready .any ops listed := by
            rw [mem_ready]
            refine ⟨?_, o, ho, fun e he hb => ih e.on (hst.sched i o e ho he hb) (by have := hst.sched i o e ho he hb; omega)⟩
            simp only [Array.getD_eq_getD_getElem?] at hl ⊢
            rw [Array.getElem?_eq_getElem (by omega)] at hl ⊢
            exact hl
          rw [hr] at this
          cases this
    have hD : DInv2 nt ops l tr K0 (fun k => listed.getD k false) a w := h.elim id fun hp => hp.conv ht hst hf hv fun j hj he => hall j (effB_lt hst.b.len he)
    obtain ⟨K, hK, hs⟩ := hD.done ht hst.b hall
    exact hQ K a w hK hs
  | i :: rest, listed, a, w, hsz, hvl, h => by
    obtain ⟨hi, hvl⟩ := hvl
    obtain ⟨h0, o, ho, hall⟩ := mem_ready.1 hi
    have hlt := (Array.getElem?_eq_some_iff.1 ho).1
    have hSi : listed.getD i false = false := by
      simp only [Array.getD_eq_getD_getElem?] at h0 ⊢
      rw [Array.getElem?_eq_getElem (by omega)] at h0 ⊢
      exact h0
    have hset : (fun k => (listed.setIfInBounds i true).getD k false) = fun k => listed.getD k false || Nat.beq k i := by
      funext k
      by_cases hk : k = i
      · subst hk
        simp [hsz, hlt]
      · have hb : Nat.beq k i = false := by
          cases hb : Nat.beq k i with
          | false => rfl
          | true => exact absurd (Nat.eq_of_beq_eq_true hb) hk
        rw [hb, Bool.or_false]
        simp [Array.getElem?_setIfInBounds_ne (Ne.symm hk)]
    unfold wpOpsIn
    simp only [ho]
    refine AInv.step ht hst hF hf hv h ho hSi hall fun a' w' hd => val_runA ht hst hF hf hv hQ rest _ a' w' (by simp [hsz]) hvl ?_
    rw [hset]; exact hd

theorem aloT_sound (hc : GoodCall P call) (hlow : GoodLow P low) (hF : OpLift F P) (hY : YGood P F K0 Y) {id : Nat} {t t' : Tr} {o o' : Objs} {K : Ctx} {a : Act} {w : World} {Q : Exit → Act → World → Prop} (hle : K0.le K) (h : SatT nt K t o a w)
    (hr : aloT P call low ow nt Y ops t o = some (.ok t' o')) (hQ : ∀ K a w, K0.le K → SatT nt K t' o' a w → Q .normal a w) : (Code.region id ops true).wpIn F 0 P Q a w := by
  unfold aloT at hr
  split at hr
  · rename_i hmix
    split at hr
    · rename_i f l hl
      simp only [Option.some.injEq] at hr
      obtain ⟨d, te, z, hst⟩ := statA_ok hl
      obtain ⟨tr, BsF, RdF, q1, q2, q3, q4, q5, q6⟩ := runD_tr l 0 t o _ _ t' o' hr
      have q6 : ∀ (k : Nat) (op : Oper) (dk : DrK), l[k]? = some (op, dk) → RawStep P call low ow nt Y ops (tr k) (tr (k + 1)) BsF RdF k op dk := fun k op dk hk => by
        have := q6 k op dk hk
        rw [Nat.zero_add] at this
        exact this
      have ht : TraceD P F K0 nt ops l tr := trace_ofA hc hlow hF hY hst q3 (q4 _ (by rw [q1]; exact List.mem_cons_self ..)) q6
      rw [Nat.zero_add, hst.b.len] at q2
      obtain ⟨of, hof, hlf, hop, hg, hd, hz⟩ := hst.alo
      obtain ⟨gb, v, r1, r2, _, _, _, r6⟩ := q6 f of .eff hlf
      have hgb : gb = true := by rw [gdT_eq, hg] at r1; simpa using r1.symm
      subst hgb
      have r6 := r6 rfl
      have hstep : v = .ptr (tr f).2.length 0 z.length 0 0 ∧ (tr (f + 1)).2 = (tr f).2 ++ [(0, .row te z.length [z])] := by
        simp only at r6
        rw [stepV_eq] at r6
        simp only [hop] at r6
        unfold evalV at r6
        rw [evalQ_eq] at r6
        simp only [evalOp, hop, hz] at r6
        rw [ansV_eq] at r6
        simp only [SV.ok.injEq] at r6
        exact ⟨r6.1.symm, r6.2.symm⟩
      have hv : (tr (f + 1)).1.get d = .any ∨ (tr (f + 1)).1.get d = .ptr (tr f).2.length 0 z.length 0 0 := by
        rw [putT_eq, hd] at r2
        simp only at r2
        split at r2
        · simp only [R2.ok.injEq] at r2
          rw [← r2.1]
          rcases (Tr.get_put v (tr f).1 d d).2 with e | e
          · rw [e, hstep.1]; exact .inr rfl
          · exact .inl e
        · cases r2
      refine wpIn_region_draw fun tt => ?_
      simp only [Region.schedule, hmix, Bool.true_or, if_true]
      refine val_runA ht hst hF hstep.2 hv (Q := Q) (fun K a w hK hs => hQ K a w hK (by rw [q2] at hs; exact hs)) _ _ a _ (by simp) (lin_val ops.size tt _ (by simp) (Nat.le_trans (List.length_filter_le _ _) (by simp))) (.inl ?_)
      have hfr : ∀ k, (Array.replicate ops.size false).getD k false = false := fun k => by
        simp only [Array.getD_eq_getD_getElem?, Array.getElem?_replicate]
        split <;> rfl
      exact ⟨(fun i o e hi => by simp only [hfr] at hi; cases hi), h.size, K, 0, hle, h.defers, Nat.zero_le _, .inl rfl, by rw [q1]; exact h.mem.drawn _, fun j _ => by simp only [hfr]; simp, (fun j o d _ _ hS => by simp only [hfr] at hS; cases hS), fun t _ => by rw [q1]; exact h.slot t⟩
    · cases hr
  · cases hr

end
end Go.Fw

namespace Go.Fw
set_option linter.unusedSimpArgs false
set_option linter.unusedVariables false
open Go.RowKit

noncomputable def regT (P : Program) (call : CallF) (low : LowF) (ow : Bool) (nt : Nat) (Y : Option YT) (ops : Array Oper) (draw : Bool) (t : Tr) (o : Objs) : R2 :=
  match draw with
  | false => opsT P call ow nt Y ops ops.toList t o
  | true => (match aloT P call low ow nt Y ops t o with | some r => r | none => drawT P call low ow nt Y ops t o)

inductive RC where
  | bad (y : Why)
  | ok (e : AExit) (t : Tr) (o : Objs)

def loopT (ev : Tr → Objs → RC) : Nat → Tr → Objs → RC
  | 0, _, _ => .bad ⟨.ready 3, [], none⟩
  | k + 1, t, o =>
    match ev t o with
    | .ok e t' o' => (match e with | .normal => loopT ev k t' o' | e => .ok e t' o')
    | .bad y => .bad y

def jumpT (ev : Tr → Objs → RC) (l : Nat) : Nat → RC → RC
  | 0, _ => .bad ⟨.ready 4, [], none⟩
  | k + 1, r =>
    match r with
    | .ok e t o => (match e with | .goto l' => (match Nat.beq l' l with | true => jumpT ev l k (ev t o) | false => .bad ⟨.ready 5, [], none⟩) | e => .ok e t o)
    | .bad y => .bad y

noncomputable def putsT : Nat → List AVal → Tr → Tr
  | _, [], t => t
  | i, x :: r, t => putsT (i + 1) r (t.put x i)

noncomputable def initT (nt : Nat) (args : List AVal) : Tr := putsT 0 args (Tr.full (Nat.log2 nt + 1) 0)

def resTmp : ResultVar → Nat
  | .tmp t => t
  | .cell a _ => a

noncomputable def retT (P : Program) (fn : Func) (t : Tr) (o : Objs) : Option AVal := retA P fn ⟨fn.results.toList.map fun r => (resTmp r, t.get (resTmp r)), o⟩

abbrev EvT := Bool → Nat → Option YT → Code → Tr → Objs → RC

def r2c : R2 → RC
  | .ok t o => .ok .normal t o
  | .bad y => .bad y

def thenT (f : Tr → Objs → RC) : RC → RC
  | .ok e t o => (match e with | .normal => f t o | e => .ok e t o)
  | .bad y => .bad y

def blockT (id : Nat) : RC → RC
  | .ok e t o => (match e with | .exit i => (match Nat.beq i id with | true => .ok .normal t o | false => .ok (.exit i) t o) | e => .ok e t o)
  | .bad y => .bad y

noncomputable def condT (t : Tr) (x : Operand) (a b : RC) : RC := match lookT t x with | .lit (.bool true) => a | .lit (.bool false) => b | _ => .bad ⟨.move x, [lookT t x], none⟩

noncomputable def scopeT (ev : EvT) (nt : Nat) (Y : Option YT) (a : Code) : RC → RC
  | .ok e t o =>
    (match e with
     | .goto l => (match findLabel a l with | some rest => jumpT (ev false nt Y rest) l 100000 (ev false nt Y rest t o) | none => .bad ⟨.ready 8, [], none⟩)
     | e => .ok e t o)
  | .bad y => .bad y

noncomputable def roundT (ev : EvT) (nt : Nat) (asg body : Code) (t : Tr) (p : Nat) (x : AVal) (o : Objs) : Option Objs :=
  match ev true nt none asg (t.put x p) o with
  | .ok .normal t1 o2 => (match ev true nt none body t1 o2 with | .ok .normal _ o3 => some o3 | _ => none)
  | _ => none

def exitN : AExit → Nat
  | .normal => 0
  | .exit _ => 1
  | .goto _ => 2
  | .ret => 3

noncomputable def roundW (ev : EvT) (nt : Nat) (asg body : Code) (t : Tr) (p : Nat) (x : AVal) (o : Objs) : Why :=
  match ev true nt none asg (t.put x p) o with
  | .bad y => y
  | .ok _ t1 o2 => (match ev true nt none body t1 o2 with | .bad y => y | .ok e _ _ => ⟨.ready (60 + exitN e), [], none⟩)

noncomputable def leftT (P : Program) (fn : Func) (t : Tr) : RC → RC
  | .ok e t' o' =>
    (match e with
     | .normal => (match retT P fn t' o' with | some _ => .ok .normal t o' | none => .bad ⟨.ready 9, [], none⟩)
     | .ret => (match retT P fn t' o' with | some _ => .ok .normal t o' | none => .bad ⟨.ready 9, [], none⟩)
     | _ => .bad ⟨.ready 10, [], none⟩)
  | .bad y => .bad y

noncomputable def rangeFT (P : Program) (ev : EvT) (nt : Nat) (g : Operand) (ps : List Nat) (asg body : Code) (t : Tr) (o : Objs) : RC :=
  match lookT t g, ps with
  | .fn (.func gf) [] lb, [p] =>
    (match P.funcs[gf]? with
     | some fn =>
       (match fn.body, Nat.blt p nt && (Nat.ble (lb.length + 1) fn.ntmps && !(fn.name == "runtime.NumGoroutine")) with
        | some c', true => leftT P fn t (ev false fn.ntmps (some ⟨o.length, roundT ev nt asg body t p, roundW ev nt asg body t p⟩) c' (initT fn.ntmps (.yld o.length :: lb)) (o ++ [(0, .dead)]))
        | _, _ => .bad ⟨.ready 11, [], none⟩)
     | none => .bad ⟨.ready 12, [], none⟩)
  | _, _ => .bad ⟨.move g, [lookT t g], none⟩

noncomputable def codeS (P : Program) (call : CallF) (low : LowF) (ow : Bool) (ev : EvT) (inR : Bool) (nt : Nat) (Y : Option YT) (c : Code) (t : Tr) (o : Objs) : RC :=
  match c with
  | .skip => .ok .normal t o
  | .label _ => .ok .normal t o
  | .exit id => .ok (.exit id) t o
  | .goto l => .ok (.goto l) t o
  | .ret => .ok .ret t o
  | .region _ ops draw => r2c (regT P call low ow nt Y ops draw t o)
  | .seq a b => thenT (ev inR nt Y b) (ev inR nt Y a t o)
  | .cond x a b => condT t x (ev inR nt Y a t o) (ev inR nt Y b t o)
  | .block id a => blockT id (ev inR nt Y a t o)
  | .loop a => loopT (ev inR nt Y a) 1000000 t o
  | .scope a => (match inR with | false => scopeT ev nt Y a (ev false nt Y a t o) | true => .bad ⟨.ready 7, [], none⟩)
  | .rangeFunc g ps asg body => (match inR with | false => rangeFT P ev nt g ps.toList asg body t o | true => .bad ⟨.ready 7, [], none⟩)
  | _ => .bad ⟨.ready 13, [], none⟩

noncomputable def codeT (P : Program) (call : CallF) (low : LowF) (ow : Bool) (n : Nat) : EvT :=
  Nat.rec (motive := fun _ => EvT) (fun _ _ _ _ _ _ => .bad ⟨.ready 6, [], none⟩) (fun _ ih => codeS P call low ow ih) n

def PostT (nt : Nat) (K0 : Ctx) (e : AExit) (t : Tr) (o : Objs) (ex : Exit) (a : Act) (w : World) : Prop := ex = e.real ∧ ∃ K : Ctx, K0.le K ∧ SatT nt K t o a w

theorem PostT.noLets {nt : Nat} {K0 : Ctx} {e : AExit} {t : Tr} {o : Objs} : ¬ LetsOut (PostT nt K0 e t o) := by
  rintro ⟨a, w, he, _⟩
  cases e <;> cases he

section
variable {P : Program} {call : CallF} {low : LowF} {ow : Bool} {nt : Nat} {F : Fence} {Y : Option YT}

theorem lift_wide : OpLift Fence.wide P := ⟨fun _ => trivial, fun _ _ _ _ _ _ h => wp_wide h⟩

theorem lift_round (l : Nat) : OpLift (Fence.wide.inRound l) P := by
  refine ⟨fun _ => trivial, fun o a w next Q hd h => ⟨fun _ _ => trivial, ?_⟩⟩
  rw [Fence.inRound_round, Oper.semAt_some l _ o hd]
  unfold Oper.wp at h
  revert h
  generalize (execOp a.eval o).run P w = r
  intro h
  cases r with
  | ok nx w' =>
    cases nx with
    | value v => exact h
    | skip => exact h
    | defer d => exact h
    | enter f args =>
      refine ⟨fun hd => by simp [Fence.inRound, Fence.wide] at hd, ?_⟩
      refine CallsIn.inRound l (callsIn_wide.2 ?_)
      refine Calls.mono h ?_
      intro e w'' hr
      cases e with
      | returned v => exact hr
      | panicked chain => exact hr
      | outgrown => exact hr
    | row row args =>
      refine ⟨fun hd => by simp [Fence.inRound, Fence.wide] at hd, fun c cs _ => ?_⟩
      obtain ⟨v, w'', hr, hs⟩ := h c cs
      exact ⟨v, w'', hr, stepsIn_wide.2 hs⟩
    | _ => exact h.elim
  | halt r w' =>
    cases r with
    | panic v => exact h
    | _ => exact h.elim

theorem regT_sound (hc : GoodCall P call) (hlow : GoodLow P low) (hF : OpLift F P) {K0 : Ctx} (hY : YGood P F K0 Y) {id : Nat} {ops : Array Oper} {draw : Bool} {t t' : Tr} {o o' : Objs} {K : Ctx} {a : Act} {w : World} (hle : K0.le K) (h : SatT nt K t o a w)
    (hr : regT P call low ow nt Y ops draw t o = .ok t' o') : (Code.region id ops draw).wpIn F 0 P (PostT nt K0 .normal t' o') a w := by
  unfold regT at hr
  split at hr
  · refine wpIn_region ?_
    rw [List.range_eq_range']
    exact opsT_sound hc hF hY (fun K a w hK hs => ⟨rfl, K, hK, hs⟩) ops.size 0 (by omega) K t o a w hle h (by simpa using hr)
  · split at hr
    · rename_i r h1
      subst hr
      exact aloT_sound hc hlow hF hY hle h h1 fun K a w hK hs => ⟨rfl, K, hK, hs⟩
    · exact drawT_sound hc hlow hF hY hle h hr fun K a w hK hs => ⟨rfl, K, hK, hs⟩

theorem full_get : ∀ (d a j : Nat), (Tr.full d a).get j = .any
  | 0, a, j => by rw [Tr.full, Tr.get_leaf]; cases Nat.beq a j <;> rfl
  | d + 1, a, j => by rw [Tr.full, Tr.get_node, full_get d, full_get d]; cases Nat.ble (a + 2 ^ d) j <;> rfl

theorem putsT_get {K : Ctx} {V : Nat → Value} : ∀ (args : List AVal) (i : Nat) (t : Tr), (∀ j, Rep K (t.get j) (V j)) → (∀ k x, args[k]? = some x → Rep K x (V (i + k))) → ∀ j, Rep K ((putsT i args t).get j) (V j)
  | [], _, _, h, _, j => h j
  | x :: r, i, t, h, g, j => by
    refine putsT_get r (i + 1) (t.put x i) (fun j => ?_) (fun k y hk => ?_) j
    · obtain ⟨h1, h2⟩ := Tr.get_put x t i j
      by_cases hj : j = i
      · subst hj
        rcases h2 with e | e
        · rw [e]; exact g 0 x rfl
        · rw [e]; exact .any _
      · rw [h1 hj]; exact h j
    · have := g (k + 1) y (by simpa using hk)
      rw [show i + 1 + k = i + (k + 1) by omega]
      exact this

theorem SatT.enter {K : Ctx} {objs : Objs} {w : World} {nt : Nat} {args : List AVal} {vs : List Value} (hm : MemSat K objs w) (hreps : Reps K args vs) (hlen : args.length ≤ nt) :
    SatT nt K (initT nt args) objs { tmps := vs.toArray ++ Array.replicate (nt - vs.toArray.size) undef, defers := [] } w := by
  have hs := Sat.enter (nt := nt) hm hreps hlen
  refine ⟨hm, fun j => ?_, hs.size, hs.defers⟩
  refine putsT_get (V := fun j => (vs.toArray ++ Array.replicate (nt - vs.toArray.size) undef).getD j undef) args 0 _ (fun j => by rw [full_get]; exact .any _) (fun k x hk => ?_) j
  have h1 := hs.slot k
  simp only at h1
  rw [getSlot_init, if_neg (by omega), Nat.sub_zero, hk] at h1
  rw [Nat.zero_add]
  exact h1

theorem retT_sat {fn : Func} {t : Tr} {o : Objs} {K : Ctx} {a : Act} {w : World} (h : SatT nt K t o a w) : Sat nt K ⟨fn.results.toList.map fun r => (resTmp r, t.get (resTmp r)), o⟩ a w := by
  refine ⟨h.mem, fun j => ?_, h.size, h.defers⟩
  show Rep K (getSlot (fn.results.toList.map fun r => (resTmp r, t.get (resTmp r))) j) _
  have : ∀ l : List ResultVar, getSlot (l.map fun r => (resTmp r, t.get (resTmp r))) j = t.get j ∨ getSlot (l.map fun r => (resTmp r, t.get (resTmp r))) j = .any := by
    intro l
    induction l with
    | nil => exact .inr rfl
    | cons r l ih =>
      rw [List.map_cons, getSlot_cons]
      by_cases hr : resTmp r = j
      · rw [if_pos hr, hr]; exact .inl rfl
      · rw [if_neg hr]; exact ih
  rcases this fn.results.toList with e | e
  · rw [e]; exact h.slot j
  · rw [e]; exact .any _
end

/-- What a round is handed. -/
structure RoundT (K L : Ctx) : Prop where
  r : K.leR L
  B : ∀ b x, K.B b = some x → L.B b = some x

/-- An iterator's call, its rounds told by rd. -/
def IterT (P : Program) (gf : Nat) (lb : List AVal) (objs : Objs) (rd : AVal → Objs → Option Objs) (fin : Objs) : Prop :=
  ∀ (l : Nat) (K : Ctx) (w : World) (vs : List Value), MemSat K objs w → Reps K lb vs →
    (∀ (x : AVal) (o o' : Objs) (L : Ctx) (W : World) (v : Value), rd x o = some o' → RoundT K L → MemSat L o W → Rep L x v →
      YieldAt Fence.wide 0 P l #[v] W fun e W' => e = .returned (.bool true) ∧ ∃ L' : Ctx, L.le L' ∧ MemSat L' o' W') →
    CallsIn Fence.wide 0 P gf (#[.func (.yield l) #[] #[]] ++ vs.toArray) w fun e w' => (∃ v, e = .returned v) ∧ ∃ K' : Ctx, K.le K' ∧ MemSat K' fin w'

section
variable {P : Program} {nt : Nat}

theorem rangeT {g : Operand} {p gf : Nat} {asg body : Code} {t : Tr} {objs fin : Objs} {lb : List AVal} {rd : AVal → Objs → Option Objs} (hp : p < nt) (hg : lookT t g = .fn (.func gf) [] lb)
    (eg : ∀ args w, (callFunc gf args).run P w = .ok (.enter gf args) w) (hit : IterT P gf lb objs rd fin)
    (hbody : ∀ (l : Nat) (x : AVal) (o o' : Objs), rd x o = some o' → ∃ (t1 : Tr) (o1 : Objs) (t3 : Tr), (∀ K a W, SatT nt K (t.put x p) o a W → asg.wpIn (Fence.wide.inRound l) 0 P (PostT nt K .normal t1 o1) a W) ∧
      ∀ K a W, SatT nt K t1 o1 a W → body.wpIn (Fence.wide.inRound l) 0 P (PostT nt K .normal t3 o') a W)
    {K0 K : Ctx} {a : Act} {w : World} (hle : K0.le K) (hs : SatT nt K t objs a w) : (Code.rangeFunc g #[p] asg body).wpIn Fence.wide 0 P (PostT nt K0 .normal t fin) a w := by
  have hBlt : ∀ b x, K.B b = some x → b < w.heap.size := fun b x hx => hs.mem.below.lt hx
  have hgv : ∃ vs : List Value, a.eval g = .func (.func gf) #[] vs.toArray ∧ Reps K lb vs := by
    have hr := lookT_sound hs.slot g
    rw [hg] at hr
    generalize a.eval g = u at hr
    cases hr with
    | fn _ _ _ us vs hl hm h1 h2 =>
      have : us = [] := by cases us with | nil => rfl | cons _ _ => simp at hl
      subst this
      exact ⟨vs, rfl, hm, h2⟩
  obtain ⟨vs, hgv, hreps⟩ := hgv
  refine wpIn_rangeFunc (n := 0) fun fn _ => ?_
  obtain ⟨rec, hrec⟩ : ∃ rec : LoopState → Option Code → Loop, rec = fun st pe => { state := st, pending := pe, fn, tmps := a.tmps, params := #[p], assign := asg, body, defers := w.heap.size } := ⟨_, rfl⟩
  obtain ⟨D, hD⟩ : ∃ D, D = w.heap.size := ⟨_, rfl⟩
  obtain ⟨W1, hW1⟩ : ∃ W1, (w.alloc (.deferred (some []))).alloc (.loop (rec .ready none)) = W1 := ⟨_, rfl⟩
  have hl1 : W1.heap[D + 1]? = some (.loop (rec .ready none)) := by
    rw [← hW1, hD]; have := World.alloc_heap_new (w.alloc (.deferred (some []))) (.loop (rec .ready none)); rwa [World.size_alloc] at this
  have hd1 : W1.heap[D]? = some (.deferred (some [])) := by
    rw [← hW1, hD]; exact (Below.heap_alloc _ _ _ (by simp)).trans (World.alloc_heap_new w _)
  have hm1 : MemSat K objs W1 := by rw [← hW1]; exact (hs.mem.junk _).junk _
  obtain ⟨Kc, hKc⟩ : ∃ Kc : Ctx, Kc = { K with B := fun b => if b = D then some (.deferred (some [])) else if b = D + 1 then some (.loop (rec .ready none)) else K.B b, w0 := K.w0 } := ⟨_, rfl⟩
  have hBc : ∀ b x, K.B b = some x → Kc.B b = some x := fun b x hx => by
    have := hBlt b x hx
    rw [hKc]
    show (if b = D then _ else if b = D + 1 then _ else K.B b) = some x
    rw [if_neg (by omega), if_neg (by omega)]
    exact hx
  have hBD : Kc.B D = some (.deferred (some [])) := by rw [hKc]; show (if D = D then _ else _) = _; rw [if_pos rfl]
  have hBl : Kc.B (D + 1) = some (.loop (rec .ready none)) := by rw [hKc]; show (if D + 1 = D then _ else if D + 1 = D + 1 then _ else _) = _; rw [if_neg (by omega), if_pos rfl]
  have hmc : MemSat Kc objs W1 := by
    rw [hKc]
    refine hm1.with _ _ (fun o q hq hv hC => ?_) ?_
    · have := (hs.mem.lo o q hq hv hC).2.1
      have h1 := (hs.mem.lo o q hq hv hC).1
      show (if K.ρ o q.1 = D then _ else if K.ρ o q.1 = D + 1 then _ else K.B _) = none
      rw [if_neg (by omega), if_neg (by omega)]
      exact h1
    · have q1 := hm1.below
      refine ⟨q1.os, q1.tape, q1.output, q1.size, fun b y hy => ?_⟩
      change (if b = D then some (Obj.deferred (some [])) else if b = D + 1 then some (Obj.loop (rec .ready none)) else K.B b) = some y at hy
      split at hy
      · rename_i e; subst e; simp only [Option.some.injEq] at hy; subst hy; exact hd1
      · split at hy
        · rename_i e; subst e; simp only [Option.some.injEq] at hy; subst hy; exact hl1
        · exact q1.block b y hy
  have hKKc : K.leR Kc := by rw [hKc]; exact leR_with K _ K.w0
  have hrc : Reps Kc lb vs := Reps.monoR hKKc hreps
  refine ⟨D + 1, [{ target := .collected D, args := #[] }], W1, { target := .fn (.func gf) vs.toArray, args := #[.func (.yield (D + 1)) #[] #[]] }, W1, gf,
    #[.func (.yield (D + 1)) #[] #[]] ++ vs.toArray, W1, ?_, ?_, ?_, ?_, fun h => absurd h (by simp [Fence.wide]), ?_⟩
  · rw [← hW1, hrec, hD]; exact run_enterLoop_outer _ _ _ _ _
  · simp only [resolve, hgv]
    simp [go_sem]
  · intro f' _; trivial
  · simp [invoke, go_sem, eg]
  refine CallsIn.more (n := 0) ((hit (D + 1) Kc W1 vs hmc hrc ?_).mono ?_) (by omega)
  · -- one round
    intro x o o' L W v hrd hR hmL hv
    have hlL := hR.B _ _ hBl
    have hlW : W.heap[D + 1]? = some (.loop (rec .ready none)) := hmL.below.block _ _ hlL
    have hy := run_yield (P := P) (args := #[v]) hlW (by rw [hrec]; rfl)
    rw [hrec] at hy
    refine ⟨fn, _, asg, body, hy, roundIn_of_wpIn (n := 0) trivial ?_⟩
    have hsz : a.tmps.size = nt := hs.size
    have hz : (#[p].zip #[v]) = #[(p, v)] := by simp
    simp only [hz]
    show asg.wpIn _ _ P _ { tmps := a.tmps.setIfInBounds p v, defers := [] } W
    obtain ⟨L1, hL1⟩ : ∃ L1 : Ctx, L1 = { L with w0 := W } := ⟨_, rfl⟩
    have hm1 : MemSat L1 o W := by
      have t := hmL.with L.B W (fun o q hq hv hC => (hmL.lo o q hq hv hC).1) ⟨rfl, rfl, rfl, Nat.le_refl _, hmL.below.block⟩
      rw [hL1]
      exact t
    have hrL : L.leR L1 := by rw [hL1]; exact leR_with L L.B W
    have hs1 : SatT nt L1 (t.put x p) o { tmps := a.tmps.setIfInBounds p v, defers := [] } W := by
      refine ⟨hm1, fun j => ?_, by simpa using hsz, Marks.nil⟩
      obtain ⟨g1, g2⟩ := Tr.get_put x t p j
      by_cases ht : j = p
      · subst ht
        have : (a.tmps.setIfInBounds j v).getD j undef = v := by
          rw [Array.getD_eq_getD_getElem?, Array.getElem?_setIfInBounds_self_of_lt (by omega)]
          rfl
        simp only [this]
        rcases g2 with e | e
        · rw [e]; exact hv.monoR hrL
        · rw [e]; exact .any _
      · rw [g1 ht]
        have : (a.tmps.setIfInBounds p v).getD j undef = a.tmps.getD j undef := by
          rw [Array.getD_eq_getD_getElem?, Array.getD_eq_getD_getElem?, Array.getElem?_setIfInBounds_ne (Ne.symm ht)]
        simp only [this]
        exact (((hs.slot j).monoR hKKc).monoR hR.r).monoR hrL
    obtain ⟨t1, o1, t3, hasg, hbd⟩ := hbody (D + 1) x o o' hrd
    refine wpIn_mono (hasg L1 _ W hs1) ?_
    rintro e a1 w1 ⟨rfl, K1, hle1, hs1'⟩
    have hb1l : K1.B (D + 1) = some (.loop (rec .ready none)) := hle1.B _ _ (by rw [hL1]; exact hlL)
    have hlw1 : w1.heap[D + 1]? = some (.loop (rec .ready none)) := hs1'.mem.below.block _ _ hb1l
    have hbr := run_beginRound (P := P) hlw1 (by rw [hrec])
    refine ⟨_, hbr, ?_⟩
    obtain ⟨W2, hW2⟩ : ∃ W2, W2 = w1.putObj (D + 1) (.loop { rec .ready none with state := .busy }) := ⟨_, rfl⟩
    rw [← hW2]
    obtain ⟨L2, hL2⟩ : ∃ L2 : Ctx, L2 = { K1 with B := fun b => if b = D + 1 then some (.loop { rec .ready none with state := .busy }) else K1.B b } := ⟨_, rfl⟩
    have hm2 : MemSat L2 o1 W2 := by
      rw [hL2, hW2]
      exact hs1'.mem.putAt hb1l rfl (.loop { rec .ready none with state := .busy })
    have hrL2 : K1.leR L2 := by rw [hL2]; exact leR_with K1 _ K1.w0
    have hs2 : SatT nt L2 t1 o1 a1 W2 := ⟨hm2, fun t => (hs1'.slot t).monoR hrL2, hs1'.size, hs1'.defers.1, fun d hd => by
      obtain ⟨D', q1, q2, q3⟩ := hs1'.defers.2 d hd
      refine ⟨D', q1, ?_, by rw [hL2]; exact q3⟩
      rw [hL2]
      show (if D' = D + 1 then _ else K1.B D') = _
      rw [if_neg (by rintro rfl; rw [hb1l] at q2; cases q2)]
      exact q2⟩
    refine wpIn_mono (hbd L2 a1 W2 hs2) ?_
    rintro e a' w' ⟨rfl, K4, hle4, hs4⟩
    have hbl : L2.B (D + 1) = some (.loop { rec .ready none with state := .busy }) := by
      rw [hL2]; show (if D + 1 = D + 1 then _ else _) = _; rw [if_pos rfl]
    have hb1 : ∀ b y, L.B b = some y → K1.B b = some y := fun b y hy => hle1.B b y (by rw [hL1]; exact hy)
    have hbo : ∀ b y, b ≠ D + 1 → L.B b = some y → L2.B b = some y := fun b y hb hy => by
      rw [hL2]; show (if b = D + 1 then _ else K1.B b) = some y; rw [if_neg hb]; exact hb1 b y hy
    have h4l : K4.B (D + 1) = some (.loop { rec .ready none with state := .busy }) := hle4.B _ _ hbl
    have hlw : w'.heap[D + 1]? = some (.loop { rec .ready none with state := .busy }) := hs4.mem.below.block _ _ h4l
    have her := run_endRound (P := P) none hlw
    refine ⟨_, _, her, rfl, ?_⟩
    have e1 : ({ ({ rec .ready none with state := .busy } : Loop) with state := if (none : Option Code).isNone then .ready else .done, pending := none } : Loop) = rec .ready none := by rw [hrec]; rfl
    rw [e1]
    have hm5 := hs4.mem.putAt h4l rfl (.loop (rec .ready none))
    have hw4 : K4.w0 = W := by rw [hle4.w0, hL2]; show K1.w0 = W; rw [hle1.w0, hL1]
    have hML1 : ∀ b i, L1.M b i = L.M b i := fun b i => by rw [hL1]
    have hML : ∀ b i, L2.M b i = K1.M b i := fun b i => by rw [hL2]
    have hM0 : ∀ b i y, L.B b = some y → K1.M b i = L.M b i := fun b i y hy => (hle1.M0 b i y (by rw [hL1]; exact hy)).trans (hML1 b i)
    have hn1 : L1.n = L.n := by rw [hL1]
    have hn2 : L2.n = K1.n := by rw [hL2]
    have hv1 : ∀ o, o < L.n → L.vs o ≤ K1.vs o := fun o ho => by have := hle1.vs o (by rw [hn1]; exact ho); rw [hL1] at this; exact this
    have hln : L.n ≤ K1.n := by have := hle1.n; rw [hn1] at this; exact this
    refine ⟨{ K4 with B := fun b => if b = D + 1 then some (.loop (rec .ready none)) else K4.B b, w0 := L.w0 }, ⟨fun b i u hu => hle4.M b i u (by rw [hML]; exact hle1.M b i u (by rw [hML1]; exact hu)), fun o v ho hv => ?_, fun o v ho hv => ?_, ?_, fun o ho => ?_, rfl, fun b y hy => ?_, fun b i y hy => ?_⟩, ?_⟩
    · have h1 := hle4.ρ o v (by rw [hn2]; omega) (by rw [hL2]; exact Nat.le_trans hv (hv1 o ho))
      have h2 := hle1.ρ o v (by rw [hn1]; exact ho) (by rw [hL1]; exact hv)
      rw [hL2] at h1; rw [hL1] at h2
      exact h1.trans h2
    · have h1 := hle4.C o v (by rw [hn2]; omega) (by rw [hL2]; exact Nat.le_trans hv (hv1 o ho))
      have h2 := hle1.C o v (by rw [hn1]; exact ho) (by rw [hL1]; exact hv)
      rw [hL2] at h1; rw [hL1] at h2
      exact h1.trans h2
    · have := hle4.n; rw [hn2] at this; exact Nat.le_trans hln this
    · have := hle4.vs o (by rw [hn2]; omega); rw [hL2] at this; exact Nat.le_trans (hv1 o ho) this
    · show (if b = D + 1 then _ else K4.B b) = some y
      by_cases hb : b = D + 1
      · subst hb
        rw [if_pos rfl]
        exact hlL.symm.trans hy
      · rw [if_neg hb]
        exact hle4.B b y (hbo b y hb hy)
    · show K4.M b i = L.M b i
      by_cases hb : b = D + 1
      · subst hb
        exact ((hle4.M0 _ i _ hbl).trans (hML _ _)).trans (hM0 _ i y hy)
      · exact ((hle4.M0 b i y (hbo b y hb hy)).trans (hML _ _)).trans (hM0 b i y hy)
    · have q1 := hm5.below
      have q2 := hmL.below
      have ew : ∀ {α : Type} (f : World → α), f K4.w0 = f W := fun f => by rw [hw4]
      refine hm5.with _ L.w0 (fun o q hq hv hC => (hm5.lo o q hq hv hC).1) ⟨?_, ?_, ?_, ?_, q1.block⟩
      · exact (q1.os.trans (ew World.os)).trans q2.os
      · exact (q1.tape.trans (ew World.tape)).trans q2.tape
      · exact (q1.output.trans (ew World.output)).trans q2.output
      · have h1 := q1.size
        have h2 : K4.w0.heap.size = W.heap.size := by rw [hw4]
        have h3 := q2.size
        show L.w0.heap.size ≤ _
        change K4.w0.heap.size ≤ _ at h1
        omega
  · -- behind it
    rintro e w' ⟨⟨v, rfl⟩, K', hle', hm'⟩
    have hlK : K'.B (D + 1) = some (.loop (rec .ready none)) := hle'.B _ _ hBl
    have hlw : w'.heap[D + 1]? = some (.loop (rec .ready none)) := hm'.below.block _ _ hlK
    have hel := run_endLoop (P := P) hlw (by rw [hrec]; simp)
    have hpe : (rec .ready none).pending = none := by rw [hrec]
    rw [hpe] at hel
    obtain ⟨ex, hex⟩ : ∃ ex : Loop, ex = { rec .ready none with state := .exhausted } := ⟨_, rfl⟩
    have hm6 := hm'.putAt hlK rfl (.loop ex)
    refine ⟨none, w'.putObj (D + 1) (.loop ex), by rw [hel, hex]; simp only [hrec], ?_⟩
    have hMc : ∀ b i, Kc.M b i = K.M b i := fun b i => by rw [hKc]
    have hB' : ∀ b y, K.B b = some y → (if b = D + 1 then some (Obj.loop ex) else K'.B b) = some y := fun b y hy => by
      have := hBlt b y hy
      rw [if_neg (by omega)]
      exact hle'.B b y (hBc b y hy)
    have hw0 : K'.w0 = K.w0 := by rw [hle'.w0, hKc]
    have hnc : Kc.n = K.n := by rw [hKc]
    have hKK' : K.leR { K' with B := fun b => if b = D + 1 then some (Obj.loop ex) else K'.B b } := by
      refine ⟨fun b i u hu => hle'.M b i u ((hMc b i).trans hu), fun o u ho hu => ?_, fun o u ho hu => ?_, ?_, fun o ho => ?_⟩
      · have := hle'.ρ o u (by rw [hnc]; exact ho) (by rw [hKc]; exact hu)
        rw [hKc] at this
        exact this
      · have := hle'.C o u (by rw [hnc]; exact ho) (by rw [hKc]; exact hu)
        rw [hKc] at this
        exact this
      · have := hle'.n
        rw [hnc] at this
        exact this
      · have := hle'.vs o (by rw [hnc]; exact ho)
        rw [hKc] at this
        exact this
    have hleK : K.le { K' with B := fun b => if b = D + 1 then some (Obj.loop ex) else K'.B b } :=
      ⟨hKK'.M, hKK'.ρ, hKK'.C, hKK'.n, hKK'.vs, hw0, hB', fun b i y hy => (hle'.M0 b i y (hBc b y hy)).trans (hMc b i)⟩
    refine ⟨rfl, { K' with B := fun b => if b = D + 1 then some (.loop ex) else K'.B b }, hle.trans hleK, hm6, fun j => (hs.slot j).monoR hKK', hs.size, ?_⟩
    refine ⟨List.nodup_cons.2 ⟨fun hin => ?_, hs.defers.1⟩, fun d hd => ?_⟩
    · obtain ⟨D', h1, h2, _⟩ := hs.defers.2 _ hin
      simp only [Deferred.mk.injEq, Target.collected.injEq, and_true] at h1
      subst h1
      have := hBlt _ _ h2
      omega
    · rcases List.mem_cons.1 hd with rfl | hd
      · refine ⟨D, rfl, ?_, ?_⟩
        · show (if D = D + 1 then _ else K'.B D) = _
          rw [if_neg (by omega)]
          exact hle'.B _ _ hBD
        · show K'.w0.heap.size ≤ D
          rw [hw0, hD]
          exact hs.mem.below.size
      · obtain ⟨D', h1, h2, h3⟩ := hs.defers.2 d hd
        refine ⟨D', h1, hB' _ _ h2, ?_⟩
        show K'.w0.heap.size ≤ D'
        rw [hw0]
        exact h3

/-- A name for a loop's block. -/
theorem MemSat.token {K : Ctx} {objs : Objs} {w : World} (h : MemSat K objs w) (l : Nat) : MemSat (K.newObj l 0) (objs ++ [(0, .dead)]) w := by
  have hle := le_newObj K l 0
  have cases_o : ∀ (o : Nat) (p : Nat × AObj), (objs ++ [(0, AObj.dead)])[o]? = some p → (objs[o]? = some p ∧ o < K.n) ∨ (o = K.n ∧ p = (0, .dead)) := by
    intro o p hp
    rcases Nat.lt_trichotomy o K.n with hlt | heq | hgt
    · left
      rw [List.getElem?_append_left (by rw [h.len]; exact hlt)] at hp
      exact ⟨hp, hlt⟩
    · right
      subst heq
      rw [List.getElem?_append_right (by rw [h.len]; exact Nat.le_refl _), h.len, Nat.sub_self] at hp
      exact ⟨rfl, by simpa using hp.symm⟩
    · rw [List.getElem?_eq_none (by simp [h.len]; omega)] at hp
      cases hp
  have eρ : ∀ o v, o < K.n → (K.newObj l 0).ρ o v = K.ρ o v := fun o v ho => by simp only [Ctx.newObj]; rw [if_neg (by omega)]
  have eC : ∀ o v, o < K.n → (K.newObj l 0).C o v = K.C o v := fun o v ho => by simp only [Ctx.newObj]; rw [if_neg (by omega)]
  refine ⟨by simp [Ctx.newObj, h.len], fun o p hp => ?_, fun o p hp => ?_, fun o p hp hl hC => ?_, fun o o' p p' hp hp' hl hl' hC hC' hne => ?_, h.mem, h.below.step (L := K.newObj l 0) rfl rfl rfl rfl rfl (Nat.le_refl _) fun _ _ _ => rfl⟩
  · rcases cases_o o p hp with ⟨hp, hlt⟩ | ⟨rfl, rfl⟩
    · simp only [Ctx.newObj]; rw [if_neg (by omega)]; exact h.ver o p hp
    · simp [Ctx.newObj]
  · rcases cases_o o p hp with ⟨hp, hlt⟩ | ⟨rfl, rfl⟩
    · exact (h.obj o p hp).mono hle (h.olt hp) (by rw [h.ver o p hp]; exact Nat.le_refl _) (fun _ _ => rfl)
    · trivial
  · rcases cases_o o p hp with ⟨hp, hlt⟩ | ⟨rfl, rfl⟩
    · rw [eC _ _ hlt] at hC
      rw [eρ _ _ hlt]
      exact h.lo o p hp hl hC
    · cases hl
  · rcases cases_o o p hp with ⟨hp, hlt⟩ | ⟨rfl, rfl⟩
    · rcases cases_o o' p' hp' with ⟨hp', hlt'⟩ | ⟨rfl, rfl⟩
      · rw [eC _ _ hlt] at hC
        rw [eC _ _ hlt'] at hC'
        rw [eρ _ _ hlt, eρ _ _ hlt']
        exact h.dis o o' p p' hp hp' hl hl' hC hC' hne
      · cases hl'
    · cases hl
end

section
variable {P : Program} {call : CallF} {low : LowF} {ow : Bool}

theorem run_callFunc_here {gf : Nat} {fn : Func} {c : Code} (hf : P.funcs[gf]? = some fn) (hb : fn.body = some c) (hn : (fn.name == "runtime.NumGoroutine") = false) (args : Array Value) (w : World) : (callFunc gf args).run P w = .ok (.enter gf args) w := by
  have hnone : fn.body.isNone = false := by rw [hb]; rfl
  simp only [callFunc, Sem.run_bind, run_program, Result.andThen_ok, hf, hn, Bool.false_eq_true, if_false, hnone, Sem.run_pure]

theorem leaveT {fn : Func} {K K' : Ctx} {t : Tr} {o : Objs} {a : Act} {w w' : World} {r : AVal} {RR : Ending → World → Prop} (hp : Prot K w) (hle : Ctx.le { K with w0 := w } K') (hs : SatT fn.ntmps K' t o a w') (hr : retT P fn t o = some r)
    (hRR : ∀ (v : Value) (K' : Ctx) (w' : World), K.le K' → MemSat K' o w' → Rep K' r v → RR (.returned v) w') : LeavesInM Fence.wide 0 P fn a.tmps RR a.defers .returning w' := by
  have hl : Leaves P fn K.n (fun r' o1 => r' = r ∧ o1 = o) ⟨fn.results.toList.map fun r => (resTmp r, t.get (resTmp r)), o⟩ := by
    unfold Leaves
    unfold retT at hr
    rw [hr]
    exact ⟨_, _, Told.refl, rfl, rfl⟩
  exact leave_body (K0 := K) hp (.refl _) rfl rfl rfl hle (retT_sat hs) hl fun v r' objs' K' w' h1 h2 h3 h4 => by
    obtain ⟨rfl, rfl⟩ := h4
    exact hRR v K' w' h1 h2 h3

theorem loopT_sound {F : Fence} {nt : Nat} {body : Code} {ev : Tr → Objs → RC} {K0 : Ctx} {e : AExit} {t' : Tr} {o' : Objs}
    (hev : ∀ t o e t' o', ev t o = .ok e t' o' → ∀ K a w, K0.le K → SatT nt K t o a w → body.wpIn F 0 P (PostT nt K0 e t' o') a w) {k : Nat} {t : Tr} {o : Objs} {K : Ctx} {a : Act} {w : World} (hle : K0.le K) (hs : SatT nt K t o a w)
    (h : loopT ev k t o = .ok e t' o') : (Code.loop body).wpIn F 0 P (PostT nt K0 e t' o') a w := by
  refine wpIn_loop_ghost (fun m a w => ∃ t o K, K0.le K ∧ SatT nt K t o a w ∧ loopT ev m t o = .ok e t' o') k ⟨t, o, K, hle, hs, h⟩ ?_
  rintro m a w ⟨t, o, K, hle, hs, h⟩
  cases m with
  | zero => cases h
  | succ m =>
    unfold loopT at h
    split at h
    · rename_i e1 t1 o1 he
      refine wpIn_mono (hev _ _ _ _ _ he K a w hle hs) ?_
      rintro e2 a2 w2 ⟨rfl, K2, hle2, hs2⟩
      split at h
      · exact ⟨m, Nat.lt_succ_self _, t1, o1, K2, hle2, hs2, h⟩
      · rename_i hne
        simp only [RC.ok.injEq] at h
        obtain ⟨rfl, rfl, rfl⟩ := h
        cases e1 with
        | normal => exact absurd rfl hne
        | exit i => exact ⟨rfl, K2, hle2, hs2⟩
        | goto l => exact ⟨rfl, K2, hle2, hs2⟩
        | ret => exact ⟨rfl, K2, hle2, hs2⟩
    · cases h

theorem jumpT_sound {nt : Nat} {c rest : Code} {l : Nat} {ev : Tr → Objs → RC} {K0 : Ctx} {e : AExit} {t' : Tr} {o' : Objs} (hf : findLabel c l = some rest)
    (hev : ∀ t o e t' o', ev t o = .ok e t' o' → ∀ K a w, K0.le K → SatT nt K t o a w → rest.wp P (PostT nt K0 e t' o') a w) {k : Nat} {t : Tr} {o : Objs} {a : Act} {w : World}
    (h1 : c.wp P (PostT nt K0 (.goto l) t o) a w) (h : jumpT ev l k (ev t o) = .ok e t' o') : (Code.scope c).wp P (PostT nt K0 e t' o') a w := by
  have done : ∀ {e1 : AExit} {t1 : Tr} {o1 : Objs} {k : Nat}, (∀ l', e1 ≠ .goto l') → jumpT ev l k (.ok e1 t1 o1) = .ok e t' o' → e1 = e ∧ t1 = t' ∧ o1 = o' := by
    intro e1 t1 o1 k hne h
    cases k with
    | zero => cases h
    | succ k =>
      unfold jumpT at h
      split at h
      · rename_i e2 t2 o2 heq
        simp only [RC.ok.injEq] at heq
        obtain ⟨rfl, rfl, rfl⟩ := heq
        split at h
        · exact absurd rfl (hne _)
        · simp only [RC.ok.injEq] at h
          exact h
      · cases h
  have again : ∀ {l' : Nat} {t1 : Tr} {o1 : Objs} {k : Nat}, jumpT ev l k (.ok (.goto l') t1 o1) = .ok e t' o' → l' = l ∧ ∃ m, m < k ∧ jumpT ev l m (ev t1 o1) = .ok e t' o' := by
    intro l' t1 o1 k h
    cases k with
    | zero => cases h
    | succ k =>
      unfold jumpT at h
      simp only at h
      split at h
      · rename_i hb
        exact ⟨Nat.eq_of_beq_eq_true hb, k, Nat.lt_succ_self _, h⟩
      · cases h
  refine wp_scope_jumps l (fun a w => ∃ m, ∃ t o K, Ctx.le K0 K ∧ SatT nt K t o a w ∧ jumpT ev l m (ev t o) = .ok e t' o') (fun a w => leastOf fun m => ∃ t o K, Ctx.le K0 K ∧ SatT nt K t o a w ∧ jumpT ev l m (ev t o) = .ok e t' o') hf ?_ ?_
  · refine wp_mono h1 ?_
    rintro e2 a2 w2 ⟨rfl, K2, hle2, hs2⟩
    exact ⟨rfl, k, t, o, K2, hle2, hs2, h⟩
  · intro a w hJ
    obtain ⟨t, o, K, hle, hs, h⟩ := (leastOf_spec hJ).1
    generalize hm : (leastOf fun m => ∃ t o K, Ctx.le K0 K ∧ SatT nt K t o a w ∧ jumpT ev l m (ev t o) = .ok e t' o') = m at h
    cases hev' : ev t o with
    | bad y =>
      rw [hev'] at h
      cases m <;> cases h
    | ok e1 t1 o1 =>
      rw [hev'] at h
      refine wp_mono (hev _ _ _ _ _ hev' K a w hle hs) ?_
      rintro e2 a2 w2 ⟨rfl, K2, hle2, hs2⟩
      cases e1 with
      | goto l' =>
        obtain ⟨rfl, m', hlt, h'⟩ := again h
        exact ⟨rfl, ⟨m', t1, o1, K2, hle2, hs2, h'⟩, Nat.lt_of_le_of_lt ((leastOf_spec ⟨m', t1, o1, K2, hle2, hs2, h'⟩).2 m' ⟨t1, o1, K2, hle2, hs2, h'⟩) hlt⟩
      | normal => obtain ⟨rfl, rfl, rfl⟩ := done (fun _ h => by cases h) h; exact ⟨rfl, K2, hle2, hs2⟩
      | exit i => obtain ⟨rfl, rfl, rfl⟩ := done (fun _ h => by cases h) h; exact ⟨rfl, K2, hle2, hs2⟩
      | ret => obtain ⟨rfl, rfl, rfl⟩ := done (fun _ h => by cases h) h; exact ⟨rfl, K2, hle2, hs2⟩

end
end Go.Fw

namespace Go.Fw
set_option linter.unusedSimpArgs false
set_option linter.unusedVariables false
open Go.RowKit

section
variable {P : Program} {call : CallF} {low : LowF} {ow : Bool}

theorem codeT_sound (hc : GoodCall P call) (hlow : GoodLow P low) : ∀ (n : Nat) (F : Fence) (inR : Bool) (nt : Nat) (Y : Option YT) (c : Code) (t : Tr) (o : Objs) (e : AExit) (t' : Tr) (o' : Objs), OpLift F P → (inR = false → F = Fence.wide) →
    codeT P call low ow n inR nt Y c t o = .ok e t' o' → ∀ (K0 K : Ctx) (a : Act) (w : World), YGood P F K0 Y → K0.le K → SatT nt K t o a w → c.wpIn F 0 P (PostT nt K0 e t' o') a w := by
  intro n
  induction n with
  | zero => intro F inR nt Y c t o e t' o' hF hR h; cases h
  | succ n ih =>
    intro F inR nt Y c t o e t' o' hF hR h K0 K a w hY hle hs
    have h : codeS P call low ow (codeT P call low ow n) inR nt Y c t o = .ok e t' o' := h
    cases c with
    | skip => simp only [codeS, RC.ok.injEq] at h; obtain ⟨rfl, rfl, rfl⟩ := h; exact wpIn_skip ⟨rfl, K, hle, hs⟩
    | label l => simp only [codeS, RC.ok.injEq] at h; obtain ⟨rfl, rfl, rfl⟩ := h; exact wpIn_label ⟨rfl, K, hle, hs⟩
    | exit id => simp only [codeS, RC.ok.injEq] at h; obtain ⟨rfl, rfl, rfl⟩ := h; exact wpIn_exit ⟨rfl, K, hle, hs⟩
    | goto l => simp only [codeS, RC.ok.injEq] at h; obtain ⟨rfl, rfl, rfl⟩ := h; exact wpIn_goto ⟨rfl, K, hle, hs⟩
    | ret => simp only [codeS, RC.ok.injEq] at h; obtain ⟨rfl, rfl, rfl⟩ := h; exact wpIn_ret ⟨rfl, K, hle, hs⟩
    | refuse why => simp [codeS] at h
    | region id ops draw =>
      simp only [codeS] at h
      unfold r2c at h
      split at h
      · rename_i t1 o1 hr
        simp only [RC.ok.injEq] at h
        obtain ⟨rfl, rfl, rfl⟩ := h
        exact regT_sound hc hlow hF hY hle hs hr
      · cases h
    | seq x y =>
      simp only [codeS] at h
      unfold thenT at h
      split at h
      · rename_i e1 t1 o1 hx
        refine wpIn_seq (wpIn_mono (ih F inR nt Y x t o _ _ _ hF hR hx K0 K a w hY hle hs) ?_)
        rintro e2 a2 w2 ⟨rfl, K2, hle2, hs2⟩
        split at h
        · exact ih F inR nt Y y t1 o1 _ _ _ hF hR h K0 K2 a2 w2 hY hle2 hs2
        · rename_i hne
          simp only [RC.ok.injEq] at h
          obtain ⟨rfl, rfl, rfl⟩ := h
          cases e1 with
          | normal => exact absurd rfl hne
          | exit i => exact ⟨rfl, K2, hle2, hs2⟩
          | goto l => exact ⟨rfl, K2, hle2, hs2⟩
          | ret => exact ⟨rfl, K2, hle2, hs2⟩
      · cases h
    | cond x y z =>
      simp only [codeS] at h
      unfold condT at h
      have hv := lookT_sound hs.slot x
      split at h
      · rename_i hb
        rw [hb] at hv
        exact wpIn_cond_split (rep_lit hv) (fun _ => ih F inR nt Y y t o _ _ _ hF hR h K0 K a w hY hle hs) (fun hf => by cases hf)
      · rename_i hb
        rw [hb] at hv
        exact wpIn_cond_split (rep_lit hv) (fun hf => by cases hf) (fun _ => ih F inR nt Y z t o _ _ _ hF hR h K0 K a w hY hle hs)
      · cases h
    | block id x =>
      simp only [codeS] at h
      unfold blockT at h
      split at h
      · rename_i e1 t1 o1 hx
        refine wpIn_block (wpIn_mono (ih F inR nt Y x t o _ _ _ hF hR hx K0 K a w hY hle hs) ?_)
        rintro e2 a2 w2 ⟨rfl, K2, hle2, hs2⟩
        split at h
        · rename_i i
          simp only [AExit.real, Exit.inBlock]
          split at h
          · rename_i hb
            simp only [RC.ok.injEq] at h
            obtain ⟨rfl, rfl, rfl⟩ := h
            rw [if_pos (Nat.eq_of_beq_eq_true hb)]
            exact ⟨rfl, K2, hle2, hs2⟩
          · rename_i hb
            simp only [RC.ok.injEq] at h
            obtain ⟨rfl, rfl, rfl⟩ := h
            rw [if_neg (fun e => by subst e; simp at hb)]
            exact ⟨rfl, K2, hle2, hs2⟩
        · rename_i hne
          simp only [RC.ok.injEq] at h
          obtain ⟨rfl, rfl, rfl⟩ := h
          cases e1 with
          | normal => exact ⟨rfl, K2, hle2, hs2⟩
          | exit i => exact absurd rfl (hne i)
          | goto l => exact ⟨rfl, K2, hle2, hs2⟩
          | ret => exact ⟨rfl, K2, hle2, hs2⟩
      · cases h
    | loop x =>
      simp only [codeS] at h
      exact loopT_sound (fun t o e t' o' he K a w hle hs => ih F inR nt Y x t o e t' o' hF hR he K0 K a w hY hle hs) hle hs h
    | scope x =>
      cases inR with
      | true => cases h
      | false =>
        have hFw := hR rfl
        subst hFw
        simp only [codeS] at h
        unfold scopeT at h
        split at h
        · rename_i e1 t1 o1 hx
          have hb := wpIn_wide.1 (ih Fence.wide false nt Y x t o _ _ _ hF hR hx K0 K a w hY hle hs)
          refine wpIn_wide.2 ?_
          split at h
          · rename_i l
            split at h
            · rename_i rest hf
              exact jumpT_sound hf (fun t o e t' o' he K a w hle hs => wpIn_wide.1 (ih Fence.wide false nt Y rest t o e t' o' hF hR he K0 K a w hY hle hs)) hb h
            · cases h
          · rename_i hne
            simp only [RC.ok.injEq] at h
            obtain ⟨rfl, rfl, rfl⟩ := h
            refine wp_scope_straight (wp_mono hb ?_)
            rintro e2 a2 w2 ⟨rfl, K2, hle2, hs2⟩
            cases e1 with
            | normal => exact ⟨rfl, K2, hle2, hs2⟩
            | exit i => exact ⟨rfl, K2, hle2, hs2⟩
            | goto l => exact absurd rfl (hne l)
            | ret => exact ⟨rfl, K2, hle2, hs2⟩
        · cases h
    | rangeFunc g ps asg body =>
      cases inR with
      | true => cases h
      | false =>
        have hFw := hR rfl
        subst hFw
        have h2 : rangeFT P (codeT P call low ow n) nt g ps.toList asg body t o = .ok e t' o' := h
        clear h
        unfold rangeFT at h2
        split at h2
        · rename_i gf lb p hg hps
          have hps : ps = #[p] := Array.toList_inj.1 (by rw [hps])
          subst hps
          split at h2
          · rename_i fn hf
            split at h2
            · rename_i c' hb hcheck
              simp only [Bool.and_eq_true, Bool.not_eq_true'] at hcheck
              obtain ⟨hp, hlen, hname⟩ := hcheck
              have hp : p < nt := by simpa using hp
              have hlen : lb.length + 1 ≤ fn.ntmps := Nat.le_of_ble_eq_true hlen
              -- the iterator's run
              have fin : ∀ (e1 : AExit) (t1 : Tr) (o1 : Objs), (e1 = .normal ∨ e1 = .ret) → codeT P call low ow n false fn.ntmps (some ⟨o.length, roundT (codeT P call low ow n) nt asg body t p, roundW (codeT P call low ow n) nt asg body t p⟩) c' (initT fn.ntmps (.yld o.length :: lb)) (o ++ [(0, .dead)]) = .ok e1 t1 o1 →
                  (retT P fn t1 o1).isSome = true → (Code.rangeFunc g #[p] asg body).wpIn Fence.wide 0 P (PostT nt K0 .normal t o1) a w := by
                intro e1 t1 o1 he1 hrun hret
                refine rangeT (rd := roundT (codeT P call low ow n) nt asg body t p) hp hg (run_callFunc_here hf hb hname) ?_ ?_ hle hs
                · intro l K w vs hm hreps hround
                  have harr : (#[.func (.yield l) #[] #[]] ++ vs.toArray : Array Value) = (Value.func (.yield l) #[] #[] :: vs).toArray := by simp
                  rw [harr]
                  refine callsIn_of_wp_marks (n := 0) hf hb trivial ?_
                  obtain ⟨K1, hK1⟩ : ∃ K1 : Ctx, K1 = ({ K with w0 := w } : Ctx).newObj l 0 := ⟨_, rfl⟩
                  have hm1 : MemSat K1 (o ++ [(0, .dead)]) w := by rw [hK1]; exact hm.begin.token l
                  have hle1 : Ctx.le { K with w0 := w } K1 := by rw [hK1]; exact le_newObj _ _ _
                  have hn1 : K1.n = K.n + 1 := by rw [hK1]; rfl
                  have hρ : K1.ρ o.length 0 = l := by rw [hK1, hm.len]; simp [Ctx.newObj]
                  have hreps1 : Reps K1 (.yld o.length :: lb) (Value.func (.yield l) #[] #[] :: vs) := by
                    refine Reps.cons ?_ ((Reps.monoR (leR_with K K.B w) hreps).mono hle1)
                    have := Rep.yld (K := K1) o.length (by rw [hn1, hm.len]; exact Nat.lt_succ_self _)
                    rw [hρ] at this
                    exact this
                  refine wpIn_mono (ih Fence.wide false fn.ntmps _ c' _ _ _ _ _ lift_wide (fun _ => rfl) hrun K1 K1 _ w ?_ (.refl _) (SatT.enter hm1 hreps1 (by simpa using hlen))) ?_
                  · refine ⟨rfl, by rw [hn1, hm.len]; exact Nat.lt_succ_self _, fun x o2 o3 L W v hrd hL hmL hv => ?_⟩
                    rw [hρ]
                    refine hround x o2 o3 L W v hrd ⟨?_, fun b y hy => hL.B b y (hle1.B b y hy)⟩ hmL hv
                    have h1 := hle1.trans hL
                    exact ⟨h1.M, h1.ρ, h1.C, h1.n, h1.vs⟩
                  · rintro e2 a2 w2 ⟨rfl, K2, hle2, hs2⟩
                    obtain ⟨r, hr⟩ := Option.isSome_iff_exists.1 hret
                    have lv := leaveT (RR := fun e w' => (∃ v, e = .returned v) ∧ ∃ K' : Ctx, K.le K' ∧ MemSat K' o1 w') hm.below (hle1.trans hle2) hs2 hr fun v K' w' h1 h2 h3 => ⟨⟨v, rfl⟩, K', h1, h2⟩
                    rcases he1 with rfl | rfl
                    · exact lv
                    · exact lv
                · intro l x o1 o2 hrd
                  unfold roundT at hrd
                  split at hrd
                  · rename_i t2 o3 ha
                    split at hrd
                    · rename_i t3 o4 hb'
                      simp only [Option.some.injEq] at hrd
                      subst hrd
                      exact ⟨t2, o3, t3, fun K a W hs => ih _ true nt none asg _ _ _ _ _ (lift_round l) (fun h => by cases h) ha K K a W trivial (.refl K) hs,
                        fun K a W hs => ih _ true nt none body _ _ _ _ _ (lift_round l) (fun h => by cases h) hb' K K a W trivial (.refl K) hs⟩
                    · cases hrd
                  · cases hrd
              unfold leftT at h2
              split at h2
              · rename_i e1 t1 o1 hrun
                split at h2
                · split at h2
                  · rename_i r hr
                    simp only [RC.ok.injEq] at h2
                    obtain ⟨rfl, rfl, rfl⟩ := h2
                    exact fin _ t1 _ (.inl rfl) hrun (by rw [hr]; rfl)
                  · cases h2
                · split at h2
                  · rename_i r hr
                    simp only [RC.ok.injEq] at h2
                    obtain ⟨rfl, rfl, rfl⟩ := h2
                    exact fin _ t1 _ (.inr rfl) hrun (by rw [hr]; rfl)
                  · cases h2
                · cases h2
              · cases h2
            · cases h2
          · cases h2
        · cases h2

noncomputable def runT (P : Program) (call : CallF) (low : LowF) (ow : Bool) (f : FuncId) (args : List AVal) (objs : Objs) : Option (AVal × Objs) :=
  match P.funcs[f]? with
  | none => none
  | some fn =>
    match fn.body, Nat.ble args.length fn.ntmps with
    | some c, true =>
      (match codeT P call low ow 1000 false fn.ntmps none c (initT fn.ntmps args) objs with
       | .ok e t o => (match e with | .normal => (match retT P fn t o with | some r => some (r, o) | none => none) | .ret => (match retT P fn t o with | some r => some (r, o) | none => none) | _ => none)
       | .bad _ => none)
    | _, _ => none

theorem runT_sound (hc : GoodCall P call) (hlow : GoodLow P low) {f : FuncId} {args : List AVal} {objs o' : Objs} {r : AVal} (h : runT P call low ow f args objs = some (r, o')) : ACalls P f args objs fun r' o1 => r' = r ∧ o1 = o' := by
  unfold runT at h
  split at h
  · cases h
  · rename_i fn hf
    split at h
    · rename_i c hb hlen
      have hlen := Nat.le_of_ble_eq_true hlen
      split at h
      · rename_i e t o hrun
        intro K w vs hm hreps
        have key : ∀ t1 : Option AVal, retT P fn t o = t1 → (match t1 with | some r => some (r, o) | none => none) = some (r, o') → (e = .normal ∨ e = .ret) → Calls P f vs.toArray w fun e w' => ∃ (v : Value) (r1 : AVal) (objs' : Objs) (K' : Ctx), e = .returned v ∧ K.le K' ∧ MemSat K' objs' w' ∧ Rep K' r1 v ∧ r1 = r ∧ objs' = o' := by
          intro t1 hr h he
          cases t1 with
          | none => cases h
          | some r1 =>
            simp only [Option.some.injEq, Prod.mk.injEq] at h
            obtain ⟨rfl, rfl⟩ := h
            refine callsIn_wide.1 (callsIn_of_wp_marks (n := 0) hf hb trivial ?_)
            refine wpIn_mono (codeT_sound hc hlow 1000 Fence.wide false fn.ntmps none c _ _ _ _ _ lift_wide (fun _ => rfl) hrun { K with w0 := w } { K with w0 := w } _ w trivial (.refl _) (SatT.enter hm.begin (Reps.monoR (leR_with K K.B w) hreps) hlen)) ?_
            rintro e2 a2 w2 ⟨rfl, K2, hle2, hs2⟩
            have lv := leaveT (RR := fun e w' => ∃ (v : Value) (r2 : AVal) (objs' : Objs) (K' : Ctx), e = .returned v ∧ K.le K' ∧ MemSat K' objs' w' ∧ Rep K' r2 v ∧ r2 = r1 ∧ objs' = o) hm.below hle2 hs2 hr fun v K' w' h1 h2 h3 => ⟨v, r1, o, K', rfl, h1, h2, h3, rfl, rfl⟩
            rcases he with rfl | rfl
            · exact lv
            · exact lv
        split at h
        · exact key _ rfl h (.inl rfl)
        · exact key _ rfl h (.inr rfl)
        · cases h
      · cases h
    · cases h

def bareB : Nat → AVal → Bool
  | 0, _ => false
  | _ + 1, .lit _ => true
  | d + 1, .agg cs => cs.all (bareB d)
  | d + 1, .tup cs => cs.all (bareB d)
  | _ + 1, _ => false

theorem bareB_ok : ∀ (d : Nat) {x : AVal}, bareB d x = true → Bare x
  | 0, x, h => by simp [bareB] at h
  | d + 1, x, h => by
    cases x with
    | lit v => exact .lit v
    | agg cs => exact .agg cs fun y hy => bareB_ok d (List.all_eq_true.1 h y hy)
    | tup cs => exact .tup cs fun y hy => bareB_ok d (List.all_eq_true.1 h y hy)
    | _ => simp [bareB] at h

theorem seen_of_turn {objs : Objs} {x y : AVal} (h : TurnV objs 0 [] x y) (hl : Low 0 y) : Seen objs x y := by
  intro K w v hm hr
  refine Rep.low0 (K := K.shed w objs 0 []) (L := K.still objs w) (fun b i u hu => ?_) (h K w v hm hr) hl
  simp only [Ctx.shed] at hu
  simp only [Ctx.still]
  split at hu
  · rename_i q hq; rw [hq]; exact hu
  · rename_i hq
    rw [hq]
    split at hu
    · rename_i hc; rw [if_pos hc.1]; exact hu
    · cases hu

theorem seenL_of_frz {objs : Objs} : ∀ {xs ys : List AVal}, allO (frz objs 60) xs = some ys → SeenL objs xs ys ∧ LowL 0 ys
  | [], ys, h => by simp only [allO, Option.some.injEq] at h; subst h; exact ⟨.nil, fun y hy => by simp at hy⟩
  | x :: xs, ys, h => by
    obtain ⟨y, ys', h1, h2, rfl⟩ := allO_cons h
    obtain ⟨q1, q2⟩ := seenL_of_frz h2
    obtain ⟨r1, r2⟩ := frz_sound 60 x y h1
    refine ⟨.cons _ _ _ _ (seen_of_turn r1 r2) q1, fun z hz => ?_⟩
    rcases List.mem_cons.1 hz with rfl | hz
    · exact r2
    · exact q2 z hz

/-- What a call gives that only reads, whatever else there is. -/
noncomputable def lowT (call : CallF) : LowF := fun f args objs =>
  match args.all (lowB 60) with
  | true => (match call f args [] with | some (r, []) => (match lowB 60 r with | true => some r | false => none) | _ => none)
  | false =>
    (match allO (frz objs 60) args with
     | some args' => (match call f args' [] with | some (r, []) => (match bareB 60 r with | true => some r | false => none) | _ => none)
     | none => none)

theorem lowT_sound (hc : GoodCall P call) : GoodLow P (lowT call) := by
  intro f args objs r h
  unfold lowT at h
  split at h
  · rename_i ha
    split at h
    · rename_i r1 hr
      split at h
      · rename_i hl
        simp only [Option.some.injEq] at h
        subst h
        exact AGives.frame (hc f args [] _ _ hr) (fun x hx => lowB_sound _ (List.all_eq_true.1 ha x hx)) (lowB_sound _ hl) objs
      · cases h
    · cases h
  · split at h
    · rename_i args' ha
      obtain ⟨q1, q2⟩ := seenL_of_frz ha
      split at h
      · rename_i r1 hr
        split at h
        · rename_i hl
          simp only [Option.some.injEq] at h
          subst h
          exact AGives.lent (hc f args' [] _ _ hr) q1 q2 (bareB_ok _ hl)
        · cases h
      · cases h
    · cases h

theorem ACalls.toldT {f : FuncId} {args : List AVal} {objs o1 o2 : Objs} {r0 r : AVal} (h : ACalls P f args objs fun r' o' => r' = r0 ∧ o' = o1) (ht : Told objs.length r0 o1 r o2) : ACalls P f args objs fun r' o' => r' = r ∧ o' = o2 := by
  unfold ACalls at h ⊢
  intro K w vs hm ha
  refine (h K w vs hm ha).mono ?_
  rintro e w' ⟨v, _, _, K', he, hle, hm', hrep, rfl, rfl⟩
  obtain ⟨K2, hle2, hm2, hr2⟩ := ht K K' w' v hm.len.symm hle hm' hrep
  exact ⟨v, r, o2, K2, he, hle2, hm2, hr2, rfl, rfl⟩

/-- No object from number n on is named (to a depth). -/
def lowN (n : Nat) : Nat → AVal → Bool
  | 0, _ => false
  | _ + 1, .any => true
  | _ + 1, .lit _ => true
  | d + 1, .agg cs => cs.all (lowN n d)
  | d + 1, .tup cs => cs.all (lowN n d)
  | d + 1, .seq _ m _ f => (List.range m).all fun i => (f i).all (lowN n d)
  | d + 1, .ref cs => cs.all (lowN n d)
  | d + 1, .fn _ xs ys => xs.all (lowN n d) && ys.all (lowN n d)
  | d + 1, .ifc _ a => lowN n d a
  | _ + 1, .ptr o _ _ _ _ => Nat.blt o n
  | _ + 1, .own o _ _ _ _ => Nat.blt o n
  | _ + 1, .sub o _ _ _ _ _ _ => Nat.blt o n
  | _ + 1, .map o => Nat.blt o n
  | _ + 1, _ => false

theorem lowN_sound {n : Nat} : ∀ (d : Nat) {x : AVal}, lowN n d x = true → Low n x
  | 0, x, h => by simp [lowN] at h
  | d + 1, x, h => by
    cases x with
    | any => exact .any
    | lit v => exact .lit v
    | agg cs => exact .agg cs fun y hy => lowN_sound d (List.all_eq_true.1 h y hy)
    | tup cs => exact .tup cs fun y hy => lowN_sound d (List.all_eq_true.1 h y hy)
    | seq k m t f => exact .seq k m t f fun i hi y hy => lowN_sound d (List.all_eq_true.1 (List.all_eq_true.1 h i (List.mem_range.2 hi)) y hy)
    | ref cs => exact .ref cs fun y hy => lowN_sound d (List.all_eq_true.1 h y hy)
    | fn f xs ys =>
      simp only [lowN, Bool.and_eq_true] at h
      exact .fn f xs ys (fun y hy => lowN_sound d (List.all_eq_true.1 h.1 y hy)) (fun y hy => lowN_sound d (List.all_eq_true.1 h.2 y hy))
    | ifc t a => exact .ifc t a (lowN_sound d h)
    | ptr o _ _ _ _ => exact .ptr _ _ _ _ _ (by simpa [lowN] using h)
    | own o _ _ _ _ => exact .own _ _ _ _ _ (by simpa [lowN] using h)
    | sub o _ _ _ _ _ _ => exact .sub _ _ _ _ _ _ _ (by simpa [lowN] using h)
    | map o => exact .map _ (by simpa [lowN] using h)
    | _ => simp [lowN] at h

def lowOb (n : Nat) : AObj → Bool
  | .dead => true
  | .row _ _ es => es.all fun e => e.all (lowN n 60)
  | .other _ => false

theorem lowOb_sound {n : Nat} {x : AObj} (h : lowOb n x = true) : LowObj n x := by
  cases x with
  | dead => trivial
  | row t k es => exact fun e he y hy => lowN_sound 60 (List.all_eq_true.1 (List.all_eq_true.1 h e he) y hy)
  | other x => cases h

/-- A call that lets go what it made. -/
def cutC (b : Bool) (n : Nat) (r : Option (AVal × Objs)) : Option (AVal × Objs) :=
  match b with
  | false => r
  | true =>
    (match r with
     | none => none
     | some (v, o) => (match Nat.ble n o.length && (lowN n 60 v && (o.take n).all fun p => lowOb n p.2) with | true => some (v, o.take n) | false => some (v, o)))

structure Hn where
  own : FuncId → Bool
  cut : FuncId → Bool

/-- THE CLOSED RUN of a call: ora, contracts that are known; hint, the functions whose result is written later. -/
noncomputable def callT (P : Program) (ora : CallF) (hint : Hn) : Nat → CallF
  | 0, _, _, _ => none
  | n + 1, f, args, objs =>
    match ora f args objs with
    | some r => some r
    | none =>
      match hint.own f || !args.all (lowB 60) with
      | true => cutC (hint.cut f) objs.length (runT P (callT P ora hint n) (lowT (callT P ora hint n)) (hint.own f) f args objs)
      | false =>
        match runT P (callT P ora hint n) (lowT (callT P ora hint n)) (hint.own f) f args [] with
        | some (r0, o) => (match frz o 60 r0 with | some r => some (r, objs) | none => runT P (callT P ora hint n) (lowT (callT P ora hint n)) (hint.own f) f args objs)
        | none => none

theorem cutC_sound {b : Bool} {x : Option (AVal × Objs)} {f : FuncId} {args : List AVal} {objs o' : Objs} {r : AVal} (h : cutC b objs.length x = some (r, o')) (hx : ∀ r0 o0, x = some (r0, o0) → ACalls P f args objs fun r' o1 => r' = r0 ∧ o1 = o0) : ACalls P f args objs fun r' o1 => r' = r ∧ o1 = o' := by
  unfold cutC at h
  split at h
  · exact hx r o' h
  · split at h
    · cases h
    · rename_i v o
      split at h
      · rename_i hb
        simp only [Option.some.injEq, Prod.mk.injEq] at h
        obtain ⟨rfl, rfl⟩ := h
        simp only [Bool.and_eq_true, List.all_eq_true] at hb
        obtain ⟨h1, h2, h3⟩ := hb
        have h1 := Nat.le_of_ble_eq_true h1
        have hl : (o.take objs.length).length = objs.length := by simp; omega
        have hcut : Told objs.length v o v (o.take objs.length) := by
          have := told_cut (r := v) (base := o.take objs.length) (new := o.drop objs.length) (by rw [hl]; exact lowN_sound 60 h2) (fun p hp => by rw [hl]; exact lowOb_sound (h3 p hp))
          rw [hl, List.take_append_drop] at this
          exact this
        exact ACalls.toldT (hx v o rfl) hcut
      · simp only [Option.some.injEq, Prod.mk.injEq] at h
        obtain ⟨rfl, rfl⟩ := h
        exact hx _ _ rfl

theorem callT_sound {ora : CallF} (ho : GoodCall P ora) {hint : Hn} : ∀ n, GoodCall P (callT P ora hint n) := by
  intro n
  induction n with
  | zero => intro f args objs r o' h; simp [callT] at h
  | succ n ih =>
    intro f args objs r o' h
    simp only [callT] at h
    split at h
    · rename_i r1 hr
      simp only [Option.some.injEq] at h
      subst h
      exact ho f args objs r o' hr
    · split at h
      · exact cutC_sound h fun r0 o0 hr => runT_sound ih (lowT_sound ih) hr
      · rename_i hb
        simp only [Bool.or_eq_false_iff, Bool.not_eq_false'] at hb
        split at h
        · rename_i r0 o hr
          split at h
          · rename_i r1 hz
            simp only [Option.some.injEq, Prod.mk.injEq] at h
            obtain ⟨rfl, rfl⟩ := h
            obtain ⟨ht, hl⟩ := frz_sound _ _ _ hz
            have hcall := runT_sound ih (lowT_sound ih) hr
            have := ACalls.toldT (o2 := []) hcall (told_turn0 [] List.nodup_nil .nil ht)
            exact AGives.frame this (fun x hx => lowB_sound _ (List.all_eq_true.1 hb.2 x hx)) hl objs
          · exact runT_sound ih (lowT_sound ih) h
        · cases h

def noOra : CallF := fun _ _ _ => none

theorem noOra_good : GoodCall P noOra := fun _ _ _ _ _ h => by cases h

/-- A closed call, by the kernel. -/
theorem AGives.closedT {ora : CallF} (ho : GoodCall P ora) {hint : Hn} (n : Nat) {f : FuncId} {args : List AVal} {r : AVal} {objs : Objs} (h : lowT (callT P ora hint n) f args objs = some r) : AGives P f args objs r :=
  lowT_sound (callT_sound ho n) f args objs r h

end
end Go.Fw

namespace Go.Fw
set_option linter.unusedSimpArgs false
set_option linter.unusedVariables false
open Go.RowKit

abbrev Tbl := List (FuncId × List AVal × AVal)

def argsSub : List AVal → List AVal → Bool
  | [], [] => true
  | x :: xs, y :: ys => match subA 60 x y with | true => argsSub xs ys | false => false
  | _, _ => false

def findE : Tbl → FuncId → List AVal → Option AVal
  | [], _, _ => none
  | (g, aS, r) :: rest, f, args =>
    match Nat.beq g f with
    | true => (match argsSub args aS with | true => some r | false => findE rest f args)
    | false => findE rest f args

noncomputable def tblO (m : Nat) (tbl : Tbl) (base : CallF) : CallF := fun f args objs =>
  match hasB m f with
  | true => (match findE tbl f args with | some r => some (r, objs) | none => base f args objs)
  | false => base f args objs

/-- Rows, one after the other. -/
def rowsF (l : List (List AVal)) : Nat → List AVal := fun i => l.getD i []
def bs (l : List Nat) : ByteArray := ⟨⟨l.map UInt8.ofNat⟩⟩

def GoodTbl (P : Program) (tbl : Tbl) : Prop := ∀ f args r, (f, args, r) ∈ tbl → ∀ objs, AGives P f args objs r

section
variable {P : Program} {ora : CallF} {hint : Hn}

theorem GoodTbl.nil : GoodTbl P [] := fun _ _ _ h => by simp at h
theorem GoodTbl.cons {tbl : Tbl} {f : FuncId} {args : List AVal} {r : AVal} (h : ∀ objs, AGives P f args objs r) (ht : GoodTbl P tbl) : GoodTbl P ((f, args, r) :: tbl) := fun f' args' r' hm => by
  rcases List.mem_cons.1 hm with e | hm
  · simp only [Prod.mk.injEq] at e
    obtain ⟨rfl, rfl, rfl⟩ := e
    exact h
  · exact ht f' args' r' hm

theorem argsSub_reps : ∀ {xs ys : List AVal}, argsSub xs ys = true → ∀ {K : Ctx} {vs : List Value}, Reps K xs vs → Reps K ys vs
  | [], [], _, K, vs, h => h
  | x :: xs, y :: ys, hb, K, vs, h => by
    unfold argsSub at hb
    split at hb
    · rename_i hs
      cases vs with
      | nil => have := h.1; simp at this
      | cons v vs =>
        have h1 : Rep K x v := h.2 0 x v rfl rfl
        have h2 : Reps K xs vs := ⟨by have := h.1; simpa using this, fun i x v h1 h2 => h.2 (i + 1) x v (by simpa using h1) (by simpa using h2)⟩
        exact Reps.cons (subA_sound _ _ _ hs K v h1) (argsSub_reps hb h2)
    · cases hb
  | [], _ :: _, hb, _, _, _ => by simp [argsSub] at hb
  | _ :: _, [], hb, _, _, _ => by simp [argsSub] at hb

theorem findE_some : ∀ {tbl : Tbl} {f : FuncId} {args : List AVal} {r : AVal}, findE tbl f args = some r → ∃ aS, (f, aS, r) ∈ tbl ∧ argsSub args aS = true
  | (g, aS, r') :: rest, f, args, r, h => by
    unfold findE at h
    split at h
    · rename_i hg
      have hg := Nat.eq_of_beq_eq_true hg
      subst hg
      split at h
      · rename_i hs
        simp only [Option.some.injEq] at h
        subst h
        exact ⟨aS, List.mem_cons_self .., hs⟩
      · obtain ⟨as', h1, h2⟩ := findE_some h
        exact ⟨as', List.mem_cons_of_mem _ h1, h2⟩
    · obtain ⟨as', h1, h2⟩ := findE_some h
      exact ⟨as', List.mem_cons_of_mem _ h1, h2⟩

theorem tblO_good {m : Nat} {tbl : Tbl} {base : CallF} (ht : GoodTbl P tbl) (hb : GoodCall P base) : GoodCall P (tblO m tbl base) := by
  intro f args objs r o' h
  unfold tblO at h
  split at h
  · split at h
    · rename_i r1 hr
      simp only [Option.some.injEq, Prod.mk.injEq] at h
      obtain ⟨rfl, rfl⟩ := h
      obtain ⟨aS, h1, h2⟩ := findE_some hr
      intro K w vs hm hreps
      exact ht f aS _ h1 objs K w vs hm (argsSub_reps h2 hreps)
    · exact hb f args objs r o' h
  · exact hb f args objs r o' h

/-- Memory behind a call that turns nothing of what was there. -/
theorem MemSat.over {K : Ctx} {o : Objs} {w w' : World} (h : MemSat K o w) (hw : Below w.heap.size w w') : MemSat K o w' := by
  refine ⟨h.len, h.ver, fun q p hp => ?_, fun q p hp hl hC => ?_, h.dis, fun b i u hu => ?_, ⟨hw.os.trans h.below.os, hw.tape.trans h.below.tape, hw.output.trans h.below.output, Nat.le_trans h.below.size hw.size, fun b x hx => ?_⟩⟩
  · exact ObjSat.mono (.refl K) (h.olt hp) (by rw [h.ver q p hp]; exact Nat.le_refl _) (h.obj q p hp) fun hl hC => hw.block _ (h.lo q p hp hl hC).2.1
  · obtain ⟨g1, g2, g3⟩ := h.lo q p hp hl hC
    exact ⟨g1, Nat.lt_of_lt_of_le g2 hw.size, g3⟩
  · have := h.mem b i u hu
    refine ⟨?_, this.2⟩
    rw [← this.1]
    simp only [World.cell?, hw.block b (h.M_lt hu)]
  · have hb := h.below.block b x hx
    rw [hw.block b (Array.getElem?_eq_some_iff.1 hb).1]
    exact hb

/-- A call by itself, against what is printed. -/
noncomputable def chkE (call : CallF) (f : FuncId) (args : List AVal) (r : AVal) : Bool :=
  match args.all (lowB 60) with
  | true => (match lowT call f args [] with | some u => subA 60 u r | none => false)
  | false => false

theorem entry (ho : GoodCall P ora) (n : Nat) {f : FuncId} {args : List AVal} {r : AVal} (h : chkE (callT P ora hint n) f args r = true) (objs : Objs) : AGives P f args objs r := by
  unfold chkE at h
  split at h
  · rename_i hl
    split at h
    · rename_i u hu
      have h1 : lowT (callT P ora hint n) f args objs = some u := by
        unfold lowT at hu ⊢
        rw [hl] at hu ⊢
        exact hu
      have h2 := lowT_sound (callT_sound ho n) f args objs u h1
      intro K w vs hm hreps
      refine (h2 K w vs hm hreps).mono ?_
      rintro e w' ⟨v, r', o', K', rfl, hle, hm', hr, rfl, rfl⟩
      exact ⟨v, r, _, K', rfl, hle, hm', subA_sound _ _ _ h K' v hr, rfl, rfl⟩
    · cases h
  · cases h

end
end Go.Fw

namespace Go.Proofs.YtalhamokkblnjaaGreatDoor
set_option linter.unusedSimpArgs false
set_option linter.unusedVariables false
open Go.Shelf Go.RowKit

def rptRen : Ren :=
  { f := fun x => match x with
      | 105 => 267
      | 212 => 369
      | 99 => 370
      | 165 => 371
      | 166 => 143
      | 170 => 367
      | 169 => 106
      | 263 => 485
      | 264 => 486
      | 206 => 487
      | 240 => 198
      | 241 => 488
      | 276 => 262
      | 277 => 563
      | n => n
    t := fun x => match x with
      | 9 => 9
      | 3 => 3
      | 4 => 4
      | 20 => 20
      | 0 => 0
      | 46 => 258
      | 109 => 463
      | 5 => 5
      | 72 => 165
      | 76 => 237
      | 51 => 461
      | 146 => 540
      | 53 => 108
      | 148 => 542
      | 70 => 163
      | 37 => 131
      | 75 => 236
      | 127 => 244
      | 164 => 361
      | 80 => 179
      | n => n
    g := fun x => x }

theorem rptLays : Lays.n105 Tryz.prog rptRen where
  mixed := by kernel_rfl
  f99 := Tryz.func370.trans (by kernel_rfl)
  f105 := Tryz.func267.trans (by kernel_rfl)
  f165 := Tryz.func371.trans (by kernel_rfl)
  f166 := Tryz.func143.trans (by kernel_rfl)
  f169 := Tryz.func106.trans (by kernel_rfl)
  f170 := Tryz.func367.trans (by kernel_rfl)
  f206 := Tryz.func487.trans (by kernel_rfl)
  f212 := Tryz.func369.trans (by kernel_rfl)
  f240 := Tryz.func198.trans (by kernel_rfl)
  f241 := Tryz.func488.trans (by kernel_rfl)
  f263 := Tryz.func485.trans (by kernel_rfl)
  f264 := Tryz.func486.trans (by kernel_rfl)
  f276 := Tryz.func262.trans (by kernel_rfl)
  f277 := Tryz.func563.trans (by kernel_rfl)
  t0 := Tryz.underlying0
  a0 := Tryz.isAgg0
  z0 := Tryz.sizeOf0
  v0 := Tryz.zeroValue0
  t3 := Tryz.underlying3
  a3 := Tryz.isAgg3
  z3 := Tryz.sizeOf3
  v3 := Tryz.zeroValue3
  t4 := Tryz.underlying4
  a4 := Tryz.isAgg4
  z4 := Tryz.sizeOf4
  v4 := Tryz.zeroValue4
  t5 := Tryz.underlying5
  a5 := Tryz.isAgg5
  z5 := Tryz.sizeOf5
  v5 := Tryz.zeroValue5
  t9 := Tryz.underlying9
  a9 := Tryz.isAgg9
  z9 := Tryz.sizeOf9
  v9 := Tryz.zeroValue9
  t20 := Tryz.underlying20
  a20 := Tryz.isAgg20
  z20 := Tryz.sizeOf20
  v20 := Tryz.zeroValue20
  t37 := Tryz.underlying131
  a37 := Tryz.isAgg131
  z37 := Tryz.sizeOf131
  v37 := Tryz.zeroValue131
  t46 := Tryz.underlying258
  a46 := Tryz.isAgg258
  z46 := Tryz.sizeOf258
  v46 := Tryz.zeroValue258
  t51 := Tryz.underlying461
  a51 := Tryz.isAgg461
  z51 := Tryz.sizeOf461
  v51 := Tryz.zeroValue461
  t53 := Tryz.underlying108
  a53 := Tryz.isAgg108
  z53 := Tryz.sizeOf108
  v53 := Tryz.zeroValue108
  t70 := Tryz.underlying163
  a70 := Tryz.isAgg163
  z70 := Tryz.sizeOf163
  v70 := Tryz.zeroValue163
  t72 := Tryz.underlying165
  a72 := Tryz.isAgg165
  z72 := Tryz.sizeOf165
  v72 := Tryz.zeroValue165
  t75 := Tryz.underlying236
  a75 := Tryz.isAgg236
  z75 := Tryz.sizeOf236
  v75 := Tryz.zeroValue236
  t76 := Tryz.underlying237
  a76 := Tryz.isAgg237
  z76 := Tryz.sizeOf237
  v76 := Tryz.zeroValue237
  t109 := Tryz.underlying463
  a109 := Tryz.isAgg463
  z109 := Tryz.sizeOf463
  v109 := Tryz.zeroValue463
  t127 := Tryz.underlying244
  a127 := Tryz.isAgg244
  z127 := Tryz.sizeOf244
  v127 := Tryz.zeroValue244
  t146 := Tryz.underlying540
  a146 := Tryz.isAgg540
  z146 := Tryz.sizeOf540
  v146 := Tryz.zeroValue540
  t148 := Tryz.underlying542
  a148 := Tryz.isAgg542
  z148 := Tryz.sizeOf542
  v148 := Tryz.zeroValue542
  t164 := Tryz.underlying361
  a164 := Tryz.isAgg361
  z164 := Tryz.sizeOf361
  v164 := Tryz.zeroValue361

theorem rptExtra : Builder.Extra Tryz.prog rptRen where
  sizeBuilder := by kernel_rfl
  liesBuilder := by kernel_rfl
  t5 := Tryz.underlying5
  a5 := Tryz.isAgg5
  z5 := Tryz.sizeOf5
  v5 := Tryz.zeroValue5
  infoByte := by kernel_rfl
  cellsByte := by kernel_rfl
  sizeByte := by kernel_rfl
  neB5 := by decide

end Go.Proofs.YtalhamokkblnjaaGreatDoor
