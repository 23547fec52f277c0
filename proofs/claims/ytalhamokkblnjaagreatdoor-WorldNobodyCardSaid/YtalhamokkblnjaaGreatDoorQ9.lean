/-
  The evaluator of this claim, part 9: what it reckons is so of the program. No condition.
-/
import Derived.Test.YtalhamokkblnjaaGreatDoorQ7
import Derived.RangeFuncFrom
import Derived.RangeFuncCalls
import Derived.RangeFuncLeaves
import Derived.TacticsIn
import Derived.Sort.LoopGhostIn
import Derived.Test.YtalhamokkblnjaaGreatDoorQ8
import Derived.OrdersIn

namespace Go.Fw
set_option linter.unusedSimpArgs false
set_option linter.unusedVariables false
open Go.RowKit

theorem wpOps_in {P : Program} {l n : Nat} {ops : Array Oper} {Q : Exit → Act → World → Prop} (hQ : ¬ LetsOut Q) (hop : ∀ o ∈ ops.toList, ∀ c, o.op ≠ .defer c) : ∀ (is : List Nat) (a : Act) (w : World),
    wpOps P ops Q is a w → wpOpsIn (Fence.wide.inRound l) n P ops Q is a w
  | [], a, w, h => h
  | i :: rest, a, w, h => by
    simp only [wpOps] at h
    simp only [wpOpsIn]
    cases ho : ops[i]? with
    | none =>
      simp only [ho] at h ⊢
      exact wpOps_in hQ hop rest a w h
    | some o =>
      simp only [ho] at h ⊢
      by_cases hw : Region.wanted o (yielded ops a.tmps) = true
      · simp only [hw, if_true] at h ⊢
        rcases h with h | ⟨_, h⟩
        · refine ⟨fun _ _ => trivial, ?_⟩
          have hm : o ∈ ops.toList := List.mem_of_getElem? (by simpa using ho)
          rw [Fence.inRound_round, Oper.semAt_some l _ o (hop o hm)]
          unfold Oper.wp at h
          have ih := fun a w => wpOps_in (P := P) (l := l) (n := n) hQ hop rest a w
          revert h
          generalize (execOp a.eval o).run P w = r
          intro h
          cases r with
          | ok nx w' =>
            cases nx with
            | value v => exact ih _ _ h
            | skip => exact ih _ _ h
            | defer d => exact ih _ _ h
            | enter f args =>
              refine ⟨fun hd => by simp [Fence.inRound, Fence.wide] at hd, ?_⟩
              refine CallsIn.inRound l (callsIn_wide.2 ?_)
              refine Calls.mono h ?_
              intro e w'' hr
              cases e with
              | returned v => exact ih _ _ hr
              | panicked chain => exact hr
              | outgrown => exact hr
            | row row args =>
              refine ⟨fun hd => by simp [Fence.inRound, Fence.wide] at hd, fun c cs _ => ?_⟩
              obtain ⟨v, w'', hr, hs⟩ := h c cs
              exact ⟨v, w'', ih _ _ hr, stepsIn_wide.2 hs⟩
            | _ => exact h.elim
          | halt r w' =>
            cases r with
            | panic v => exact h
            | _ => exact h.elim
        · exact absurd h hQ
      · simp only [hw, Bool.false_eq_true, if_false] at h ⊢
        exact ⟨fun _ _ => trivial, wpOps_in hQ hop rest _ w h⟩

theorem MemSat.cells {K : Ctx} {s : Objs} {w : World} (h : MemSat K s w) {o : Nat} {q : Nat × AObj} (hq : s[o]? = some q) (hl : q.2.live = true) (hC : K.C o q.1 ≠ 0) (hr : ∃ t k es, q.2 = .row t k es) : ∃ c t fr, w.heap[K.ρ o q.1]? = some (.cells c t fr) := by
  obtain ⟨ver, x⟩ := q
  obtain ⟨t, k, es, rfl⟩ := hr
  obtain ⟨_, _, h3⟩ := h.obj o _ hq
  obtain ⟨c, ⟨fr, _, hc⟩, _⟩ := h3 hC
  exact ⟨c, t, fr, hc⟩

theorem cells_of_cell {w : World} {b i : Nat} {u : Value} (h : w.cell? ⟨b, i, none⟩ = some u) : ∃ c t fr, w.heap[b]? = some (.cells c t fr) := by
  unfold World.cell? at h
  split at h
  · rename_i c t fr e
    exact ⟨c, t, fr, e⟩
  · simp at h

/-- What a range over a function may turn beside the body: it leaves objects that are rows alone. -/
theorem MemSat.turned {K : Ctx} {s : Objs} {W W' : World} {row : Option Nat} {B0 : Nat} (h : MemSat K s W) (hrows : ∀ q ∈ s, q.2.live = true → ∃ t k es, q.2 = .row t k es) (hB : ∀ b x, K.B b = some x → b < B0)
    (hg : W.grownBy W' row) (hr : ∀ r, row = some r → B0 ≤ r ∧ ∃ o : Obj, W.heap[r]? = some o ∧ o.isCells = false) : MemSat K s W' := by
  have same : ∀ (b : Nat) (c : Array Value) (t : TypeId) (fr : Nat × Nat), W.heap[b]? = some (.cells c t fr) → W'.heap[b]? = W.heap[b]? := by
    intro b c t fr hb
    refine hg.block b (Array.getElem?_eq_some_iff.1 hb).1 fun e => ?_
    obtain ⟨_, o, ho, hn⟩ := hr b e.symm
    rw [hb] at ho
    cases ho
    simp [Obj.isCells] at hn
  have own : ∀ (o : Nat) (p : Nat × AObj), s[o]? = some p → p.2.live = true → K.C o p.1 ≠ 0 → W'.heap[K.ρ o p.1]? = W.heap[K.ρ o p.1]? := by
    intro o p hp hl hC
    obtain ⟨c, t, fr, hc⟩ := h.cells hp hl hC (hrows p (List.mem_of_getElem? hp) hl)
    exact same _ _ _ _ hc
  refine ⟨h.len, h.ver, fun o p hp => ObjSat.mono (Ctx.le.refl K) (h.olt hp) (by rw [h.ver o p hp]; exact Nat.le_refl _) (h.obj o p hp) (fun hl hC => own o p hp hl hC), fun o p hp hl hC => ?_, h.dis, fun b i u hu => ?_, ?_⟩
  · obtain ⟨h1, h2, h3⟩ := h.lo o p hp hl hC
    exact ⟨h1, Nat.lt_of_lt_of_le h2 hg.size, h3⟩
  · obtain ⟨h1, h2⟩ := h.mem b i u hu
    obtain ⟨c, t, fr, hc⟩ := cells_of_cell h1
    exact ⟨(World.cell?_of_block (a := ⟨b, i, none⟩) (same _ _ _ _ hc)).trans h1, h2⟩
  · refine h.below.step rfl rfl hg.os hg.tape hg.output hg.size fun b x hx => hg.block b (h.below.lt hx) fun e => ?_
    have := (hr b e.symm).1
    have := hB b x hx
    omega

/-- What a round protects: what is protected, and all that is no row of cells. -/
def roundB (B : Nat → Option Obj) (W : World) (b : Nat) : Option Obj :=
  match B b with
  | some x => some x
  | none => match W.heap[b]? with | some (.cells ..) => none | some x => some x | none => none

theorem roundB_of {B : Nat → Option Obj} {W : World} {b : Nat} {x : Obj} (h : B b = some x) : roundB B W b = some x := by simp only [roundB, h]
theorem roundB_cells {B : Nat → Option Obj} {W : World} {b : Nat} {c : Array Value} {t : TypeId} {fr : Nat × Nat} (h : B b = none) (hb : W.heap[b]? = some (.cells c t fr)) : roundB B W b = none := by simp only [roundB, h, hb]
theorem roundB_heap {B : Nat → Option Obj} {W : World} {b : Nat} {x : Obj} (h : roundB B W b = some x) : B b = some x ∨ (W.heap[b]? = some x ∧ x.isCells = false) := by
  unfold roundB at h
  split at h
  · rename_i y hy
    simp only [Option.some.injEq] at h
    subst h
    exact .inl hy
  · right
    split at h
    · cases h
    · rename_i y hne hy
      simp only [Option.some.injEq] at h
      subst h
      refine ⟨hy, ?_⟩
      cases y with
      | cells c t fr => exact (hne _ _ _ rfl).elim
      | _ => rfl
    · cases h

theorem roundB_same {B : Nat → Option Obj} {W W' : World} (hp : ∀ b x, roundB B W b = some x → W'.heap[b]? = some x) (hB : ∀ b x, B b = some x → W.heap[b]? = some x) (hsz : W.heap.size ≤ W'.heap.size) : KeepsOthers W W' := by
  refine ⟨hsz, fun k o hk hn => hp k o ?_⟩
  unfold roundB
  split
  · rename_i x hx
    rw [hB k x hx] at hk
    simpa using hk
  · rw [hk]
    cases o with
    | cells c t fr => simp [Obj.isCells] at hn
    | _ => rfl

section
variable {P : Program} {nt n0 : Nat}

/-- What holds ahead of a round. -/
def RoundI (nt : Nat) (K0 K : Ctx) (slots : List (Nat × AVal)) (objs : Objs) (tmps : Array Value) (W : World) : Prop :=
  ∃ K1 : Ctx, K0.le K1 ∧ K1.B = K.B ∧ Sat nt K1 ⟨slots, objs⟩ { tmps := tmps, defers := [] } W

theorem rangeW_region {α : Type} {g : Operand} {p q aid bid rid : Nat} {oa : Oper} {ops : Array Oper} {s : St} (e : α → Value) (S : List α → Prop) (N : Nat) (so : List α → Objs) (h0 : so [] = s.objs) (hp : p < nt) (hq : q < nt)
    (hoa : oa.op = .assign (.tmp p)) (hod : oa.dst = some q) (hog : oa.guard = none) (hfree : getSlot s.slots p = .any)
    (hrows : ∀ xs q, q ∈ so xs → q.2.live = true → ∃ t k es, q.2 = .row t k es)
    (hit : ∀ K a w, Sat nt K s a w → ∃ (gf : Nat) (lb : Array Value) (pc : Addr) (u : Value), a.eval g = .func (.func gf) #[] lb ∧ (∀ args w, (callFunc gf args).run P w = .ok (.enter gf args) w) ∧ pc.block < w.heap.size ∧
      (∀ K1 xs W, Sat nt K1 ⟨s.slots, so xs⟩ { tmps := a.tmps, defers := [] } W → W.cell? pc = some u) ∧
      SeqStopsK Fence.wide 2 P gf lb (fun x => #[e x]) (fun W W' => W.cell? pc = some u → W'.cell? pc = some u) S (fun _ => True) N w)
    (hdefer : ∀ o ∈ ops.toList, ∀ c, o.op ≠ .defer c)
    (hbody : ∀ pre x, pre.length < N → awpOps P nt ops ((q, .lit (e x)) :: s.slots) false ops.toList (startR ⟨(q, .lit (e x)) :: s.slots, so pre⟩) (fun rs => Weaker nt n0 ⟨s.slots, rs.objs⟩ ⟨s.slots, so (pre ++ [x])⟩)) :
    RangeW P nt n0 (.rangeFunc g #[p] (.region aid #[oa] false) (.block bid (.region rid ops false))) (fun e t => e = .normal ∧ ∃ xs, S xs ∧ t = ⟨s.slots, so xs⟩) s := by
  intro K0 K a w hn hle hs
  obtain ⟨gf, lb, pc, u, hg, eg, hpc, hkeep, hseq⟩ := hit K a w hs
  have hBlt : ∀ b x, K.B b = some x → b < w.heap.size := fun b x hx => hs.mem.below.lt hx
  refine (wpIn_wide (n := 3)).1 (wpIn_rangeFunc_ownF (F := Fence.wide) rfl (by decide) hg trivial eg hseq (fun h k q => k (h q)) ?_ (Below.refl _ w) (fun _ => rfl)
    (fun xs W => RoundI nt K0 K s.slots (so xs) a.tmps W) (fun _ _ _ => False) ?_ (fun _ _ _ _ _ h => h.elim) ?_ (fun x => { tmps := (a.tmps.setIfInBounds p (e x)).setIfInBounds q (e x), defers := [] }) ?_ ?_ ?_ (fun _ _ _ _ _ _ h => h.elim))
  · intro W l o o' hl ho _ _ hc
    have hne : pc.block ≠ l := by omega
    exact (World.cell?_of_block (World.putObj_heap_other hne)).trans hc
  · rintro xs W W' row ⟨K1, hle1, hB1, hs1⟩ hg' hr
    exact ⟨K1, hle1, hB1, hs1.mem.turned (hrows xs) (fun b x hx => hBlt b x (by rw [← hB1]; exact hx)) hg' hr, hs1.slot, hs1.size, Marks.nil⟩
  · exact ⟨K, hle, rfl, by rw [h0]; exact hs.mem, hs.slot, hs.size, Marks.nil⟩
  · intro l x W Kq hK
    refine wpIn_region ?_
    have hz : (#[p].zip #[e x]) = #[(p, e x)] := by simp
    have hsz : a.tmps.size = nt := hs.size
    have hv : (a.tmps.setIfInBounds p (e x)).getD p undef = e x := by
      rw [Array.getD_eq_getD_getElem?, Array.getElem?_setIfInBounds_self_of_lt (by omega)]
      rfl
    simp only [hz]
    show wpOpsIn (Fence.wide.inRound l) _ P #[oa] _ [0] _ _
    simp only [wpOpsIn, List.getElem?_toArray, List.getElem?_cons_zero, Region.wanted, hog, if_true]
    refine ⟨fun f hf => by simp [Oper.about, hoa] at hf, ?_⟩
    rw [Oper.semAt_eq _ _ _ (by simp [hoa])]
    unfold execOp
    rw [hoa]
    show Kq (Act.put _ oa.dst _) W
    rw [hod]
    show Kq { tmps := (a.tmps.setIfInBounds p (e x)).setIfInBounds q ((a.tmps.setIfInBounds p (e x)).getD p undef), defers := [] } W
    rw [hv]
    exact hK
  · rintro l pre x W ⟨K1, hle1, hB1, hs1⟩ hlen
    have hBW : ∀ b y, K.B b = some y → W.heap[b]? = some y := fun b y hy => hs1.mem.below.block b y (by rw [hB1]; exact hy)
    have hm2 : MemSat { K1 with B := roundB K.B W, w0 := W } (so pre) W := by
      refine hs1.mem.with _ W (fun o q hq hl hC => ?_) ⟨rfl, rfl, rfl, Nat.le_refl _, fun b y hy => ?_⟩
      · obtain ⟨c, t, fr, hc⟩ := hs1.mem.cells hq hl hC (hrows pre q (List.mem_of_getElem? hq) hl)
        refine roundB_cells ?_ hc
        rw [← hB1]
        exact (hs1.mem.lo o q hq hl hC).1
      · rcases roundB_heap hy with h | h
        · exact hBW b y h
        · exact h.1
    obtain ⟨Kb, hKb⟩ : ∃ Kb : Ctx, Kb = { K0 with B := roundB K.B W, w0 := W, M := fun b i => match roundB K.B W b with | some _ => K1.M b i | none => K0.M b i } := ⟨_, rfl⟩
    have hKbM : ∀ b i u, K0.M b i = some u → Kb.M b i = some u := by
      intro b i u hu
      rw [hKb]
      show (match roundB K.B W b with | some _ => K1.M b i | none => K0.M b i) = some u
      split
      · exact hle1.M b i u hu
      · exact hu
    have hKb0 : ∀ b i y, roundB K.B W b = some y → Kb.M b i = K1.M b i := by
      intro b i y hy
      rw [hKb]
      show (match roundB K.B W b with | some _ => K1.M b i | none => K0.M b i) = _
      rw [hy]
    have hleb : Kb.le { K1 with B := roundB K.B W, w0 := W } := by
      refine ⟨fun b i u hu => ?_, by rw [hKb]; exact hle1.ρ, by rw [hKb]; exact hle1.C, by rw [hKb]; exact hle1.n, by rw [hKb]; exact hle1.vs, by rw [hKb], by rw [hKb]; exact fun _ _ h => h, fun b i y hy => ?_⟩
      · rw [hKb] at hu
        show K1.M b i = some u
        change (match roundB K.B W b with | some _ => K1.M b i | none => K0.M b i) = some u at hu
        split at hu
        · exact hu
        · exact hle1.M b i u hu
      · rw [hKb] at hy
        exact (hKb0 b i y hy).symm
    have hs2 : Sat nt { K1 with B := roundB K.B W, w0 := W } ⟨(q, .lit (e x)) :: s.slots, so pre⟩ { tmps := (a.tmps.setIfInBounds p (e x)).setIfInBounds q (e x), defers := [] } W := by
      refine ⟨hm2, fun t => ?_, by have := hs1.size; simpa using this, Marks.nil⟩
      show Rep _ (getSlot ((q, .lit (e x)) :: s.slots) t) _
      have hsz : a.tmps.size = nt := hs1.size
      rw [getSlot_cons]
      by_cases ht : q = t
      · subst ht
        rw [if_pos rfl]
        have : ((a.tmps.setIfInBounds p (e x)).setIfInBounds q (e x)).getD q undef = e x := by
          rw [Array.getD_eq_getD_getElem?, Array.getElem?_setIfInBounds_self_of_lt (by simp; omega)]
          rfl
        simp only [this]
        exact .lit _
      · rw [if_neg ht]
        by_cases hpt : p = t
        · subst hpt
          rw [hfree]
          exact .any _
        · have : ((a.tmps.setIfInBounds p (e x)).setIfInBounds q (e x)).getD t undef = a.tmps.getD t undef := by
            rw [Array.getD_eq_getD_getElem?, Array.getD_eq_getD_getElem?, Array.getElem?_setIfInBounds_ne ht, Array.getElem?_setIfInBounds_ne hpt]
          simp only [this]
          exact (hs1.slot t).monoR (leR_with K1 _ W)
    refine wpIn_block (wpIn_region ?_)
    refine wpOps_in ?_ hdefer _ _ _ ?_
    · rintro ⟨a', w', h⟩
      exact h
    rw [List.range_eq_range']
    refine awpOps_sound (K0 := { K1 with B := roundB K.B W, w0 := W }) (Kt := fun rs => Weaker nt n0 ⟨s.slots, rs.objs⟩ ⟨s.slots, so (pre ++ [x])⟩) ?_ ops.size 0 (by omega) _ _ _ _ (.refl _) hs2.start (by simpa using hbody pre x hlen)
    intro K2 rs a' w' hle2 hr hk
    have hs3 : Sat nt K2 ⟨s.slots, rs.objs⟩ { tmps := a.tmps, defers := [] } w' := ⟨hr.mem, fun t => ((hs1.slot t).monoR (leR_with K1 _ W)).mono hle2, hs1.size, Marks.nil⟩
    obtain ⟨K3, hle3, hs4⟩ := hk Kb K2 _ w' (by rw [hKb]; exact hn) (hleb.trans hle2) hs3
    have hblock : ∀ b y, roundB K.B W b = some y → w'.heap[b]? = some y := fun b y hy => hs4.mem.below.block b y (hle3.B b y (by rw [hKb]; exact hy))
    have hsz : W.heap.size ≤ w'.heap.size := by have := hs4.mem.below.size; rw [hle3.w0, hKb] at this; exact this
    have hmem : MemSat { K3 with B := K.B, w0 := K0.w0 } (so (pre ++ [x])) w' := by
      refine hs4.mem.with K.B K0.w0 (fun o q hq hl hC => ?_) ?_
      · cases hb : K.B (K3.ρ o q.1) with
        | none => rfl
        | some y =>
          have := hle3.B _ y (by rw [hKb]; exact roundB_of hb)
          rw [(hs4.mem.lo o q hq hl hC).1] at this
          cases this
      · have q := hs4.mem.below
        have q1 := hs1.mem.below
        have e0 := hle1.w0
        have e3 : K3.w0 = W := by rw [hle3.w0, hKb]
        refine ⟨?_, ?_, ?_, ?_, fun b y hy => hblock b y (roundB_of hy)⟩
        · rw [q.os, e3, q1.os, e0]
        · rw [q.tape, e3, q1.tape, e0]
        · rw [q.output, e3, q1.output, e0]
        · have := q1.size; rw [e0] at this; exact Nat.le_trans this hsz
    have hI : RoundI nt K0 K s.slots (so (pre ++ [x])) a.tmps w' := by
      refine ⟨{ K3 with B := K.B, w0 := K0.w0 }, ⟨fun b i u hu => hle3.M b i u (hKbM b i u hu), by have := hle3.ρ; rw [hKb] at this; exact this, by have := hle3.C; rw [hKb] at this; exact this, by have := hle3.n; rw [hKb] at this; exact this, by have := hle3.vs; rw [hKb] at this; exact this, rfl, hle.B, fun b i y hy => ((hle3.M0 b i y (by rw [hKb]; exact roundB_of (hle.B b y hy))).trans (hKb0 b i y (roundB_of (hle.B b y hy)))).trans (hle1.M0 b i y hy)⟩, rfl, hmem, fun t => (hs4.slot t).monoR (leR_with K3 _ _), hs1.size, Marks.nil⟩
    refine ⟨roundB_same hblock hBW hsz, fun _ => ?_, hI⟩
    obtain ⟨K4, _, _, hs5⟩ := hI
    exact hkeep K4 _ w' hs5
  · rintro D xs W hD hS ⟨K1, hle1, hB1, hs1⟩ hk
    have hB2 : ∀ b y, K.B b = some y → (if b = D then some (Obj.deferred (some [])) else K.B b) = some y := fun b y hy => by
      have := hBlt b y hy
      rw [if_neg (by omega)]
      exact hy
    refine ⟨.normal, { K1 with B := fun b => if b = D then some (.deferred (some [])) else K.B b }, ⟨s.slots, so xs⟩, rfl, ⟨hle1.M, hle1.ρ, hle1.C, hle1.n, hle1.vs, hle1.w0, fun b y hy => hB2 b y (hle.B b y hy), hle1.M0⟩, ⟨?_, fun t => (hs1.slot t).monoR (leR_with K1 _ K1.w0), hs1.size, ?_⟩, rfl, xs, hS, rfl⟩
    · refine hs1.mem.with _ K1.w0 (fun o q hq hl hC => ?_) ?_
      · obtain ⟨c, t, fr, hc⟩ := hs1.mem.cells hq hl hC (hrows xs q (List.mem_of_getElem? hq) hl)
        have hne : K1.ρ o q.1 ≠ D := fun e => by rw [e, hk] at hc; cases hc
        show (if K1.ρ o q.1 = D then _ else _) = none
        rw [if_neg hne, ← hB1]
        exact (hs1.mem.lo o q hq hl hC).1
      · have q1 := hs1.mem.below
        refine ⟨q1.os, q1.tape, q1.output, q1.size, fun b y hy => ?_⟩
        by_cases hb : b = D
        · subst hb
          simp only [if_true] at hy
          rw [hk]
          exact hy
        · simp only [if_neg hb] at hy
          exact q1.block b y (by rw [hB1]; exact hy)
    · have hw0 : K1.w0 = K.w0 := hle1.w0.trans hle.w0.symm
      refine ⟨List.nodup_cons.2 ⟨fun hin => ?_, hs.defers.1⟩, fun d hd => ?_⟩
      · obtain ⟨D', h1, h2, _⟩ := hs.defers.2 _ hin
        simp only [Deferred.mk.injEq, Target.collected.injEq, and_true] at h1
        subst h1
        have := hBlt _ _ h2
        omega
      · rcases List.mem_cons.1 hd with rfl | hd
        · refine ⟨D, rfl, by simp, ?_⟩
          show K1.w0.heap.size ≤ D
          rw [hw0]
          exact Nat.le_trans hs.mem.below.size hD
        · obtain ⟨D', h1, h2, h3⟩ := hs.defers.2 d hd
          refine ⟨D', h1, hB2 _ _ h2, ?_⟩
          show K1.w0.heap.size ≤ D'
          rw [hw0]
          exact h3

/-- The same, as a walk in the form that computes meets it. -/
theorem range_next {α : Type} {g : Operand} {p q aid bid rid : Nat} {oa : Oper} {ops : Array Oper} {sl : List (Nat × AVal)} {o : Objs} {Q : CQ} (e : α → Value) (ys : List α) (so : List α → Objs) (h0 : so [] = o) (hp : p < nt) (hq : q < nt)
    (hoa : oa.op = .assign (.tmp p)) (hod : oa.dst = some q) (hog : oa.guard = none) (hfree : getSlot sl p = .any)
    (hrows : ∀ xs q, q ∈ so xs → q.2.live = true → ∃ t k es, q.2 = .row t k es)
    (hit : ∀ K a w, Sat nt K ⟨sl, o⟩ a w → ∃ (gf : Nat) (lb : Array Value) (pc : Addr) (u : Value), a.eval g = .func (.func gf) #[] lb ∧ (∀ args w, (callFunc gf args).run P w = .ok (.enter gf args) w) ∧ pc.block < w.heap.size ∧
      (∀ K1 xs W, Sat nt K1 ⟨sl, so xs⟩ { tmps := a.tmps, defers := [] } W → W.cell? pc = some u) ∧
      SeqStopsK Fence.wide 2 P gf lb (fun x => #[e x]) (fun W W' => W.cell? pc = some u → W'.cell? pc = some u) (fun zs => zs = ys) (fun _ => True) ys.length w)
    (hdefer : (ops.toList.all fun o => match o.op with | .defer _ => false | _ => true) = true)
    (hbody : ∀ pre x, pre.length < ys.length → cops P nt ops ((q, .lit (e x)) :: sl) false ops.toList [] [] (so pre) (fun _ _ o => Weaker nt n0 ⟨sl, o⟩ ⟨sl, so (pre ++ [x])⟩))
    (hQ : Q .normal sl (so ys)) :
    ∃ R : AExit → List (Nat × AVal) → Objs → Prop, RangeW P nt n0 (.rangeFunc g #[p] (.region aid #[oa] false) (.block bid (.region rid ops false))) (fun e t => R e t.slots t.objs) ⟨sl, o⟩ ∧ ∀ e s o, R e s o → Q e s o := by
  refine ⟨fun e s o => e = .normal ∧ s = sl ∧ o = so ys, ?_, ?_⟩
  · intro K0 K a w hn hle hs
    refine wp_mono (rangeW_region (P := P) (nt := nt) (n0 := n0) (s := ⟨sl, o⟩) e (fun zs => zs = ys) ys.length so h0 hp hq hoa hod hog hfree hrows hit ?_ ?_ K0 K a w hn hle hs) ?_
    · intro o ho c hc
      have := List.all_eq_true.1 hdefer o ho
      rw [hc] at this
      cases this
    · intro pre x hlen
      exact cops_ops (hbody pre x hlen)
    · rintro e' a' w' ⟨e1, K1, s1, he, hle1, hs1, rfl, xs, rfl, rfl⟩
      exact ⟨.normal, K1, _, he, hle1, hs1, rfl, rfl, rfl⟩
  · rintro e s o ⟨rfl, rfl, rfl⟩
    exact hQ

theorem told_same {n0 : Nat} {r : AVal} {o : Objs} : Told n0 r o r o := fun _ K _ _ _ hle hm hr => ⟨K, hle, hm, hr⟩

theorem box_cell {K : Ctx} {objs : Objs} {w : World} {o : Nat} {t : TypeId} {v : Value} (hm : MemSat K objs w) (ho : objs[o]? = some (0, .row t 1 [[.lit v]])) : w.cell? ⟨K.ρ o 0, 0, none⟩ = some v ∧ K.ρ o 0 < w.heap.size := by
  obtain ⟨_, h2, h3⟩ := hm.obj o _ ho
  have hC : K.C o 0 ≠ 0 := by simp at h2; omega
  obtain ⟨c, ⟨fr, _, hc⟩, _, _, hx⟩ := h3 hC
  obtain ⟨u, hu, hr⟩ := hx 0 0 [.lit v] (.lit v) rfl rfl
  have := rep_lit hr
  subst this
  exact ⟨by simpa [World.cell?, hc] using hu, (Array.getElem?_eq_some_iff.1 hc).1⟩

theorem rep_fn_ptrs {K : Ctx} {f : FuncId} {o o' k k' i j i' j' : Nat} {v : Value} (h : Rep K (.fn (.func f) [] [.ptr o 0 k i j, .ptr o' 0 k' i' j']) v) : v = .func (.func f) #[] #[.pointer (some ⟨K.ρ o 0, i * k + j, none⟩), .pointer (some ⟨K.ρ o' 0, i' * k' + j', none⟩)] := by
  cases h with
  | fn _ _ _ vs us hl hm h g =>
    match vs, us, hl, hm with
    | [], [u1, u2], _, _ =>
      have h1 := g 0 _ _ rfl rfl
      have h2 := g 1 _ _ rfl rfl
      cases h1 with
      | ptr => cases h2 with
        | ptr => rfl

end
end Go.Fw

namespace Go.Fw
set_option linter.unusedSimpArgs false
set_option linter.unusedVariables false
open Go.RowKit

/-- A text that may be walked in a round. -/
def roundOK : Code → Bool
  | .skip => true
  | .label _ => true
  | .exit _ => true
  | .goto _ => true
  | .ret => true
  | .region _ ops _ => ops.toList.all fun o => match o.op with | .defer _ => false | _ => true
  | .seq a b => roundOK a && roundOK b
  | .cond _ x y => roundOK x && roundOK y
  | .block _ b => roundOK b
  | .loop b => roundOK b
  | _ => false

section
variable {P : Program} {nt n0 : Nat} {keep : Nat → Bool}

theorem noDefer_of {ops : Array Oper} (h : (ops.toList.all fun o => match o.op with | .defer _ => false | _ => true) = true) : ∀ o ∈ ops.toList, ∀ c, o.op ≠ .defer c := by
  intro o ho c hc
  have := List.all_eq_true.1 h o ho
  rw [hc] at this
  cases this

theorem wp_draw_ops {tr : Nat → RSt} {K0 K : Ctx} {s : St} {ops : Array Oper} {a : Act} {w : World} {Q : Exit → Act → World → Prop} (hmix : P.follows .mixedOrders = true) (ht : Trace P nt ops s.slots tr) (hck : drawCheck ops (masks ops) = true) (ho : (tr 0).objs = s.objs) (hK : K0.le K) (hs : Sat nt K s a w)
    (hQ : ∀ K a w, K0.le K → RSat nt ops s.slots K (tr ops.size) a w → Q .normal a w) (t : Nat) : wpOps P ops Q (Region.schedule (P.follows .mixedOrders) ops t) a { w with drawn := w.drawn + 1 } := by
  simp only [Region.schedule, hmix, Bool.true_or, if_true]
  refine wpAny_sound ops.size t _ a _ (wpAny_trace (K0 := K0) ht hck hQ ops.size _ a _ (by simp) ?_ ?_)
  · exact Nat.le_trans (List.length_filter_le _ _) (by simp)
  · have hf : ∀ k, (Array.replicate ops.size false).getD k false = false := fun k => by
      simp only [Array.getD_eq_getD_getElem?, Array.getElem?_replicate]
      split <;> rfl
    exact ⟨(fun i o e hi => by simp only [hf] at hi; cases hi), hs.size, K, 0, hK, hs.defers, Nat.zero_le _, (by rw [ho]; exact hs.mem.drawn _), (fun j _ => by simp only [hf]; simp), (fun j o d tg v _ _ hS => by simp only [hf] at hS; cases hS), fun t _ => hs.slot t⟩

theorem Post.noLets {K0 : Ctx} {Q : AExit → St → Prop} : ¬ LetsOut (Post nt K0 Q) := by
  rintro ⟨a, w, e', K, s, he, _⟩
  cases e' <;> cases he

/-- The body's walk in a round's frame. -/
theorem awp_round (l n : Nat) (hdr : ∀ id, keep (2000000 + id) = true) (c : Code) : roundOK c = true → ∀ (Q : AExit → St → Prop) (s : St) (K0 K : Ctx) (a : Act) (w : World), K0.n = n0 → K0.le K → Sat nt K s a w → awp P nt n0 keep c Q s → c.wpIn (Fence.wide.inRound l) n P (Post nt K0 Q) a w := by
  induction c with
  | skip => exact fun _ Q s K0 K a w hn hle hs h => wpIn_skip ⟨.normal, K, s, rfl, hle, hs, h⟩
  | label l => exact fun _ Q s K0 K a w hn hle hs h => wpIn_label ⟨.normal, K, s, rfl, hle, hs, h⟩
  | exit id => exact fun _ Q s K0 K a w hn hle hs h => wpIn_exit ⟨.exit id, K, s, rfl, hle, hs, h⟩
  | goto l => exact fun _ Q s K0 K a w hn hle hs h => wpIn_goto ⟨.goto l, K, s, rfl, hle, hs, h⟩
  | ret => exact fun _ Q s K0 K a w hn hle hs h => wpIn_ret ⟨.ret, K, s, rfl, hle, hs, h⟩
  | region id ops draw =>
    intro hok Q s K0 K a w hn hle hs h
    have hd := noDefer_of (show (ops.toList.all _) = true from hok)
    cases draw with
    | false =>
      simp only [awp] at h
      refine wpIn_region (wpOps_in Post.noLets hd _ _ _ ?_)
      rw [List.range_eq_range']
      refine awpOps_sound (K0 := K0) (Kt := fun rs => Q .normal { slots := mergeL keep s.slots rs.loc, objs := rs.objs }) ?_ ops.size 0 (by omega) K (startR s) a w hle hs.start (by simpa using h)
      intro K' rs a' w' hle' hr hk
      exact ⟨.normal, K', _, rfl, hle', mergeL_sound keep hr, hk⟩
    | true =>
      simp only [awp, hdr] at h
      obtain ⟨hmix, hck, tr, ht, ho, hq⟩ := h
      refine wpIn_region_draw fun t => wpOps_in Post.noLets hd _ _ _ ?_
      refine wp_draw_ops (K0 := K0) hmix ht hck ho hle hs ?_ t
      intro K' a' w' hle' hr
      exact ⟨.normal, K', _, rfl, hle', mergeL_sound keep hr, hq⟩
  | seq x y ihx ihy =>
    intro hok Q s K0 K a w hn hle hs h
    simp only [roundOK, Bool.and_eq_true] at hok
    simp only [awp] at h
    split at h
    · refine wpIn_seq (wpIn_mono (ihx hok.1 _ s K0 K a w hn hle hs h) ?_)
      rintro e a' w' ⟨e', K', s', rfl, hle', hs', hq⟩
      cases e' with
      | normal => exact ihy hok.2 Q s' K0 K' a' w' hn hle' hs' hq
      | exit id => exact ⟨.exit id, K', s', rfl, hle', hs', hq⟩
      | goto l => exact ⟨.goto l, K', s', rfl, hle', hs', hq⟩
      | ret => exact ⟨.ret, K', s', rfl, hle', hs', hq⟩
    · obtain ⟨J, hJ, h⟩ := h
      refine wpIn_seq (wpIn_mono (ihx hok.1 _ s K0 K a w hn hle hs h) ?_)
      rintro e a' w' ⟨e', K', s', rfl, hle', hs', hq⟩
      cases e' with
      | normal =>
        obtain ⟨s'', hweak, hj⟩ := hq
        obtain ⟨K'', hle'', hs''⟩ := hweak K0 K' a' w' hn hle' hs'
        exact ihy hok.2 Q s'' K0 K'' a' w' hn hle'' hs'' (hJ s'' hj)
      | exit id => exact ⟨.exit id, K', s', rfl, hle', hs', hq⟩
      | goto l => exact ⟨.goto l, K', s', rfl, hle', hs', hq⟩
      | ret => exact ⟨.ret, K', s', rfl, hle', hs', hq⟩
  | cond c x y ihx ihy =>
    intro hok Q s K0 K a w hn hle hs h
    simp only [roundOK, Bool.and_eq_true] at hok
    simp only [awp] at h
    split at h
    · rename_i b hb
      have hv : a.eval c = .bool b := by
        cases c with
        | tmp t =>
          simp only [lookO] at hb
          have hr := hs.slot t
          rw [hb] at hr
          exact rep_lit hr
        | const v => simp only [lookO, AVal.lit.injEq] at hb; exact hb
        | global g => simp [lookO] at hb
        | func f => simp [lookO] at hb
      exact wpIn_cond_split hv (fun ht => ihx hok.1 Q s K0 K a w hn hle hs (h.1 ht)) (fun hf => ihy hok.2 Q s K0 K a w hn hle hs (h.2 hf))
    · exact h.elim
  | block id body ih =>
    intro hok Q s K0 K a w hn hle hs h
    refine wpIn_block (wpIn_mono (ih hok _ s K0 K a w hn hle hs h) ?_)
    rintro e a' w' ⟨e', K', s', rfl, hle', hs', hq⟩
    cases e' with
    | normal => exact ⟨.normal, K', s', rfl, hle', hs', hq⟩
    | exit i =>
      simp only at hq
      simp only [AExit.real, Exit.inBlock]
      cases hb : Nat.beq i id with
      | true =>
        rw [hb] at hq
        have := Nat.eq_of_beq_eq_true hb
        rw [if_pos this]
        exact ⟨.normal, K', s', rfl, hle', hs', hq⟩
      | false =>
        rw [hb] at hq
        have : i ≠ id := fun e => by subst e; simp at hb
        rw [if_neg this]
        exact ⟨.exit i, K', s', rfl, hle', hs', hq⟩
    | goto l => exact ⟨.goto l, K', s', rfl, hle', hs', hq⟩
    | ret => exact ⟨.ret, K', s', rfl, hle', hs', hq⟩
  | loop body ih =>
    intro hok Q s K0 K a w hn hle hs h
    obtain ⟨I, m0, s1, hweak0, hI, hround⟩ := h
    obtain ⟨K1, hle1, hs1⟩ := hweak0 K0 K a w hn hle hs
    refine wpIn_loop_ghost (fun m a w => ∃ s K, K0.le K ∧ Sat nt K s a w ∧ I m s) m0 ⟨s1, K1, hle1, hs1, hI⟩ ?_
    rintro m a w ⟨s, K, hle, hs, hI⟩
    refine wpIn_mono (ih hok _ s K0 K a w hn hle hs (hround m s hI)) ?_
    rintro e a' w' ⟨e', K', s', rfl, hle', hs', hq⟩
    cases e' with
    | normal =>
      obtain ⟨m', s'', hlt, hweak, hI'⟩ := hq
      obtain ⟨K'', hle'', hs''⟩ := hweak K0 K' a' w' hn hle' hs'
      exact ⟨m', hlt, s'', K'', hle'', hs'', hI'⟩
    | exit id => exact ⟨.exit id, K', s', rfl, hle', hs', hq⟩
    | goto l => exact ⟨.goto l, K', s', rfl, hle', hs', hq⟩
    | ret => exact ⟨.ret, K', s', rfl, hle', hs', hq⟩
  | _ => intro hok; cases hok
end
end Go.Fw

namespace Go.Fw
set_option linter.unusedSimpArgs false
set_option linter.unusedVariables false
open Go.RowKit

/-- A block that holds no cells, and that stays as it is, is turned. -/
theorem MemSat.putAt {K : Ctx} {s : Objs} {w : World} {l : Nat} {o : Obj} (h : MemSat K s w) (hB : K.B l = some o) (ho : o.isCells = false) (o' : Obj) :
    MemSat { K with B := fun b => if b = l then some o' else K.B b } s (w.putObj l o') := by
  have hl : w.heap[l]? = some o := h.below.block l o hB
  have hlt : l < w.heap.size := (Array.getElem?_eq_some_iff.1 hl).1
  have hne : ∀ (i : Nat) (p : Nat × AObj), s[i]? = some p → p.2.live = true → K.C i p.1 ≠ 0 → K.ρ i p.1 ≠ l := by
    intro i p hp hv hC e
    have := (h.lo i p hp hv hC).1
    rw [e, hB] at this
    cases this
  refine ⟨h.len, h.ver, fun i p hp => ?_, fun i p hp hv hC => ?_, h.dis, fun b i u hu => ?_, ?_⟩
  · refine ObjSat.monoR (leR_with K _ K.w0) (h.olt hp) (by rw [h.ver i p hp]; exact Nat.le_refl _) (h.obj i p hp) (fun hv hC => ?_)
    exact World.putObj_heap_other (hne i p hp hv hC)
  · obtain ⟨h1, h2, h3⟩ := h.lo i p hp hv hC
    refine ⟨?_, by simpa using h2, h3⟩
    show (if K.ρ i p.1 = l then _ else _) = none
    rw [if_neg (hne i p hp hv hC)]
    exact h1
  · obtain ⟨h1, h2⟩ := h.mem b i u hu
    obtain ⟨c, t, fr, hc⟩ := cells_of_cell h1
    have hb : b ≠ l := by
      rintro rfl
      rw [hl] at hc
      cases hc
      simp [Obj.isCells] at ho
    exact ⟨(World.cell?_of_block (a := ⟨b, i, none⟩) (World.putObj_heap_other hb)).trans h1, h2⟩
  · refine ⟨h.below.os, h.below.tape, h.below.output, by simpa using h.below.size, fun b x hx => ?_⟩
    by_cases hb : b = l
    · subst hb
      simp only [if_true, Option.some.injEq] at hx
      subst hx
      exact World.putObj_heap_same hlt
    · simp only [if_neg hb] at hx
      exact (World.putObj_heap_other hb).trans (h.below.block b x hx)

/-- What a round is handed: what the caller's context tells of its first n1 objects, and what stays as it is. -/
structure RoundCtx (n1 : Nat) (K L : Ctx) : Prop where
  r : (K.cut n1).leR L
  B : ∀ b x, K.B b = some x → L.B b = some x

/-- An iterator's contract: it hands over the items in their order; each round turns the caller's objects; the first n1 of these stay where they are. -/
def IterC (P : Program) (gf : Nat) (lb : List AVal) (n1 : Nat) (items : List AVal) (so : Nat → Objs) : Prop :=
  ∀ (l : Nat) (K : Ctx) (w : World) (vs : List Value), MemSat K (so 0) w → Reps K lb vs →
    (∀ (k : Nat) (x : AVal) (L : Ctx) (W : World) (v : Value), items[k]? = some x → RoundCtx n1 K L → MemSat L (so k) W → Rep L x v →
      YieldAt Fence.wide 0 P l #[v] W fun e W' => e = .returned (.bool true) ∧ ∃ L' : Ctx, (L.cut n1).le L' ∧ MemSat L' (so (k + 1)) W') →
    CallsIn Fence.wide 0 P gf (#[.func (.yield l) #[] #[]] ++ vs.toArray) w fun e w' => (∃ v, e = .returned v) ∧ ∃ K' : Ctx, (K.cut n1).le K' ∧ MemSat K' (so items.length) w'

section
variable {P : Program} {nt n0 : Nat} {keep : Nat → Bool}

theorem rangeC {g : Operand} {p gf : Nat} {asg body : Code} {s : St} {lb : List AVal} {items : List AVal} {so : Nat → Objs} (n1 : Nat) (h0 : so 0 = s.objs) (hn01 : n0 ≤ n1) (hlen : ∀ k, k ≤ items.length → n1 ≤ (so k).length) (hp : p < nt)
    (hfree : getSlot s.slots p = .any) (hlow : ∀ t, Low n1 (getSlot s.slots t)) (hg : lookO s g = .fn (.func gf) [] lb)
    (eg : ∀ args w, (callFunc gf args).run P w = .ok (.enter gf args) w) (hit : IterC P gf lb n1 items so)
    (hdr : ∀ id, keep (2000000 + id) = true) (hoka : roundOK asg = true) (hok : roundOK body = true)
    (hbody : ∀ k x, items[k]? = some x → awp P nt n1 keep asg (fun e t => match e with | .normal => awp P nt n1 keep body (fun e t => match e with | .normal => Weaker nt n1 t ⟨s.slots, so (k + 1)⟩ | _ => False) t | _ => False) ⟨(p, x) :: s.slots, so k⟩) :
    RangeW P nt n0 (.rangeFunc g #[p] asg body) (fun e t => e = .normal ∧ t = ⟨s.slots, so items.length⟩) s := by
  intro K0 K a w hn hle hs
  have hBlt : ∀ b x, K.B b = some x → b < w.heap.size := fun b x hx => hs.mem.below.lt hx
  have hgv : ∃ vs : List Value, a.eval g = .func (.func gf) #[] vs.toArray ∧ Reps K lb vs := by
    have hr : Rep K (lookO s g) (a.eval g) := by
      cases g with
      | tmp t => exact hs.slot t
      | const v => exact .lit v
      | global g => simp [lookO] at hg
      | func f => simp [lookO] at hg
    rw [hg] at hr
    generalize a.eval g = u at hr
    cases hr with
    | fn _ _ _ us vs hl hm h1 h2 =>
      have : us = [] := by cases us with | nil => rfl | cons _ _ => simp at hl
      subst this
      exact ⟨vs, rfl, hm, h2⟩
  obtain ⟨vs, hgv, hreps⟩ := hgv
  refine (wpIn_wide (n := 3)).1 (wpIn_rangeFunc fun fn _ => ?_)
  obtain ⟨rec, hrec⟩ : ∃ rec : LoopState → Option Code → Loop, rec = fun st pe => { state := st, pending := pe, fn, tmps := a.tmps, params := #[p], assign := asg, body, defers := w.heap.size } := ⟨_, rfl⟩
  obtain ⟨D, hD⟩ : ∃ D, D = w.heap.size := ⟨_, rfl⟩
  obtain ⟨W1, hW1⟩ : ∃ W1, (w.alloc (.deferred (some []))).alloc (.loop (rec .ready none)) = W1 := ⟨_, rfl⟩
  have hl1 : W1.heap[D + 1]? = some (.loop (rec .ready none)) := by
    rw [← hW1, hD]; have := World.alloc_heap_new (w.alloc (.deferred (some []))) (.loop (rec .ready none)); rwa [World.size_alloc] at this
  have hd1 : W1.heap[D]? = some (.deferred (some [])) := by
    rw [← hW1, hD]; exact (Below.heap_alloc _ _ _ (by simp)).trans (World.alloc_heap_new w _)
  have hm1 : MemSat K s.objs W1 := by rw [← hW1]; exact (hs.mem.junk _).junk _
  obtain ⟨Kc, hKc⟩ : ∃ Kc : Ctx, Kc = { K with B := fun b => if b = D then some (.deferred (some [])) else if b = D + 1 then some (.loop (rec .ready none)) else K.B b, w0 := K.w0 } := ⟨_, rfl⟩
  have hBc : ∀ b x, K.B b = some x → Kc.B b = some x := fun b x hx => by
    have := hBlt b x hx
    rw [hKc]
    show (if b = D then _ else if b = D + 1 then _ else K.B b) = some x
    rw [if_neg (by omega), if_neg (by omega)]
    exact hx
  have hBD : Kc.B D = some (.deferred (some [])) := by rw [hKc]; show (if D = D then _ else _) = _; rw [if_pos rfl]
  have hBl : Kc.B (D + 1) = some (.loop (rec .ready none)) := by rw [hKc]; show (if D + 1 = D then _ else if D + 1 = D + 1 then _ else _) = _; rw [if_neg (by omega), if_pos rfl]
  have hmc : MemSat Kc (so 0) W1 := by
    rw [h0, hKc]
    refine hm1.with _ _ (fun o q hq hv hC => ?_) ?_
    · have := (hs.mem.lo o q hq hv hC).2.1
      have h1 := (hs.mem.lo o q hq hv hC).1
      show (if K.ρ o q.1 = D then _ else if K.ρ o q.1 = D + 1 then _ else K.B _) = none
      rw [if_neg (by omega), if_neg (by omega)]
      exact h1
    · have q1 := hm1.below
      refine ⟨q1.os, q1.tape, q1.output, q1.size, fun b y hy => ?_⟩
      change (if b = D then some (Obj.deferred (some [])) else if b = D + 1 then some (Obj.loop (rec .ready none)) else K.B b) = some y at hy
      split at hy
      · rename_i e; subst e; simp only [Option.some.injEq] at hy; subst hy; exact hd1
      · split at hy
        · rename_i e; subst e; simp only [Option.some.injEq] at hy; subst hy; exact hl1
        · exact q1.block b y hy
  have hrc : Reps Kc lb vs := by rw [hKc]; exact Reps.monoR (leR_with K _ K.w0) hreps
  refine ⟨D + 1, [{ target := .collected D, args := #[] }], W1, { target := .fn (.func gf) vs.toArray, args := #[.func (.yield (D + 1)) #[] #[]] }, W1, gf,
    #[.func (.yield (D + 1)) #[] #[]] ++ vs.toArray, W1, ?_, ?_, ?_, ?_, fun h => absurd h (by simp [Fence.wide]), ?_⟩
  · rw [← hW1, hrec, hD]; exact run_enterLoop_outer _ _ _ _ _
  · simp only [resolve, hgv]
    simp [go_sem]
  · intro f' _; trivial
  · simp [invoke, go_sem, eg]
  refine CallsIn.more (n := 0) ((hit (D + 1) Kc W1 vs hmc hrc ?_).mono ?_) (by omega)
  · -- one round
    intro k x L W v hx hR hmL hv
    have hkl : k < items.length := (List.getElem?_eq_some_iff.1 hx).1
    have hlL := hR.B _ _ hBl
    have hlW : W.heap[D + 1]? = some (.loop (rec .ready none)) := hmL.below.block _ _ hlL
    have hy := run_yield (P := P) (args := #[v]) hlW (by rw [hrec]; rfl)
    rw [hrec] at hy
    refine ⟨fn, _, asg, body, hy, roundIn_of_wpIn (n := 0) trivial ?_⟩
    have hsz : a.tmps.size = nt := hs.size
    have hz : (#[p].zip #[v]) = #[(p, v)] := by simp
    simp only [hz]
    show asg.wpIn _ _ P _ { tmps := a.tmps.setIfInBounds p v, defers := [] } W
    have hn1 : n1 ≤ L.n := by rw [← hmL.len]; exact hlen k (by omega)
    obtain ⟨L1, hL1⟩ : ∃ L1 : Ctx, L1 = { L with w0 := W } := ⟨_, rfl⟩
    have hm1 : MemSat L1 (so k) W := by
      have t := hmL.with L.B W (fun o q hq hv hC => (hmL.lo o q hq hv hC).1) ⟨rfl, rfl, rfl, Nat.le_refl _, hmL.below.block⟩
      rw [hL1]
      exact t
    have hrL : L.leR L1 := by rw [hL1]; exact leR_with L L.B W
    have hs1 : Sat nt L1 ⟨(p, x) :: s.slots, so k⟩ { tmps := a.tmps.setIfInBounds p v, defers := [] } W := by
      refine ⟨hm1, fun t => ?_, by simpa using hsz, Marks.nil⟩
      show Rep _ (getSlot ((p, x) :: s.slots) t) _
      rw [getSlot_cons]
      by_cases ht : p = t
      · subst ht
        rw [if_pos rfl]
        have : (a.tmps.setIfInBounds p v).getD p undef = v := by
          rw [Array.getD_eq_getD_getElem?, Array.getElem?_setIfInBounds_self_of_lt (by omega)]
          rfl
        simp only [this]
        exact hv.monoR hrL
      · rw [if_neg ht]
        have : (a.tmps.setIfInBounds p v).getD t undef = a.tmps.getD t undef := by
          rw [Array.getD_eq_getD_getElem?, Array.getD_eq_getD_getElem?, Array.getElem?_setIfInBounds_ne ht]
        simp only [this]
        have hcut : Rep (Kc.cut n1) (getSlot s.slots t) (a.tmps.getD t undef) := by
          refine Rep.low (K := K) (L := Kc.cut n1) (n := n1) (fun b i u hu => ?_) (Nat.le_refl _) (fun _ _ _ => ?_) (fun _ _ _ => ?_) (fun _ _ => ?_) (hs.slot t) (hlow t)
          · rw [hKc]; exact hu
          · rw [hKc]; rfl
          · rw [hKc]; rfl
          · rw [hKc]; rfl
        exact (hcut.monoR hR.r).monoR hrL
    obtain ⟨Kb1, hKb1⟩ : ∃ Kb1 : Ctx, Kb1 = L1.cut n1 := ⟨_, rfl⟩
    have hleb1 : Kb1.le L1 := by rw [hKb1]; exact cut_le (by rw [hL1]; exact hn1)
    refine wpIn_mono (awp_round (D + 1) 0 hdr asg hoka _ _ Kb1 L1 _ W (by rw [hKb1]; rfl) hleb1 hs1 (hbody k x hx)) ?_
    rintro e a1 w1 ⟨e1, K1, s1, rfl, hle1, hs1', hq1⟩
    cases e1 with
    | exit id => exact hq1.elim
    | goto t => exact hq1.elim
    | ret => exact hq1.elim
    | normal =>
      have hb1l : K1.B (D + 1) = some (.loop (rec .ready none)) := hle1.B _ _ (by rw [hKb1, hL1]; exact hlL)
      have hlw1 : w1.heap[D + 1]? = some (.loop (rec .ready none)) := hs1'.mem.below.block _ _ hb1l
      have hbr := run_beginRound (P := P) hlw1 (by rw [hrec])
      refine ⟨_, hbr, ?_⟩
      obtain ⟨W2, hW2⟩ : ∃ W2, W2 = w1.putObj (D + 1) (.loop { rec .ready none with state := .busy }) := ⟨_, rfl⟩
      rw [← hW2]
      obtain ⟨L2, hL2⟩ : ∃ L2 : Ctx, L2 = { K1 with B := fun b => if b = D + 1 then some (.loop { rec .ready none with state := .busy }) else K1.B b } := ⟨_, rfl⟩
      have hm2 : MemSat L2 s1.objs W2 := by
        rw [hL2, hW2]
        exact hs1'.mem.putAt hb1l rfl (.loop { rec .ready none with state := .busy })
      have hrL2 : K1.leR L2 := by rw [hL2]; exact leR_with K1 _ K1.w0
      have hs2 : Sat nt L2 s1 a1 W2 := ⟨hm2, fun t => (hs1'.slot t).monoR hrL2, hs1'.size, hs1'.defers.1, fun d hd => by
        obtain ⟨D', q1, q2, q3⟩ := hs1'.defers.2 d hd
        refine ⟨D', q1, ?_, by rw [hL2]; exact q3⟩
        rw [hL2]
        show (if D' = D + 1 then _ else K1.B D') = _
        rw [if_neg (by rintro rfl; rw [hb1l] at q2; cases q2)]
        exact q2⟩
      obtain ⟨Kb, hKb⟩ : ∃ Kb : Ctx, Kb = L2.cut n1 := ⟨_, rfl⟩
      have hn1' : n1 ≤ K1.n := by have := hle1.n; rw [hKb1] at this; exact this
      have hleb : Kb.le L2 := by rw [hKb]; exact cut_le (by rw [hL2]; exact hn1')
      refine wpIn_mono (awp_round (D + 1) 0 hdr body hok _ _ Kb L2 a1 W2 (by rw [hKb]; rfl) hleb hs2 hq1) ?_
      rintro e a' w' ⟨e', K3, s3, rfl, hle3, hs3, hq3⟩
      cases e' with
      | exit id => exact hq3.elim
      | goto t => exact hq3.elim
      | ret => exact hq3.elim
      | normal =>
        obtain ⟨K4, hle4, hs4⟩ := hq3 Kb K3 a' w' (by rw [hKb]; rfl) hle3 hs3
        have hbl : Kb.B (D + 1) = some (.loop { rec .ready none with state := .busy }) := by
          rw [hKb, hL2]; show (if D + 1 = D + 1 then _ else _) = _; rw [if_pos rfl]
        have hb1 : ∀ b y, L.B b = some y → K1.B b = some y := fun b y hy => hle1.B b y (by rw [hKb1, hL1]; exact hy)
        have hbo : ∀ b y, b ≠ D + 1 → L.B b = some y → Kb.B b = some y := fun b y hb hy => by
          rw [hKb, hL2]; show (if b = D + 1 then _ else _) = _; rw [if_neg hb]; exact hb1 b y hy
        have h4l : K4.B (D + 1) = some (.loop { rec .ready none with state := .busy }) := hle4.B _ _ hbl
        have hlw : w'.heap[D + 1]? = some (.loop { rec .ready none with state := .busy }) := hs4.mem.below.block _ _ h4l
        have her := run_endRound (P := P) none hlw
        refine ⟨_, _, her, rfl, ?_⟩
        have e1 : ({ ({ rec .ready none with state := .busy } : Loop) with state := if (none : Option Code).isNone then .ready else .done, pending := none } : Loop) = rec .ready none := by rw [hrec]; rfl
        rw [e1]
        have hm5 := hs4.mem.putAt h4l rfl (.loop (rec .ready none))
        have hw4 : K4.w0 = W := by rw [hle4.w0, hKb, hL2]; show K1.w0 = W; rw [hle1.w0, hKb1, hL1]; rfl
        have hML1 : ∀ b i, Kb1.M b i = L.M b i := fun b i => by rw [hKb1, hL1]; rfl
        have hML : ∀ b i, Kb.M b i = K1.M b i := fun b i => by rw [hKb, hL2]; rfl
        have hM0 : ∀ b i y, L.B b = some y → K1.M b i = L.M b i := fun b i y hy => (hle1.M0 b i y (by rw [hKb1, hL1]; exact hy)).trans (hML1 b i)
        have hv1 : ∀ o, o < n1 → L.vs o ≤ K1.vs o := fun o ho => by have := hle1.vs o (by rw [hKb1]; exact ho); rw [hKb1, hL1] at this; exact this
        refine ⟨{ K4 with B := fun b => if b = D + 1 then some (.loop (rec .ready none)) else K4.B b, w0 := L.w0 }, ⟨fun b i u hu => hle4.M b i u (by rw [hML]; exact hle1.M b i u (by rw [hML1]; exact hu)), fun o v ho hv => ?_, fun o v ho hv => ?_, ?_, fun o ho => ?_, rfl, fun b y hy => ?_, fun b i y hy => ?_⟩, ?_⟩
        · have h1 := hle4.ρ o v (by rw [hKb]; exact ho) (by rw [hKb, hL2]; exact Nat.le_trans hv (hv1 o ho))
          have h2 := hle1.ρ o v (by rw [hKb1]; exact ho) (by rw [hKb1, hL1]; exact hv)
          rw [hKb, hL2] at h1; rw [hKb1, hL1] at h2
          exact h1.trans h2
        · have h1 := hle4.C o v (by rw [hKb]; exact ho) (by rw [hKb, hL2]; exact Nat.le_trans hv (hv1 o ho))
          have h2 := hle1.C o v (by rw [hKb1]; exact ho) (by rw [hKb1, hL1]; exact hv)
          rw [hKb, hL2] at h1; rw [hKb1, hL1] at h2
          exact h1.trans h2
        · have := hle4.n; rw [hKb] at this; exact this
        · have := hle4.vs o (by rw [hKb]; exact ho); rw [hKb, hL2] at this; exact Nat.le_trans (hv1 o ho) this
        · show (if b = D + 1 then _ else K4.B b) = some y
          by_cases hb : b = D + 1
          · subst hb
            rw [if_pos rfl]
            exact hlL.symm.trans hy
          · rw [if_neg hb]
            exact hle4.B b y (hbo b y hb hy)
        · show K4.M b i = L.M b i
          by_cases hb : b = D + 1
          · subst hb
            exact ((hle4.M0 _ i _ hbl).trans (hML _ _)).trans (hM0 _ i y hy)
          · exact ((hle4.M0 b i y (hbo b y hb hy)).trans (hML _ _)).trans (hM0 b i y hy)
        · have q1 := hm5.below
          have q2 := hmL.below
          have ew : ∀ {α : Type} (f : World → α), f K4.w0 = f W := fun f => by rw [hw4]
          refine hm5.with _ L.w0 (fun o q hq hv hC => (hm5.lo o q hq hv hC).1) ⟨?_, ?_, ?_, ?_, q1.block⟩
          · exact (q1.os.trans (ew World.os)).trans q2.os
          · exact (q1.tape.trans (ew World.tape)).trans q2.tape
          · exact (q1.output.trans (ew World.output)).trans q2.output
          · have h1 := q1.size
            have h2 : K4.w0.heap.size = W.heap.size := by rw [hw4]
            have h3 := q2.size
            show L.w0.heap.size ≤ _
            change K4.w0.heap.size ≤ _ at h1
            omega
  · -- behind it
    rintro e w' ⟨⟨v, rfl⟩, K', hle', hm'⟩
    have hlK : K'.B (D + 1) = some (.loop (rec .ready none)) := hle'.B _ _ hBl
    have hlw : w'.heap[D + 1]? = some (.loop (rec .ready none)) := hm'.below.block _ _ hlK
    have hel := run_endLoop (P := P) hlw (by rw [hrec]; simp)
    have hpe : (rec .ready none).pending = none := by rw [hrec]
    rw [hpe] at hel
    obtain ⟨ex, hex⟩ : ∃ ex : Loop, ex = { rec .ready none with state := .exhausted } := ⟨_, rfl⟩
    have hm6 := hm'.putAt hlK rfl (.loop ex)
    refine ⟨none, w'.putObj (D + 1) (.loop ex), by rw [hel, hex]; simp only [hrec], ?_⟩
    have hMc : ∀ b i, Kc.M b i = K.M b i := fun b i => by rw [hKc]
    have hB' : ∀ b y, K.B b = some y → (if b = D + 1 then some (Obj.loop ex) else K'.B b) = some y := fun b y hy => by
      have := hBlt b y hy
      rw [if_neg (by omega)]
      exact hle'.B b y (hBc b y hy)
    have hw0 : K'.w0 = K.w0 := by rw [hle'.w0, hKc]; rfl
    refine ⟨.normal, { K' with B := fun b => if b = D + 1 then some (.loop ex) else K'.B b }, ⟨s.slots, so items.length⟩, rfl, ⟨fun b i u hu => ?_, fun o u ho hu => ?_, fun o u ho hu => ?_, ?_, fun o ho => ?_, ?_, fun b y hy => hB' b y (hle.B b y hy), fun b i y hy => ?_⟩, ⟨hm6, fun t => ?_, hs.size, ?_⟩, rfl, rfl⟩
    · exact hle'.M b i u ((hMc b i).trans (hle.M b i u hu))
    · rw [← hle.ρ o u ho hu]
      have := hle'.ρ o u (show o < n1 by omega) (show u ≤ Kc.vs o by rw [hKc]; exact Nat.le_trans hu (hle.vs o ho))
      rw [hKc] at this
      exact this
    · rw [← hle.C o u ho hu]
      have := hle'.C o u (show o < n1 by omega) (show u ≤ Kc.vs o by rw [hKc]; exact Nat.le_trans hu (hle.vs o ho))
      rw [hKc] at this
      exact this
    · have h1 : n1 ≤ K'.n := hle'.n
      show K0.n ≤ K'.n
      omega
    · have h1 := hle'.vs o (show o < n1 by omega)
      rw [hKc] at h1
      exact Nat.le_trans (hle.vs o ho) h1
    · show K'.w0 = K0.w0
      rw [hw0, hle.w0]
    · show K'.M b i = K0.M b i
      have h1 := hle.B b y hy
      rw [hle'.M0 b i y (hBc b y h1)]
      exact (hMc b i).trans (hle.M0 b i y hy)
    · have hcut : Rep (Kc.cut n1) (getSlot s.slots t) (a.tmps.getD t undef) := by
        refine Rep.low (K := K) (L := Kc.cut n1) (n := n1) (fun b i u hu => ?_) (Nat.le_refl _) (fun _ _ _ => ?_) (fun _ _ _ => ?_) (fun _ _ => ?_) (hs.slot t) (hlow t)
        · rw [hKc]; exact hu
        · rw [hKc]; rfl
        · rw [hKc]; rfl
        · rw [hKc]; rfl
      exact (hcut.monoR hle'.r).monoR (leR_with K' _ K'.w0)
    · refine ⟨List.nodup_cons.2 ⟨fun hin => ?_, hs.defers.1⟩, fun d hd => ?_⟩
      · obtain ⟨D', h1, h2, _⟩ := hs.defers.2 _ hin
        simp only [Deferred.mk.injEq, Target.collected.injEq, and_true] at h1
        subst h1
        have := hBlt _ _ h2
        omega
      · rcases List.mem_cons.1 hd with rfl | hd
        · refine ⟨D, rfl, ?_, ?_⟩
          · show (if D = D + 1 then _ else K'.B D) = _
            rw [if_neg (by omega)]
            exact hle'.B _ _ hBD
          · show K'.w0.heap.size ≤ D
            rw [hw0, hD]
            exact hs.mem.below.size
        · obtain ⟨D', h1, h2, h3⟩ := hs.defers.2 d hd
          refine ⟨D', h1, hB' _ _ h2, ?_⟩
          show K'.w0.heap.size ≤ D'
          rw [hw0]
          exact h3
end
end Go.Fw

namespace Go.Fw
set_option linter.unusedSimpArgs false
set_option linter.unusedVariables false
open Go.RowKit

/-- What the rounds do, told by the contexts from K0 on. -/
def Yields (P : Program) (l n1 : Nat) (K0 : Ctx) (Yd : AVal → Objs → Objs → Prop) : Prop :=
  ∀ (x : AVal) (o o' : Objs) (L : Ctx) (W : World) (v : Value), Yd x o o' → K0.le L → MemSat L o W → Rep L x v →
    YieldAt Fence.wide 0 P l #[v] W fun e W' => e = .returned (.bool true) ∧ ∃ L' : Ctx, (L.cut n1).le L' ∧ MemSat L' o' W'

/-- What a region's state holds lies in the first n1 objects. -/
structure LowR (n1 : Nat) (slots : List (Nat × AVal)) (rs : RSt) : Prop where
  slots : ∀ t, Low n1 (getSlot slots t)
  loc : ∀ t g v, findL rs.loc t = some (g, v) → Low n1 v

section
variable {P : Program} {nt n1 : Nat} {ops : Array Oper} {slots : List (Nat × AVal)}

theorem le_cut_trans {K0 K L : Ctx} (h : K0.le K) (g : (K.cut n1).le L) (hn : K0.n ≤ n1) : K0.le L :=
  ⟨fun b i u hu => g.M b i u (h.M b i u hu), fun o v ho hv => (g.ρ o v (show o < n1 by omega) (Nat.le_trans hv (h.vs o ho))).trans (h.ρ o v ho hv), fun o v ho hv => (g.C o v (show o < n1 by omega) (Nat.le_trans hv (h.vs o ho))).trans (h.C o v ho hv),
   Nat.le_trans hn g.n, fun o ho => Nat.le_trans (h.vs o ho) (g.vs o (show o < n1 by omega)), g.w0.trans h.w0, fun b x hx => g.B b x (h.B b x hx), fun b i x hx => (g.M0 b i x (h.B b x hx)).trans (h.M0 b i x hx)⟩

theorem Low.cutRep {K : Ctx} {x : AVal} {v : Value} (h : Rep K x v) (hl : Low n1 x) : Rep (K.cut n1) x v :=
  Rep.low (K := K) (L := K.cut n1) (n := n1) (fun _ _ _ h => h) (Nat.le_refl _) (fun _ _ _ => rfl) (fun _ _ _ => rfl) (fun _ _ => rfl) h hl

/-- What is known of some slots is given up. -/
def giveS (f : Nat → Bool) (s : List (Nat × AVal)) : List (Nat × AVal) := s.map fun p => (p.1, bif f p.1 then p.2 else .any)
def giveL (f : Nat → Bool) (l : List (Nat × Option Tag × AVal)) : List (Nat × Option Tag × AVal) := l.map fun p => (p.1, p.2.1, bif f p.1 then p.2.2 else .any)

theorem getSlot_give (f : Nat → Bool) (t : Nat) : ∀ s, getSlot (giveS f s) t = bif f t then getSlot s t else .any
  | [] => by simp only [giveS, List.map_nil]; cases f t <;> rfl
  | (i, v) :: r => by
    have ih := getSlot_give f t r
    simp only [giveS, List.map_cons] at ih ⊢
    rw [getSlot_cons, getSlot_cons, ih]
    by_cases h : i = t
    · subst h; simp
    · simp [h]

theorem findL_give (f : Nat → Bool) (t : Nat) : ∀ l, findL (giveL f l) t = (findL l t).map fun p => (p.1, bif f t then p.2 else .any)
  | [] => rfl
  | (i, g, v) :: r => by
    have ih := findL_give f t r
    simp only [giveL, List.map_cons] at ih ⊢
    rw [findL_cons, findL_cons, ih]
    by_cases h : i = t
    · subst h; simp
    · simp [h]

theorem uniq_give (f : Nat → Bool) : ∀ l, UniqL l → UniqL (giveL f l)
  | [], _ => trivial
  | (i, g, v) :: r, h => ⟨by have := findL_give f i r; simp only [giveL] at this; rw [this, h.1]; rfl, uniq_give f r h.2⟩

theorem RSat.give {K : Ctx} {rs : RSt} {a : Act} {w : World} (f : Nat → Bool) (h : RSat nt ops slots K rs a w) : RSat nt ops (giveS f slots) K { rs with loc := giveL f rs.loc } a w := by
  refine ⟨h.mem, fun t ht => ?_, fun t v hv => ?_, fun t g v hv => ?_, fun g b hb => ?_, h.size, h.defers, ?_⟩
  · rw [findL_give, Option.map_eq_none_iff] at ht
    rw [getSlot_give]
    cases f t with
    | true => exact h.outer t ht
    | false => exact .any _
  · rw [findL_give] at hv
    obtain ⟨⟨g, u⟩, hu, e⟩ := Option.map_eq_some_iff.1 hv
    simp only [Prod.mk.injEq] at e
    obtain ⟨rfl, rfl⟩ := e
    cases f t with
    | true => exact h.plain t _ hu
    | false => exact .any _
  · rw [findL_give] at hv
    obtain ⟨⟨g', u⟩, hu, e⟩ := Option.map_eq_some_iff.1 hv
    simp only [Prod.mk.injEq] at e
    obtain ⟨rfl, rfl⟩ := e
    obtain ⟨b, h1, h2, h3⟩ := h.tagged t g u hu
    refine ⟨b, h1, fun hb => ?_, h3⟩
    cases f t with
    | true => exact h2 hb
    | false => exact .any _
  · obtain ⟨h1, ⟨o, d, h2, h3, h4⟩, h5⟩ := h.guards g b hb
    exact ⟨h1, ⟨o, d, h2, h3, by rw [findL_give, Option.isSome_map]; exact h4⟩, h5⟩
  · exact uniq_give f _ h.uniq

theorem RSat.moved {K L : Ctx} {rs : RSt} {a : Act} {w w' : World} {objs' : Objs} (hKL : (K.cut n1).le L) (hlow : LowR n1 slots rs) (hm : MemSat L objs' w') (h : RSat nt ops slots K rs a w) : RSat nt ops slots L { rs with objs := objs' } a w' :=
  ⟨hm, fun t ht => (Low.cutRep (h.outer t ht) (hlow.slots t)).mono hKL, fun t v hv => (Low.cutRep (h.plain t v hv) (hlow.loc t _ v hv)).mono hKL,
   fun t g v hv => by obtain ⟨b, h1, h2, h3⟩ := h.tagged t g v hv; exact ⟨b, h1, fun hb => (Low.cutRep (h2 hb) (hlow.loc t _ v hv)).mono hKL, h3⟩, h.guards, h.size,
   Marks.mono hKL (show Marks (K.cut n1) a.defers from h.defers), h.uniq⟩

theorem run_yieldOp {a : Act} {w : World} {o : Oper} {c : Call} {f x : Operand} {l : Nat} {v : Value} {r : Result Next} (ho : o.op = .call c) (hc : c.callee = .value f) (ha : c.args = #[x]) (hf : a.eval f = .func (.yield l) #[] #[]) (hx : a.eval x = v)
    (hy : (Instr.yield l #[v]).run P w = r) : (execOp a.eval o).run P w = r := by
  revert hf hx
  generalize a.eval = ρ
  intro hf hx
  simp [execOp, ho, hc, ha, hf, hx, resolve, invoke, go_sem, hy]

theorem op_sound {K : Ctx} {rs : RSt} {a : Act} {w : World} {o : Oper} {draw : Bool} {Kt : RSt → Prop} {Q : Exit → Act → World → Prop} (h : RSat nt ops slots K rs a w) (ha : awpOps P nt ops slots draw [o] rs Kt) :
    if Region.wanted o (yielded ops a.tmps) then o.wp P a w (Next' nt ops slots K Kt) Q ∨ (o.asks P a w ∧ LetsOut Q) else Next' nt ops slots K Kt (a.put o.dst undef) w := by
  simp only [awpOps] at ha
  split at ha
  · rename_i hg
    exact stepOp_sound h rfl (by simp [Region.wanted, hg]) ha
  · rename_i g hg
    split at ha
    · rename_i gb rs1 hgo
      obtain ⟨h1, h2, _, _, hy⟩ := gOf_sound h hgo
      rcases ha with ⟨hgb, v, hp⟩ | ha
      · subst hgb
        have hw : Region.wanted o (yielded ops a.tmps) = false := by simp only [Region.wanted, hg]; exact hy
        rw [hw]
        simp only [Bool.false_eq_true, if_false]
        obtain ⟨rs', hr, hk⟩ := PutK_some hp
        exact ⟨K, rs', .refl K, h1.put hr ⟨false, h2, (fun h => by cases h), fun _ => rfl⟩, hk⟩
      · exact stepOp_sound h1 h2 (by simp only [Region.wanted, hg]; exact hy) ha
    · exact ha.elim

theorem wp_wide {o : Oper} {a : Act} {w : World} {next : Act → World → Prop} {Q : Exit → Act → World → Prop} (h : o.wp P a w next Q) : o.wpIn Fence.wide 0 P a w next Q := by
  refine ⟨fun _ _ => trivial, ?_⟩
  show o.uponIn Fence.wide 0 P a next Q ((execOp a.eval o).run P w)
  unfold Oper.wp at h
  revert h
  generalize (execOp a.eval o).run P w = r
  intro h
  cases r with
  | ok nx w' =>
    cases nx with
    | value v => exact h
    | skip => exact h
    | defer d => exact h
    | enter f args =>
      refine ⟨fun hd => by simp [Fence.wide] at hd, callsIn_wide.2 (Calls.mono h ?_)⟩
      intro e w'' hr
      cases e with
      | returned v => exact hr
      | panicked chain => exact hr
      | outgrown => exact hr
    | row row args =>
      refine ⟨fun hd => by simp [Fence.wide] at hd, fun c cs _ => ?_⟩
      obtain ⟨v, w'', hr, hs⟩ := h c cs
      exact ⟨v, w'', hr, stepsIn_wide.2 hs⟩
    | _ => exact h.elim
  | halt r w' =>
    cases r with
    | panic v => exact h
    | _ => exact h.elim

/-- An operation that calls yield: its number, and what is handed over. -/
def yieldX (look : Operand → AVal) (o : Oper) : Option (Nat × AVal) :=
  match o.op with
  | .call c => (match c.callee with | .value f => (match look f, c.args.toList with | .lit (.func (.yield l) p q), [x] => bif p.toList.isEmpty && q.toList.isEmpty then some (l, look x) else none | _, _ => none) | _ => none)
  | _ => none

theorem yieldX_some {look : Operand → AVal} {o : Oper} {l : Nat} {x : AVal} (h : yieldX look o = some (l, x)) : ∃ (c : Call) (f y : Operand), o.op = .call c ∧ c.callee = .value f ∧ c.args = #[y] ∧ look f = .lit (.func (.yield l) #[] #[]) ∧ look y = x := by
  unfold yieldX at h
  split at h
  · rename_i c ho
    split at h
    · rename_i f hc
      split at h
      · rename_i l' p q y hl ha
        cases hb : p.toList.isEmpty && q.toList.isEmpty with
        | false => rw [hb] at h; cases h
        | true =>
          rw [hb] at h
          simp only [cond_true, Option.some.injEq, Prod.mk.injEq] at h
          obtain ⟨rfl, rfl⟩ := h
          simp only [Bool.and_eq_true, List.isEmpty_iff, Array.toList_eq_nil_iff] at hb
          obtain ⟨rfl, rfl⟩ := hb
          exact ⟨c, f, y, ho, hc, Array.toList_inj.1 (by rw [ha]), hl, rfl⟩
      · cases h
    · cases h
  · cases h

def NextK (nt : Nat) (ops : Array Oper) (slots : List (Nat × AVal)) (K0 : Ctx) (Kt : RSt → Prop) (a : Act) (w : World) : Prop := ∃ K' rs', Ctx.le K0 K' ∧ RSat nt ops slots K' rs' a w ∧ Kt rs'

theorem yield_call {l : Nat} {Yd : AVal → Objs → Objs → Prop} {K0 K : Ctx} {rs : RSt} {a : Act} {w : World} {o : Oper} {cur : Option Tag} {Kt : RSt → Prop} {Q : Exit → Act → World → Prop} {x : AVal} {objs' : Objs} (f : Nat → Bool) (hY : Yields P l n1 K0 Yd) (hn : K0.n ≤ n1) (hle : K0.le K) (h : RSat nt ops slots K rs a w) (hc : ∀ c, cur = some c → findG rs.G c = some true)
    (hx : yieldX (lookR ops slots rs.loc cur) o = some (l, x)) (hd : Yd x rs.objs objs') (hlow : LowR n1 (giveS f slots) { rs with loc := giveL f rs.loc }) (hp : PutK nt ⟨giveL f rs.loc, rs.G, objs'⟩ cur o.dst (.lit (.bool true)) Kt) : o.wpIn Fence.wide 0 P a w (NextK nt ops (giveS f slots) K0 Kt) Q := by
  obtain ⟨c, g, y, ho, hcc, ha, hf, rfl⟩ := yieldX_some hx
  have hfv : a.eval g = .func (.yield l) #[] #[] := rep_lit (hf ▸ lookR_sound h cur hc g)
  have hyr := lookR_sound h cur hc y
  obtain ⟨fn, tmps, assign, body, hrun, hround⟩ := hY _ _ _ K w (a.eval y) hd hle h.mem hyr
  refine ⟨fun _ _ => trivial, ?_⟩
  show o.uponIn Fence.wide 0 P a _ Q ((execOp a.eval o).run P w)
  rw [run_yieldOp ho hcc ha hfv rfl hrun]
  refine ⟨fun hd => by simp [Fence.wide] at hd, hround.mono ?_⟩
  rintro e w' ⟨rfl, L', hle', hm'⟩
  obtain ⟨rs', hpr, hk⟩ := PutK_some hp
  refine ⟨L', rs', le_cut_trans hle hle' hn, ((h.give f).moved hle' hlow hm').put hpr ?_, hk⟩
  cases cur with
  | none => exact .lit _
  | some c => exact ⟨true, hc c rfl, fun _ => .lit _, fun h => by cases h⟩

/-- The operations of a region, of which some may call yield. -/
def copsY (P : Program) (nt n1 l : Nat) (ops : Array Oper) (Yd : AVal → Objs → Objs → Prop) : List Oper → List (Nat × AVal) → Loc → Gs → Objs → (List (Nat × AVal) → Loc → Gs → Objs → Prop) → Prop
  | [], slots, loc, G, objs, K => K slots loc G objs
  | o :: rest, slots, loc, G, objs, K =>
    match yieldX (lookR ops slots loc o.guard) o with
    | none => cops P nt ops slots false [o] loc G objs fun loc G objs => copsY P nt n1 l ops Yd rest slots loc G objs K
    | some (l', x) =>
      (match o.guard with
       | none => l' = l ∧ ∃ f objs', Yd x objs objs' ∧ LowR n1 (giveS f slots) ⟨giveL f loc, G, objs⟩ ∧ cput nt (giveL f loc) G objs' none o.dst (.lit (.bool true)) fun loc G objs => copsY P nt n1 l ops Yd rest (giveS f slots) loc G objs K
       | some g =>
         (match cgOf ops loc G g with
          | some (gb, G) => l' = l ∧ ∃ f objs', (gb = true → Yd x objs objs') ∧ (gb = false → objs' = objs) ∧ LowR n1 (giveS f slots) ⟨giveL f loc, G, objs⟩ ∧ cput nt (giveL f loc) G objs' (some g) o.dst (.lit (.bool true)) fun loc G objs => copsY P nt n1 l ops Yd rest (giveS f slots) loc G objs K
          | none => False))

theorem copsY_sound {l : Nat} {Yd : AVal → Objs → Objs → Prop} {K0 : Ctx} {Kt : List (Nat × AVal) → Loc → Gs → Objs → Prop} {Q : Exit → Act → World → Prop} (hY : Yields P l n1 K0 Yd) (hn1 : K0.n ≤ n1) (hL : ¬ LetsOut Q) (hQ : ∀ slots K rs a w, K0.le K → RSat nt ops slots K rs a w → Kt slots rs.loc rs.G rs.objs → Q .normal a w) :
    ∀ (n i : Nat), i + n = ops.size → ∀ (slots : List (Nat × AVal)) (K : Ctx) (rs : RSt) (a : Act) (w : World), K0.le K → RSat nt ops slots K rs a w → copsY P nt n1 l ops Yd (ops.toList.drop i) slots rs.loc rs.G rs.objs Kt →
      wpOpsIn Fence.wide 0 P ops Q (List.range' i n) a w
  | 0, i, hn, slots, K, rs, a, w, hK, h, ha => by
    have : ops.toList.drop i = [] := List.drop_eq_nil_of_le (by simp; omega)
    rw [this] at ha
    exact hQ slots K rs a w hK h ha
  | n + 1, i, hn, slots, K, rs, a, w, hK, h, ha => by
    have hlt : i < ops.toList.length := by simp; omega
    rw [List.drop_eq_getElem_cons hlt] at ha
    have hi : ops[i]? = some (ops.toList[i]) := by simp
    generalize ops.toList[i] = o at ha hi
    simp only [List.range'_succ]
    unfold wpOpsIn
    simp only [hi]
    have ih : ∀ slots a w, NextK nt ops slots K0 (fun rs' => copsY P nt n1 l ops Yd (ops.toList.drop (i + 1)) slots rs'.loc rs'.G rs'.objs Kt) a w → wpOpsIn Fence.wide 0 P ops Q (List.range' (i + 1) n) a w := by
      rintro slots a w ⟨K', rs', hle, hr, hk⟩
      exact copsY_sound hY hn1 hL hQ n (i + 1) (by omega) slots K' rs' a w hle hr hk
    have up : ∀ {r : Result Next} {nx nx' : Act → World → Prop}, (∀ a w, nx a w → nx' a w) → o.uponIn Fence.wide 0 P a nx Q r → o.uponIn Fence.wide 0 P a nx' Q r := by
      intro r nx nx' hx hr
      cases r with
      | ok q w' =>
        cases q with
        | value v => exact hx _ _ hr
        | skip => exact hx _ _ hr
        | defer d => exact hx _ _ hr
        | enter f args => exact ⟨hr.1, CallsIn.mono hr.2 fun e w'' he => by cases e with | returned v => exact hx _ _ he | panicked c => exact he | outgrown => exact he⟩
        | row row args => exact ⟨hr.1, fun c cs hroom => by obtain ⟨v, w'', h1, h2⟩ := hr.2 c cs hroom; exact ⟨v, w'', hx _ _ h1, h2⟩⟩
        | round l f tmps assign body => exact ⟨hr.1, RoundIn.mono hr.2 fun e w'' he => by cases e with | returned v => exact hx _ _ he | panicked c => exact he | outgrown => exact he⟩
        | _ => exact hr.elim
      | halt q w' =>
        cases q with
        | panic v => exact hr
        | _ => exact hr.elim
    simp only [copsY] at ha
    split at ha
    · have hs := op_sound (Q := Q) h (cops_ops ha)
      split
      · rename_i hw
        rw [if_pos hw] at hs
        rcases hs with hs | hs
        · have := wp_wide hs
          exact ⟨this.1, up (fun a w hx => by obtain ⟨K', rs', h1, h2, h3⟩ := hx; exact ih _ a w ⟨K', rs', hK.trans h1, h2, h3⟩) this.2⟩
        · exact absurd hs.2 hL
      · rename_i hw
        rw [if_neg hw] at hs
        obtain ⟨K', rs', h1, h2, h3⟩ := hs
        exact ⟨fun _ _ => trivial, ih _ _ _ ⟨K', rs', hK.trans h1, h2, h3⟩⟩
    · rename_i l' x hyx
      split at ha
      · rename_i hg
        obtain ⟨rfl, f, objs', h2, h3, h4⟩ := ha
        rw [hg] at hyx
        have hw : Region.wanted o (yielded ops a.tmps) = true := by simp [Region.wanted, hg]
        rw [if_pos hw]
        have := yield_call (Q := Q) f hY hn1 hK h (fun c hc => by cases hc) hyx h2 h3 (cput_iff.1 h4)
        exact ⟨this.1, up (ih _) this.2⟩
      · rename_i g hg
        split at ha
        · rename_i gb G' hgo
          obtain ⟨rfl, f, objs', h1, h2, h3, h4⟩ := ha
          rw [hg] at hyx
          obtain ⟨q1, q2, _, _, hy⟩ := gOf_sound h (cgOf_some hgo)
          have hw : Region.wanted o (yielded ops a.tmps) = gb := by simp only [Region.wanted, hg]; exact hy
          cases gb with
          | false =>
            rw [if_neg (by rw [hw]; simp)]
            obtain ⟨rs', hr, hk⟩ := PutK_some (cput_iff.1 h4)
            rw [h2 rfl] at hr
            exact ⟨fun _ _ => trivial, ih _ _ _ ⟨K, rs', hK, (q1.give f).put hr ⟨false, q2, (fun h => by cases h), fun _ => rfl⟩, hk⟩⟩
          | true =>
            rw [if_pos hw]
            have := yield_call (Q := Q) f hY hn1 hK q1 (fun c hc => by cases hc; exact q2) hyx (h1 rfl) h3 (cput_iff.1 h4)
            exact ⟨this.1, up (ih _) this.2⟩
        · exact ha.elim
end

/-- The iterator's text, in the form that computes: as cwp; in the regions of yid yield may be called. -/
def cwpY (P : Program) (nt n0 n1 l : Nat) (keep yid : Nat → Bool) (Yd : AVal → Objs → Objs → Prop) : Code → CQ → List (Nat × AVal) → Objs → Prop
  | .region id ops draw, Q, s, o =>
    (match yid id with
     | true => draw = false ∧ copsY P nt n1 l ops Yd ops.toList s [] [] o fun s loc _ o => cmerge keep s loc fun s => Q .normal s o
     | false => cwp P nt n0 keep (.region id ops draw) Q s o)
  | .seq a b, Q, s, o => cwpY P nt n0 n1 l keep yid Yd a (fun e s o => match e with | .normal => cwpY P nt n0 n1 l keep yid Yd b Q s o | e => Q e s o) s o
  | .cond c x y, Q, s, o =>
    (match lookO ⟨s, o⟩ c with
     | .lit (.bool b) => (b = true → cwpY P nt n0 n1 l keep yid Yd x Q s o) ∧ (b = false → cwpY P nt n0 n1 l keep yid Yd y Q s o)
     | _ => False)
  | .block id body, Q, s, o => cwpY P nt n0 n1 l keep yid Yd body (fun e s o => match e with | .exit i => (match Nat.beq i id with | true => Q .normal s o | false => Q (.exit i) s o) | e => Q e s o) s o
  | .loop body, Q, s, o => ∃ (I : Nat → List (Nat × AVal) → Objs → Prop) (n : Nat) (s1 : List (Nat × AVal)) (o1 : Objs), Weaker nt n0 ⟨s, o⟩ ⟨s1, o1⟩ ∧ I n s1 o1 ∧ ∀ m s o, I m s o → cwpY P nt n0 n1 l keep yid Yd body (fun e s o => match e with | .normal => ∃ m' s' o', m' < m ∧ Weaker nt n0 ⟨s, o⟩ ⟨s', o'⟩ ∧ I m' s' o' | e => Q e s o) s o
  | c, Q, s, o => cwp P nt n0 keep c Q s o

section
variable {P : Program} {nt n0 n1 l : Nat} {keep yid : Nat → Bool} {Yd : AVal → Objs → Objs → Prop}

theorem cwpY_sound {K0 : Ctx} (hn : K0.n = n0) (hn1 : n0 ≤ n1) (hY : Yields P l n1 K0 Yd) (c : Code) : ∀ (Q : CQ) (s : List (Nat × AVal)) (o : Objs) (K : Ctx) (a : Act) (w : World), K0.le K → Sat nt K ⟨s, o⟩ a w → cwpY P nt n0 n1 l keep yid Yd c Q s o → c.wpIn Fence.wide 0 P (Post nt K0 fun e t => Q e t.slots t.objs) a w := by
  have plain : ∀ (c : Code) (Q : CQ) (s : List (Nat × AVal)) (o : Objs) (K : Ctx) (a : Act) (w : World), K0.le K → Sat nt K ⟨s, o⟩ a w → cwp P nt n0 keep c Q s o → c.wpIn Fence.wide 0 P (Post nt K0 fun e t => Q e t.slots t.objs) a w := fun c Q s o K a w hle hs h => wpIn_wide.2 (awp_sound c _ _ K0 K a w hn hle hs (cwp_awp c Q s o h))
  induction c with
  | region id ops draw =>
    intro Q s o K a w hle hs h
    simp only [cwpY] at h
    split at h
    · obtain ⟨hd, h⟩ := h
      subst hd
      refine wpIn_region ?_
      rw [List.range_eq_range']
      simp only [cmerge_iff] at h
      refine copsY_sound hY (by omega) Post.noLets (Kt := fun s loc _ o => Q .normal (mergeL keep s loc) o) ?_ ops.size 0 (by omega) s K (startR ⟨s, o⟩) a w hle hs.start (by simpa [startR] using h)
      intro s K' rs a' w' hle' hr hk
      exact ⟨.normal, K', _, rfl, hle', mergeL_sound keep hr, hk⟩
    · exact plain _ Q s o K a w hle hs h
  | seq x y ihx ihy =>
    intro Q s o K a w hle hs h
    refine wpIn_seq (wpIn_mono (ihx _ s o K a w hle hs h) ?_)
    rintro e a' w' ⟨e', K', ⟨s', o'⟩, rfl, hle', hs', hq⟩
    cases e' with
    | normal => exact ihy Q s' o' K' a' w' hle' hs' hq
    | exit id => exact ⟨.exit id, K', _, rfl, hle', hs', hq⟩
    | goto l => exact ⟨.goto l, K', _, rfl, hle', hs', hq⟩
    | ret => exact ⟨.ret, K', _, rfl, hle', hs', hq⟩
  | cond c x y ihx ihy =>
    intro Q s o K a w hle hs h
    simp only [cwpY] at h
    split at h
    · rename_i b hb
      have hv : a.eval c = .bool b := by
        cases c with
        | tmp t =>
          simp only [lookO] at hb
          have hr := hs.slot t
          rw [hb] at hr
          exact rep_lit hr
        | const v => simp only [lookO, AVal.lit.injEq] at hb; exact hb
        | global g => simp [lookO] at hb
        | func f => simp [lookO] at hb
      exact wpIn_cond_split hv (fun ht => ihx Q s o K a w hle hs (h.1 ht)) (fun hf => ihy Q s o K a w hle hs (h.2 hf))
    · exact h.elim
  | block id body ih =>
    intro Q s o K a w hle hs h
    refine wpIn_block (wpIn_mono (ih _ s o K a w hle hs h) ?_)
    rintro e a' w' ⟨e', K', s', rfl, hle', hs', hq⟩
    cases e' with
    | normal => exact ⟨.normal, K', s', rfl, hle', hs', hq⟩
    | exit i =>
      simp only at hq
      simp only [AExit.real, Exit.inBlock]
      cases hb : Nat.beq i id with
      | true =>
        rw [hb] at hq
        have := Nat.eq_of_beq_eq_true hb
        rw [if_pos this]
        exact ⟨.normal, K', s', rfl, hle', hs', hq⟩
      | false =>
        rw [hb] at hq
        have : i ≠ id := fun e => by subst e; simp at hb
        rw [if_neg this]
        exact ⟨.exit i, K', s', rfl, hle', hs', hq⟩
    | goto l => exact ⟨.goto l, K', s', rfl, hle', hs', hq⟩
    | ret => exact ⟨.ret, K', s', rfl, hle', hs', hq⟩
  | loop body ih =>
    intro Q s o K a w hle hs h
    obtain ⟨I, m0, s1, o1, hweak0, hI, hround⟩ := h
    obtain ⟨K1, hle1, hs1⟩ := hweak0 K0 K a w hn hle hs
    refine wpIn_loop_ghost (fun m a w => ∃ s o K, K0.le K ∧ Sat nt K ⟨s, o⟩ a w ∧ I m s o) m0 ⟨s1, o1, K1, hle1, hs1, hI⟩ ?_
    rintro m a w ⟨s, o, K, hle, hs, hI⟩
    refine wpIn_mono (ih _ s o K a w hle hs (hround m s o hI)) ?_
    rintro e a' w' ⟨e', K', ⟨s', o'⟩, rfl, hle', hs', hq⟩
    cases e' with
    | normal =>
      obtain ⟨m', s'', o'', hlt, hweak, hI'⟩ := hq
      obtain ⟨K'', hle'', hs''⟩ := hweak K0 K' a' w' hn hle' hs'
      exact ⟨m', hlt, s'', o'', K'', hle'', hs'', hI'⟩
    | exit id => exact ⟨.exit id, K', _, rfl, hle', hs', hq⟩
    | goto l => exact ⟨.goto l, K', _, rfl, hle', hs', hq⟩
    | ret => exact ⟨.ret, K', _, rfl, hle', hs', hq⟩
  | skip => exact fun Q s o K a w hle hs h => plain _ Q s o K a w hle hs h
  | label l => exact fun Q s o K a w hle hs h => plain _ Q s o K a w hle hs h
  | exit id => exact fun Q s o K a w hle hs h => plain _ Q s o K a w hle hs h
  | goto l => exact fun Q s o K a w hle hs h => plain _ Q s o K a w hle hs h
  | ret => exact fun Q s o K a w hle hs h => plain _ Q s o K a w hle hs h
  | refuse y => exact fun Q s o K a w hle hs h => plain _ Q s o K a w hle hs h
  | scope b _ => exact fun Q s o K a w hle hs h => plain _ Q s o K a w hle hs h
  | rangeFunc f ps x y _ _ => exact fun Q s o K a w hle hs h => plain _ Q s o K a w hle hs h

/-- The rounds' turns: the k-th item takes the objects from so k to so (k + 1). -/
def StepsY (items : List AVal) (so : Nat → Objs) (x : AVal) (o o' : Objs) : Prop := ∃ k ex, items[k]? = some x ∧ o = so k ++ ex ∧ o' = so (k + 1)

/-- An iterator's contract, from its text. -/
theorem IterC.of_cwpY {gf : Nat} {fn : Func} {c : Code} {lb : List AVal} {items : List AVal} {so : Nat → Objs} (keep yid : Nat → Bool) (hf : P.funcs[gf]? = some fn) (hb : fn.body = some c) (hlen : Nat.ble (lb.length + 1) fn.ntmps = true) (hn : ∀ k, n1 ≤ (so k).length) (hlo : ∀ k, ∀ p ∈ so k, LowObj (so k).length p.2) (hlx : ∀ k, ∀ x ∈ items, Low (so k).length x)
    (h : ∀ l, cwpY P fn.ntmps n1 n1 l keep yid (StepsY items so) c (CRet P fn n1 fun _ o => o = so items.length) (initSlots 0 (.lit (.func (.yield l) #[] #[]) :: lb)) (so 0)) : IterC P gf lb n1 items so := by
  intro l K w vs hm hreps hround
  have harr : (#[.func (.yield l) #[] #[]] ++ vs.toArray : Array Value) = (Value.func (.yield l) #[] #[] :: vs).toArray := by simp
  rw [harr]
  have hreps2 : Reps { K with w0 := w } (.lit (.func (.yield l) #[] #[]) :: lb) (Value.func (.yield l) #[] #[] :: vs) := by
    refine ⟨by simp [hreps.1], fun i x v hx hv => ?_⟩
    cases i with
    | zero => simp at hx hv; subst hx hv; exact .lit _
    | succ i => exact (hreps.2 i x v (by simpa using hx) (by simpa using hv)).monoR (leR_with K K.B w)
  refine callsIn_of_wp_marks (n := 0) hf hb trivial ?_
  have hsat := Sat.enter (nt := fn.ntmps) hm.begin hreps2 (by simpa using Nat.le_of_ble_eq_true hlen)
  have hcut : Ctx.le { K.cut n1 with w0 := w } { K with w0 := w } := ⟨fun _ _ _ h => h, fun _ _ _ _ => rfl, fun _ _ _ _ => rfl, by have := hm.len; have := hn 0; show n1 ≤ K.n; omega, fun _ _ => Nat.le_refl _, rfl, fun _ _ h => h, fun _ _ _ _ => rfl⟩
  have hY : Yields P l n1 { K.cut n1 with w0 := w } (StepsY items so) := by
    rintro x o o' L W v ⟨k, ex, hk, rfl, rfl⟩ hL hmL hv
    have hmc := hmL.cut (n := (so k).length) (by simp) (fun o p hp ho => hlo k p (by rw [List.getElem?_append_left ho] at hp; exact List.mem_of_getElem? hp))
    rw [List.take_left] at hmc
    exact hround k x (L.cut (so k).length) W v hk ⟨⟨hL.M, hL.ρ, hL.C, hn k, hL.vs⟩, hL.B⟩ hmc (Low.cutRep hv (hlx k x (List.mem_of_getElem? hk)))
  refine wpIn_mono (cwpY_sound (K0 := { K.cut n1 with w0 := w }) rfl (Nat.le_refl _) hY c _ _ _ { K with w0 := w } _ w hcut hsat (h l)) ?_
  rintro e a' w' ⟨e', K', s', rfl, hle, hs', hq⟩
  have leave : Leaves P fn n1 (fun _ o => o = so items.length) s' → LeavesInM Fence.wide 0 P fn a'.tmps (fun e w' => (∃ v, e = .returned v) ∧ ∃ K' : Ctx, (K.cut n1).le K' ∧ MemSat K' (so items.length) w') a'.defers .returning w' := fun hl =>
    leave_body (K0 := K.cut n1) hm.below hcut rfl rfl rfl hle hs' hl fun v r objs' K' w' h1 h2 h3 h4 => by
      subst h4
      exact ⟨⟨v, rfl⟩, K', h1, h2⟩
  cases e' with
  | normal => simp only [CRet, forceA_iff] at hq; exact leave hq
  | ret => simp only [CRet, forceA_iff] at hq; exact leave hq
  | exit id => exact hq.elim
  | goto l => exact hq.elim
end

theorem lowR_of {n1 : Nat} {slots : List (Nat × AVal)} {rs : RSt} (hs : ∀ p ∈ slots, Low n1 p.2) (hl : ∀ p ∈ rs.loc, Low n1 p.2.2) : LowR n1 slots rs := by
  refine ⟨?_, ?_⟩
  · intro t
    clear hl
    induction slots with
    | nil => exact .any
    | cons p r ih =>
      obtain ⟨i, v⟩ := p
      rw [getSlot_cons]
      by_cases h : i = t
      · rw [if_pos h]; exact hs _ (List.mem_cons_self ..)
      · rw [if_neg h]; exact ih fun p hp => hs p (List.mem_cons_of_mem _ hp)
  · intro t g v
    obtain ⟨loc, G, objs⟩ := rs
    simp only at hl ⊢
    induction loc with
    | nil => intro h; simp [findL] at h
    | cons p r ih =>
      obtain ⟨i, g', v'⟩ := p
      rw [findL_cons]
      by_cases h : i = t
      · rw [if_pos h]
        intro e
        simp only [Option.some.injEq, Prod.mk.injEq] at e
        rw [← e.2]
        exact hl _ (List.mem_cons_self ..)
      · rw [if_neg h]; exact ih fun p hp => hl p (List.mem_cons_of_mem _ hp)

/-- The statement, as a walk in the form that computes meets it. -/
theorem range_nextC {P : Program} {nt n0 : Nat} {g : Operand} {p gf : Nat} {asg body : Code} {sl0 : List (Nat × AVal)} {o0 : Objs} {Q : CQ} (keep : Nat → Bool) (lb items : List AVal) (so : Nat → Objs) (n1 : Nat) (sl : List (Nat × AVal)) (hw : Weaker nt n0 ⟨sl0, o0⟩ ⟨sl, so 0⟩) (hn01 : Nat.ble n0 n1 = true) (hlen : ∀ k, k ≤ items.length → n1 ≤ (so k).length) (hp : p < nt)
    (hfree : getSlot sl p = .any) (hlow : ∀ t, Low n1 (getSlot sl t)) (hg : lookO ⟨sl, so 0⟩ g = .fn (.func gf) [] lb)
    (eg : ∀ args w, (callFunc gf args).run P w = .ok (.enter gf args) w) (hit : IterC P gf lb n1 items so)
    (hdr : ∀ id, keep (2000000 + id) = true) (hoka : roundOK asg = true) (hok : roundOK body = true)
    (hbody : ∀ k x, items[k]? = some x → cwp P nt n1 keep asg (fun e sl' o' => match e with | .normal => cwp P nt n1 keep body (fun e sl' o' => match e with | .normal => Weaker nt n1 ⟨sl', o'⟩ ⟨sl, so (k + 1)⟩ | _ => False) sl' o' | _ => False) ((p, x) :: sl) (so k))
    (hQ : Q .normal sl (so items.length)) :
    ∃ R : AExit → List (Nat × AVal) → Objs → Prop, RangeW P nt n0 (.rangeFunc g #[p] asg body) (fun e t => R e t.slots t.objs) ⟨sl0, o0⟩ ∧ ∀ e s o, R e s o → Q e s o := by
  refine ⟨fun e s o => e = .normal ∧ s = sl ∧ o = so items.length, ?_, ?_⟩
  · intro K0 K a w hn hle hs
    obtain ⟨K9, hle9, hs9⟩ := hw K0 K a w hn hle hs
    refine wp_mono (rangeC (P := P) (nt := nt) (n0 := n0) (keep := keep) (s := ⟨sl, so 0⟩) n1 rfl (Nat.le_of_ble_eq_true hn01) hlen hp hfree hlow hg eg hit hdr hoka hok ?_ K0 K9 a w hn hle9 hs9) ?_
    · intro k x hx
      refine awp_mono asg _ _ _ ?_ (cwp_awp asg _ _ _ (hbody k x hx))
      rintro e ⟨s1, o1⟩ h
      cases e with
      | normal =>
        refine awp_mono body _ _ _ ?_ (cwp_awp body _ _ _ h)
        rintro e ⟨s1, o1⟩ h
        cases e with
        | normal => exact h
        | exit id => exact h
        | goto t => exact h
        | ret => exact h
      | exit id => exact h
      | goto t => exact h
      | ret => exact h
    · rintro e' a' w' ⟨e1, K1, s1, he, hle1, hs1, rfl, rfl⟩
      exact ⟨.normal, K1, _, he, hle1, hs1, rfl, rfl, rfl⟩
  · rintro e s o ⟨rfl, rfl, rfl⟩
    exact hQ

end Go.Fw

namespace Go.Fw
set_option linter.unusedSimpArgs false
set_option linter.unusedVariables false
open Go.RowKit

/-- Slots, by their numbers. -/
inductive Tr where
  | leaf (k : Nat) (v : AVal)
  | node (p : Nat) (l r : Tr)

noncomputable def Tr.get (t : Tr) : Nat → AVal :=
  Tr.rec (motive := fun _ => Nat → AVal) (fun k v i => Bool.rec .any v (Nat.beq k i)) (fun p _ _ gl gr i => Bool.rec (gl i) (gr i) (Nat.ble p i)) t

noncomputable def Tr.put (x : AVal) (t : Tr) : Nat → Tr :=
  Tr.rec (motive := fun _ => Nat → Tr) (fun k v i => Bool.rec (.leaf k v) (.leaf k x) (Nat.beq k i)) (fun p l r pl pr i => Bool.rec (.node p (pl i) r) (.node p l (pr i)) (Nat.ble p i)) t

def Tr.full : Nat → Nat → Tr
  | 0, a => .leaf a .any
  | n + 1, a => .node (a + 2 ^ n) (Tr.full n a) (Tr.full n (a + 2 ^ n))

theorem Tr.get_leaf (k : Nat) (v : AVal) (i : Nat) : (Tr.leaf k v).get i = bif Nat.beq k i then v else .any := by
  show @Bool.rec (fun _ => AVal) .any v (Nat.beq k i) = _
  cases Nat.beq k i <;> rfl
theorem Tr.get_node (p : Nat) (l r : Tr) (i : Nat) : (Tr.node p l r).get i = bif Nat.ble p i then r.get i else l.get i := by
  show @Bool.rec (fun _ => AVal) (l.get i) (r.get i) (Nat.ble p i) = _
  cases Nat.ble p i <;> rfl
theorem Tr.put_leaf (x : AVal) (k : Nat) (v : AVal) (i : Nat) : (Tr.leaf k v).put x i = bif Nat.beq k i then .leaf k x else .leaf k v := by
  show @Bool.rec (fun _ => Tr) (.leaf k v) (.leaf k x) (Nat.beq k i) = _
  cases Nat.beq k i <;> rfl
theorem Tr.put_node (x : AVal) (p : Nat) (l r : Tr) (i : Nat) : (Tr.node p l r).put x i = bif Nat.ble p i then .node p l (r.put x i) else .node p (l.put x i) r := by
  show @Bool.rec (fun _ => Tr) (.node p (l.put x i) r) (.node p l (r.put x i)) (Nat.ble p i) = _
  cases Nat.ble p i <;> rfl

theorem Tr.get_put (x : AVal) (t : Tr) : ∀ i j : Nat, (j ≠ i → (t.put x i).get j = t.get j) ∧ ((t.put x i).get i = x ∨ (t.put x i).get i = .any) := by
  induction t with
  | leaf k v =>
    intro i j
    rw [Tr.put_leaf]
    cases hk : Nat.beq k i with
    | true =>
      simp only [cond_true]
      have he := Nat.eq_of_beq_eq_true hk
      subst he
      refine ⟨fun h => ?_, .inl ?_⟩
      · rw [Tr.get_leaf, Tr.get_leaf]
        cases hj : Nat.beq k j with
        | true => exact absurd (Nat.eq_of_beq_eq_true hj).symm h
        | false => rfl
      · rw [Tr.get_leaf, hk]; rfl
    | false =>
      simp only [cond_false]
      refine ⟨fun _ => trivial, .inr ?_⟩
      rw [Tr.get_leaf, hk]; rfl
  | node p l r ihl ihr =>
    intro i j
    rw [Tr.put_node]
    cases hi : Nat.ble p i with
    | true =>
      simp only [cond_true]
      refine ⟨fun h => ?_, ?_⟩
      · rw [Tr.get_node, Tr.get_node]
        cases Nat.ble p j with
        | true => exact (ihr i j).1 h
        | false => rfl
      · rw [Tr.get_node, hi]
        exact (ihr i j).2
    | false =>
      simp only [cond_false]
      refine ⟨fun h => ?_, ?_⟩
      · rw [Tr.get_node, Tr.get_node]
        cases Nat.ble p j with
        | true => rfl
        | false => exact (ihl i j).1 h
      · rw [Tr.get_node, hi]
        exact (ihl i j).2

noncomputable def lookT (t : Tr) (x : Operand) : AVal :=
  Operand.rec (motive := fun _ => Tr → AVal) (fun i t => t.get i) (fun v _ => .lit v) (fun _ _ => .any) (fun f _ => .fn (.func f) [] []) x t

theorem lookT_eq (t : Tr) (x : Operand) : lookT t x = match x with | .tmp i => t.get i | .const v => .lit v | .func f => .fn (.func f) [] [] | .global _ => .any := by
  cases x <;> rfl


/-- A state holds of a real one. -/
structure SatT (nt : Nat) (K : Ctx) (t : Tr) (objs : Objs) (a : Act) (w : World) : Prop where
  mem : MemSat K objs w
  slot : ∀ i, Rep K (t.get i) (a.tmps.getD i undef)
  size : a.tmps.size = nt
  defers : Marks K a.defers

/-- Where a run stops, and why: for its author alone. -/
structure Why where
  op : Op
  vals : List AVal
  next : Option (FuncId × List AVal × Objs)

inductive R2 where
  | bad (y : Why)
  | ok (t : Tr) (o : Objs)

noncomputable def putT (nt : Nat) (t : Tr) (dst : Option Tmp) (v : AVal) (o : Objs) : R2 :=
  Option.rec (motive := fun _ => Nat → Tr → AVal → Objs → R2) (fun _ t _ o => .ok t o)
    (fun d nt t v o => Bool.rec (motive := fun _ => Tmp → Tr → AVal → Objs → R2) (fun d t v o => .ok (t.put v d) o) (fun d _ _ _ => .bad ⟨.ready d, [], none⟩) (Nat.ble nt d) d t v o) dst nt t v o

theorem blt_ble (d nt : Nat) : Nat.blt d nt = !Nat.ble nt d := by
  cases h : Nat.ble nt d with
  | true =>
    have h1 := Nat.le_of_ble_eq_true h
    cases hb : Nat.blt d nt with
    | false => rfl
    | true => have h2 : d < nt := by simpa using hb
              exact absurd h2 (by omega)
  | false =>
    have h1 : ¬ nt ≤ d := fun hh => by rw [Nat.ble_eq_true_of_le hh] at h; cases h
    have h2 : d < nt := by omega
    have h3 : Nat.blt d nt = true := by simpa using h2
    rw [h3]; rfl

theorem putT_eq (nt : Nat) (t : Tr) (dst : Option Tmp) (v : AVal) (o : Objs) : putT nt t dst v o =
  match dst with
  | none => .ok t o
  | some d => match Nat.blt d nt with | true => .ok (t.put v d) o | false => .bad ⟨.ready d, [], none⟩ := by
  cases dst with
  | none => rfl
  | some d =>
    show _ = (match Nat.blt d nt with | true => R2.ok (t.put v d) o | false => .bad ⟨.ready d, [], none⟩)
    rw [blt_ble]
    show Bool.rec (motive := fun _ => Tmp → Tr → AVal → Objs → R2) (fun d t v o => .ok (t.put v d) o) (fun d _ _ _ => .bad ⟨.ready d, [], none⟩) (Nat.ble nt d) d t v o = _
    cases Nat.ble nt d <;> rfl

/-- Rounds of a loop that an iterator runs: the token, and what a round makes of the objects. -/
structure YT where
  m : Nat
  rd : AVal → Objs → Option Objs
  why : AVal → Objs → Why

/-- What an operation gives. -/
inductive SV where
  | bad (y : Why)
  | ok (v : AVal) (o : Objs)

noncomputable def badV (t : Tr) (o : Oper) : SV := .bad ⟨o.op, o.op.operands.toList.map (lookT t), none⟩

noncomputable def orV (r : Option (AVal × Objs)) (z : SV) : SV :=
  Option.rec (motive := fun _ => SV → SV) (fun z => z) (fun p _ => .ok p.1 p.2) r z

theorem orV_eq (r : Option (AVal × Objs)) (z : SV) : orV r z = match r with | some p => .ok p.1 p.2 | none => z := by
  cases r <;> rfl


noncomputable def orP (r : Option AVal) (objs : Objs) (z : SV) : SV :=
  Option.rec (motive := fun _ => Objs → SV → SV) (fun _ z => z) (fun v objs _ => .ok v objs) r objs z

theorem orP_eq (r : Option AVal) (objs : Objs) (z : SV) : orP r objs z = match r with | some v => .ok v objs | none => z := by
  cases r <;> rfl


noncomputable def yieldV (Y : Option YT) (t : Tr) (objs : Objs) (o : Oper) : SV :=
  match Y, o.op with
  | some y, .call c =>
    (match c.callee, c.args.toList with
     | .value f, [x] =>
       (match lookT t f with
        | .yld m => (match Nat.beq m y.m with | true => (match y.rd (lookT t x) objs with | some objs' => .ok (.lit (.bool true)) objs' | none => .bad (y.why (lookT t x) objs)) | false => badV t o)
        | _ => badV t o)
     | _, _ => badV t o)
  | _, _ => badV t o

noncomputable def restV (P : Program) (Y : Option YT) (t : Tr) (objs : Objs) (o : Oper) : SV :=
  orV (bX P (lookT t) objs o) (orV (extraT P (lookT t) objs o) (yieldV Y t objs o))

noncomputable def ansV (P : Program) (call : CallF) (Y : Option YT) (t : Tr) (objs : Objs) (o : Oper) (r : ORes) : SV :=
  ORes.rec (motive := fun _ => Program → CallF → Option YT → Tr → Objs → Oper → SV) (fun P _ Y t objs o => restV P Y t objs o) (fun v _ _ _ _ objs _ => .ok v objs)
    (fun b v _ _ _ t objs o => Bool.rec (motive := fun _ => AVal → Tr → Objs → Oper → SV) (fun _ t _ o => badV t o) (fun v _ objs _ => .ok v objs) b v t objs o)
    (fun b v objs' _ _ _ t _ o => Bool.rec (motive := fun _ => AVal → Tr → Objs → Oper → SV) (fun _ t _ o => badV t o) (fun v _ objs _ => .ok v objs) b v t objs' o)
    (fun v objs' _ _ _ _ _ _ => .ok v objs') (fun f args _ call _ _ objs o => orV (call f args objs) (.bad ⟨o.op, [], some (f, args, objs)⟩)) r P call Y t objs o

theorem ansV_eq (P : Program) (call : CallF) (Y : Option YT) (t : Tr) (objs : Objs) (o : Oper) (r : ORes) : ansV P call Y t objs o r =
  match r with
  | .val v => .ok v objs
  | .ifb b v => (match b with | true => .ok v objs | false => badV t o)
  | .eff b v objs' => (match b with | true => .ok v objs' | false => badV t o)
  | .upd v objs' => .ok v objs'
  | .call f args => orV (call f args objs) (.bad ⟨o.op, [], some (f, args, objs)⟩)
  | .bad => restV P Y t objs o := by
  cases r with
  | ifb b v => cases b <;> rfl
  | eff b v objs' => cases b <;> rfl
  | _ => rfl


noncomputable def pickT (t : Tr) (c x y : Operand) : Option AVal :=
  match lookT t c with
  | .lit (.bool b) => (match b with | true => some (lookT t x) | false => some (lookT t y))
  | _ => none

noncomputable def evalV (P : Program) (call : CallF) (Y : Option YT) (t : Tr) (objs : Objs) (o : Oper) : SV := ansV P call Y t objs o (evalQ P (lookT t) objs o)

noncomputable def stepOpV (op : Op) : Program → CallF → Bool → Option YT → Tr → Objs → Oper → SV :=
  Op.rec (motive := fun _ => Program → CallF → Bool → Option YT → Tr → Objs → Oper → SV) (fun _ P call _ Y t objs o => evalV P call Y t objs o) (fun _ P call _ Y t objs o => evalV P call Y t objs o) (fun c x y _ _ _ _ t objs o => orP (pickT t c x y) objs (badV t o)) (fun _ P call _ Y t objs o => evalV P call Y t objs o) (fun _ _ P call _ Y t objs o => evalV P call Y t objs o) (fun _ _ P call _ Y t objs o => evalV P call Y t objs o) (fun _ _ _ P call ow Y t objs o => orV (bOwn P (lookT t) objs o ow none) (evalV P call Y t objs o)) (fun _ _ _ _ P call _ Y t objs o => evalV P call Y t objs o) (fun _ _ P call _ Y t objs o => evalV P call Y t objs o) (fun _ _ _ P call _ Y t objs o => evalV P call Y t objs o) (fun _ P call _ Y t objs o => evalV P call Y t objs o) (fun _ P call _ Y t objs o => evalV P call Y t objs o) (fun _ P call _ Y t objs o => evalV P call Y t objs o) (fun _ _ _ _ _ P call _ Y t objs o => evalV P call Y t objs o) (fun _ _ _ P call _ Y t objs o => evalV P call Y t objs o) (fun _ _ _ P call _ Y t objs o => evalV P call Y t objs o) (fun _ _ P call _ Y t objs o => evalV P call Y t objs o) (fun _ _ P call _ Y t objs o => evalV P call Y t objs o) (fun _ _ _ P call _ Y t objs o => evalV P call Y t objs o) (fun _ _ P call _ Y t objs o => evalV P call Y t objs o) (fun _ _ P call _ Y t objs o => evalV P call Y t objs o) (fun _ _ _ P call _ Y t objs o => evalV P call Y t objs o) (fun _ _ _ _ _ P call _ Y t objs o => orP (preT P (lookT t) objs o) objs (evalV P call Y t objs o)) (fun _ _ _ P call _ Y t objs o => evalV P call Y t objs o) (fun _ _ _ P call _ Y t objs o => evalV P call Y t objs o) (fun _ _ _ P call _ Y t objs o => evalV P call Y t objs o) (fun _ _ _ P call _ Y t objs o => evalV P call Y t objs o) (fun _ _ _ _ P call _ Y t objs o => evalV P call Y t objs o) (fun _ _ _ _ P call _ Y t objs o => evalV P call Y t objs o) (fun _ _ _ P call _ Y t objs o => evalV P call Y t objs o) (fun _ _ _ _ P call _ Y t objs o => evalV P call Y t objs o) (fun _ _ P call _ Y t objs o => evalV P call Y t objs o) (fun _ _ P call _ Y t objs o => evalV P call Y t objs o) (fun _ P call _ Y t objs o => evalV P call Y t objs o) (fun _ _ _ _ P call _ Y t objs o => evalV P call Y t objs o) (fun _ _ P call _ Y t objs o => evalV P call Y t objs o) (fun _ P call _ Y t objs o => orP (preT P (lookT t) objs o) objs (evalV P call Y t objs o)) (fun _ P call _ Y t objs o => evalV P call Y t objs o) (fun _ _ _ _ _ t _ o => badV t o) (fun _ P call _ Y t objs o => evalV P call Y t objs o) (fun _ _ P call _ Y t objs o => evalV P call Y t objs o) (fun _ _ _ P call _ Y t objs o => evalV P call Y t objs o) (fun _ _ P call _ Y t objs o => evalV P call Y t objs o) op

noncomputable def stepV (P : Program) (call : CallF) (ow : Bool) (Y : Option YT) (t : Tr) (objs : Objs) (o : Oper) : SV := stepOpV o.op P call ow Y t objs o

theorem stepV_eq (P : Program) (call : CallF) (ow : Bool) (Y : Option YT) (t : Tr) (objs : Objs) (o : Oper) : stepV P call ow Y t objs o =
  match o.op with
  | .pick c x y => orP (pickT t c x y) objs (badV t o)
  | .defer _ => badV t o
  | .call _ => orP (preT P (lookT t) objs o) objs (evalV P call Y t objs o)
  | .slice _ _ _ _ _ => orP (preT P (lookT t) objs o) objs (evalV P call Y t objs o)
  | .buildSlice _ _ _ => orV (bOwn P (lookT t) objs o ow none) (evalV P call Y t objs o)
  | _ => evalV P call Y t objs o := by
  obtain ⟨dst, op, type, pos, after, guard⟩ := o
  cases op <;> rfl

noncomputable def guardT (ops : Array Oper) (t : Tr) (g : Nat × Bool) : Option Bool :=
  match ops[g.1]? with
  | some o =>
    (match o.dst with
     | some d => (match t.get d with | .lit (.bool b) => some (b == g.2) | .lit (.tuple _) => some false | _ => none)
     | none => none)
  | none => none

noncomputable def gdT (ops : Array Oper) (t : Tr) (g : Option (Nat × Bool)) : Option Bool :=
  Option.rec (motive := fun _ => Array Oper → Tr → Option Bool) (fun _ _ => some true) (fun g ops t => guardT ops t g) g ops t

theorem gdT_eq (ops : Array Oper) (t : Tr) (g : Option (Nat × Bool)) : gdT ops t g = match g with | none => some true | some g => guardT ops t g := by
  cases g <;> rfl


noncomputable def putS (nt : Nat) (t : Tr) (dst : Option Tmp) (r : SV) : R2 :=
  SV.rec (motive := fun _ => Nat → Tr → Option Tmp → R2) (fun y _ _ _ => .bad y) (fun v o nt t dst => putT nt t dst v o) r nt t dst

theorem putS_eq (nt : Nat) (t : Tr) (dst : Option Tmp) (r : SV) : putS nt t dst r = match r with | .ok v o => putT nt t dst v o | .bad y => .bad y := by
  cases r <;> rfl


noncomputable def thenO (f : Tr → Objs → R2) (r : R2) : R2 :=
  R2.rec (motive := fun _ => (Tr → Objs → R2) → R2) (fun y _ => .bad y) (fun t o f => f t o) r f

theorem thenO_eq (f : Tr → Objs → R2) (r : R2) : thenO f r = match r with | .ok t o => f t o | .bad y => .bad y := by
  cases r <;> rfl


noncomputable def badT (t : Tr) (o : Oper) : R2 := .bad ⟨o.op, o.op.operands.toList.map (lookT t), none⟩

noncomputable def stepG (P : Program) (call : CallF) (ow : Bool) (nt : Nat) (Y : Option YT) (ops : Array Oper) (t : Tr) (o : Objs) (op : Oper) : R2 :=
  Option.rec (motive := fun _ => Program → CallF → Bool → Nat → Option YT → Tr → Objs → Oper → R2) (fun _ _ _ _ _ t _ op => badT t op)
    (fun b P call ow nt Y t o op => Bool.rec (motive := fun _ => Program → CallF → Bool → Nat → Option YT → Tr → Objs → Oper → R2) (fun _ _ _ nt _ t o op => putT nt t op.dst (.lit undef) o)
      (fun P call ow nt Y t o op => putS nt t op.dst (stepV P call ow Y t o op)) b P call ow nt Y t o op) (gdT ops t op.guard) P call ow nt Y t o op

theorem stepG_eq (P : Program) (call : CallF) (ow : Bool) (nt : Nat) (Y : Option YT) (ops : Array Oper) (t : Tr) (o : Objs) (op : Oper) : stepG P call ow nt Y ops t o op =
  match gdT ops t op.guard with
  | some b => (match b with | true => putS nt t op.dst (stepV P call ow Y t o op) | false => putT nt t op.dst (.lit undef) o)
  | none => badT t op := by
  unfold stepG
  cases gdT ops t op.guard with
  | none => rfl
  | some b => cases b <;> rfl


noncomputable def opsT (P : Program) (call : CallF) (ow : Bool) (nt : Nat) (Y : Option YT) (ops : Array Oper) (l : List Oper) : Tr → Objs → R2 :=
  List.rec (motive := fun _ => Tr → Objs → R2) (fun t o => .ok t o) (fun op _ ih t o => thenO ih (stepG P call ow nt Y ops t o op)) l

/-- What holds of an operation in any frame holds in this one. -/
structure OpLift (F : Fence) (P : Program) : Prop where
  fn : ∀ f, F.fn f
  op : ∀ (o : Oper) (a : Act) (w : World) (next : Act → World → Prop) (Q : Exit → Act → World → Prop), (∀ c, o.op ≠ .defer c) → o.wp P a w next Q → o.wpIn F 0 P a w next Q

/-- What is known of the rounds. -/
def YGood (P : Program) (F : Fence) (K0 : Ctx) : Option YT → Prop
  | none => True
  | some y => F = Fence.wide ∧ y.m < K0.n ∧ ∀ (x : AVal) (o o' : Objs) (L : Ctx) (W : World) (v : Value), y.rd x o = some o' → K0.le L → MemSat L o W → Rep L x v →
    YieldAt Fence.wide 0 P (K0.ρ y.m 0) #[v] W fun e W' => e = .returned (.bool true) ∧ ∃ L' : Ctx, L.le L' ∧ MemSat L' o' W'

section
variable {P : Program} {call : CallF} {ow : Bool} {nt : Nat} {F : Fence} {Y : Option YT}

theorem lookT_sound {K : Ctx} {t : Tr} {a : Act} (h : ∀ i, Rep K (t.get i) (a.tmps.getD i undef)) (x : Operand) : Rep K (lookT t x) (a.eval x) := by
  cases x with
  | tmp i => exact h i
  | const v => exact .lit v
  | global g => exact .any _
  | func f => exact .fn (.func f) [] [] [] [] rfl rfl (fun i x v h => by simp at h) (fun i x v h => by simp at h)

theorem SatT.put {K L : Ctx} {t t' : Tr} {objs objs' o1 : Objs} {a : Act} {w w' : World} {dst : Option Tmp} {v : AVal} {u : Value} (h : SatT nt K t objs a w) (hKL : K.le L) (hm : MemSat L objs' w') (hr : Rep L v u)
    (hp : putT nt t dst v objs' = .ok t' o1) : o1 = objs' ∧ SatT nt L t' o1 (a.put dst u) w' := by
  have base : SatT nt L t objs' a w' := ⟨hm, fun i => (h.slot i).mono hKL, h.size, h.defers.mono hKL⟩
  rw [putT_eq] at hp
  cases dst with
  | none =>
    simp only [R2.ok.injEq] at hp
    obtain ⟨rfl, rfl⟩ := hp
    exact ⟨rfl, base⟩
  | some d =>
    simp only at hp
    split at hp
    · rename_i hb
      simp only [R2.ok.injEq] at hp
      obtain ⟨rfl, rfl⟩ := hp
      have hlt : d < a.tmps.size := by rw [h.size]; simpa using hb
      refine ⟨rfl, hm, fun i => ?_, by simpa [Act.put] using h.size, base.defers⟩
      obtain ⟨h1, h2⟩ := Tr.get_put v t d i
      by_cases hi : i = d
      · subst hi
        have : (a.put (some i) u).tmps.getD i undef = u := by simp [Act.put, hlt]
        rw [this]
        rcases h2 with h2 | h2
        · rw [h2]; exact hr
        · rw [h2]; exact .any _
      · rw [h1 hi]
        have : (a.put (some d) u).tmps.getD i undef = a.tmps.getD i undef := by simp [Act.put, Array.getElem?_setIfInBounds_ne (Ne.symm hi)]
        rw [this]
        exact base.slot i
    · cases hp

/-- What an operation gives, wherever its operands are told. -/
def GivesV (P : Program) (F : Fence) (K0 : Ctx) (look : Operand → AVal) (objs : Objs) (o : Oper) (v : AVal) (o1 : Objs) : Prop :=
  ∀ (K : Ctx) (a : Act) (w : World) (next : Act → World → Prop) (Q : Exit → Act → World → Prop), K0.le K → MemSat K objs w → (∀ x ∈ o.op.operands, Rep K (look x) (a.eval x)) →
    (∀ u w' K', K.le K' → MemSat K' o1 w' → Rep K' v u → next (a.put o.dst u) w') → o.wpIn F 0 P a w next Q

theorem GivesV.sub {K0 : Ctx} {look : Operand → AVal} {objs o1 : Objs} {o : Oper} {u v : AVal} (h : GivesV P F K0 look objs o u o1) (hs : Sub u v) : GivesV P F K0 look objs o v o1 :=
  fun K a w next Q hK hm hl hn => h K a w next Q hK hm hl fun x w' K' h1 h2 h3 => hn x w' K' h1 h2 (hs K' x h3)

theorem GivesV.of_does (hF : OpLift F P) {K0 : Ctx} {look : Operand → AVal} {objs o1 : Objs} {o : Oper} {v : AVal} (hd : ∀ c, o.op ≠ .defer c)
    (h : ∀ (K : Ctx) (a : Act) (w : World), MemSat K objs w → (∀ x ∈ o.op.operands, Rep K (look x) (a.eval x)) → Does P (execOp a.eval o) w K o1 v) : GivesV P F K0 look objs o v o1 := by
  intro K a w next Q _ hm hl hn
  obtain ⟨u, w', K', hrun, hle, hm', hr⟩ := h K a w hm hl
  refine hF.op o a w _ Q hd ?_
  unfold Oper.wp
  rcases hrun with hrun | ⟨hrun, rfl⟩
  · rw [hrun]; exact hn _ _ K' hle hm' hr
  · rw [hrun]; exact hn _ _ K' hle hm' hr

theorem evalX_at {K : Ctx} {look : Operand → AVal} {objs o1 : Objs} {w : World} {ρ : Operand → Value} {o : Oper} {v : AVal} (hm : MemSat K objs w) (hl : ∀ x ∈ o.op.operands, Rep K (look x) (ρ x))
    (hx : ∀ {Kp : AVal → Objs → Prop}, Kp v o1 → evalX P look objs o Kp) : Does P (execOp ρ o) w K o1 v := by
  obtain ⟨look', h1, h2⟩ := lookAt hl
  have h3 := hx (Kp := fun r' o' => r' = v ∧ o' = o1) ⟨rfl, rfl⟩
  rw [evalX_congr o h1] at h3
  obtain ⟨r', o', hd, rfl, rfl⟩ := evalX_sound (P := P) hm h2 h3
  exact hd

theorem own_at {K : Ctx} {look : Operand → AVal} {objs o1 : Objs} {w : World} {ρ : Operand → Value} {o : Oper} {v : AVal} (hm : MemSat K objs w) (hl : ∀ x ∈ o.op.operands, Rep K (look x) (ρ x))
    (h : ownSl P look objs o fun r' o' => r' = v ∧ o' = o1) : Does P (execOp ρ o) w K o1 v := by
  obtain ⟨look', h1, h2⟩ := lookAt hl
  have h3 : ownSl P look' objs o fun r' o' => r' = v ∧ o' = o1 := by
    unfold ownSl at h ⊢
    split at h
    · rename_i t n ps hop
      have : (ps.toList.map fun p => (p.1, look' p.2)) = ps.toList.map fun p => (p.1, look p.2) := by
        refine List.map_congr_left fun p hp => ?_
        rw [h1 p.2 (by rw [hop]; simp only [Op.operands]; simpa using ⟨p.1, Array.mem_toList_iff.1 hp⟩)]
      simp only [this]
      exact h
    · exact h.elim
  obtain ⟨r', o', hd, rfl, rfl⟩ := ownSl_sound (P := P) hm h2 h3
  exact hd

theorem yieldV_sound {K0 : Ctx} {t : Tr} {objs objs' : Objs} {o : Oper} {v : AVal} (hY : YGood P F K0 Y) (hs : yieldV Y t objs o = .ok v objs') : GivesV P F K0 (lookT t) objs o v objs' := by
  intro K a w next Q hle hm hl hn
  unfold yieldV at hs
  split at hs
  · rename_i y c hop
    split at hs
    · rename_i f x hcal hargs
      split at hs
      · rename_i m hmf
        split at hs
        · rename_i hme
          split at hs
          · rename_i o1 hrd
            simp only [SV.ok.injEq] at hs
            obtain ⟨rfl, rfl⟩ := hs
            have hme := Nat.eq_of_beq_eq_true hme
            subst hme
            obtain ⟨rfl, hlt, hY⟩ := hY
            have ha : c.args = #[x] := Array.toList_inj.1 (by rw [hargs])
            have hf := hl f (by rw [hop]; simp [Op.operands, Call.operands, hcal])
            have hx := hl x (by rw [hop]; simp [Op.operands, Call.operands, hcal, ha])
            have hfv : a.eval f = .func (.yield (K0.ρ y.m 0)) #[] #[] := by
              rw [hmf] at hf
              generalize a.eval f = u at hf
              cases hf with
              | yld _ _ => rw [hle.ρ y.m 0 hlt (Nat.zero_le _)]
            obtain ⟨fn, tmps, assign, body, hrun, hround⟩ := hY (lookT t x) objs o1 K w (a.eval x) hrd hle hm hx
            refine ⟨fun _ _ => trivial, ?_⟩
            show o.uponIn Fence.wide 0 P a _ Q ((execOp a.eval o).run P w)
            rw [run_yieldOp hop hcal ha hfv rfl hrun]
            refine ⟨fun hd => by simp [Fence.wide] at hd, hround.mono ?_⟩
            rintro e w' ⟨rfl, L', hle', hm'⟩
            exact hn _ _ L' hle' hm' (.lit _)
          · cases hs
        · cases hs
      · cases hs
    · cases hs
  · cases hs

theorem pick_does {t : Tr} {c x y : Operand} {v : AVal} {o : Oper} {K : Ctx} {objs : Objs} {w : World} {a : Act} (hop : o.op = .pick c x y) (hp : pickT t c x y = some v) (hm : MemSat K objs w) (hl : ∀ x ∈ o.op.operands, Rep K (lookT t x) (a.eval x)) : Does P (execOp a.eval o) w K objs v := by
  have hc := hl c (by rw [hop]; simp [Op.operands])
  have hx := hl x (by rw [hop]; simp [Op.operands])
  have hy := hl y (by rw [hop]; simp [Op.operands])
  unfold pickT at hp
  split at hp
  · rename_i b hb
    rw [hb] at hc
    split at hp
    · simp only [Option.some.injEq] at hp
      subst hp
      refine ⟨_, w, K, .inl ?_, .refl K, hm, hx⟩
      simp only [execOp, hop, rep_lit hc, asBool, Sem.run_bind, Sem.run_pure, Result.andThen_ok, if_true]
    · simp only [Option.some.injEq] at hp
      subst hp
      refine ⟨_, w, K, .inl ?_, .refl K, hm, hy⟩
      simp only [execOp, hop, rep_lit hc, asBool, Sem.run_bind, Sem.run_pure, Result.andThen_ok, Bool.false_eq_true, if_false]
  · cases hp

theorem evalV_sound (hc : GoodCall P call) (hF : OpLift F P) {K0 : Ctx} {t : Tr} {objs objs' : Objs} {o : Oper} {v : AVal} (hY : YGood P F K0 Y) (hnd : ∀ c, o.op ≠ .defer c) (hs : evalV P call Y t objs o = .ok v objs') : GivesV P F K0 (lookT t) objs o v objs' := by
  have rest : restV P Y t objs o = .ok v objs' → GivesV P F K0 (lookT t) objs o v objs' := by
    intro hs
    unfold restV at hs
    rw [orV_eq] at hs
    split at hs
    · rename_i p hx
      simp only [SV.ok.injEq] at hs
      obtain ⟨rfl, rfl⟩ := hs
      exact .of_does hF hnd fun K a w hm hl => evalX_at hm hl fun hk => bX_sound hx hk
    · rw [orV_eq] at hs
      split at hs
      · rename_i p hx
        simp only [SV.ok.injEq] at hs
        obtain ⟨rfl, rfl⟩ := hs
        exact .of_does hF hnd fun K a w hm hl => extraT_sound hm hl hx
      · exact yieldV_sound hY hs
  intro K a w next Q hle hm hl hn
  obtain ⟨look', q1, q2⟩ := lookAt hl
  have hsound := evalOp_sound (P := P) hm q2 o
  rw [← evalOp_congr o q1, ← evalQ_eq] at hsound
  unfold evalV at hs
  rw [ansV_eq] at hs
  have does : ∀ {v : AVal} {o1 : Objs}, Does P (execOp a.eval o) w K o1 v → (∀ u w' K', K.le K' → MemSat K' o1 w' → Rep K' v u → next (a.put o.dst u) w') → o.wpIn F 0 P a w next Q := by
    rintro v o1 ⟨u, w', K', hrun, hle, hm, hr⟩ hn
    refine hF.op o a w _ Q hnd ?_
    unfold Oper.wp
    rcases hrun with hrun | ⟨hrun, rfl⟩
    · rw [hrun]; exact hn _ _ K' hle hm hr
    · rw [hrun]; exact hn _ _ K' hle hm hr
  generalize evalQ P (lookT t) objs o = r at hs hsound
  split at hs
  · simp only [SV.ok.injEq] at hs
    obtain ⟨rfl, rfl⟩ := hs
    exact does hsound hn
  · split at hs
    · simp only [SV.ok.injEq] at hs
      obtain ⟨rfl, rfl⟩ := hs
      exact does (hsound rfl) hn
    · cases hs
  · split at hs
    · simp only [SV.ok.injEq] at hs
      obtain ⟨rfl, rfl⟩ := hs
      exact does (hsound rfl) hn
    · cases hs
  · simp only [SV.ok.injEq] at hs
    obtain ⟨rfl, rfl⟩ := hs
    exact does hsound hn
  · rename_i f args
    obtain ⟨vs, hrun, hreps⟩ := hsound
    rw [orV_eq] at hs
    split at hs
    · rename_i p hcl
      simp only [SV.ok.injEq] at hs
      obtain ⟨rfl, rfl⟩ := hs
      refine hF.op o a w _ Q hnd ?_
      unfold Oper.wp
      rw [hrun]
      refine (hc f args objs p.1 p.2 hcl K w vs hm hreps).mono ?_
      rintro e w' ⟨v, r', o', K', rfl, hle', hm, hr, rfl, rfl⟩
      exact hn _ _ K' hle' hm hr
    · cases hs
  · exact rest hs K a w next Q hle hm hl hn

theorem stepV_sound (hc : GoodCall P call) (hF : OpLift F P) {K0 : Ctx} {t : Tr} {objs objs' : Objs} {o : Oper} {v : AVal} (hY : YGood P F K0 Y) (hs : stepV P call ow Y t objs o = .ok v objs') : GivesV P F K0 (lookT t) objs o v objs' := by
  have pre : (∀ c, o.op ≠ .defer c) → orP (preT P (lookT t) objs o) objs (evalV P call Y t objs o) = .ok v objs' → GivesV P F K0 (lookT t) objs o v objs' := by
    intro hnd hs
    rw [orP_eq] at hs
    split at hs
    · rename_i u hv
      simp only [SV.ok.injEq] at hs
      obtain ⟨rfl, rfl⟩ := hs
      exact .of_does hF hnd fun K a w hm hl => preT_sound hm hl hv
    · exact evalV_sound hc hF hY hnd hs
  rw [stepV_eq] at hs
  split at hs
  · rename_i c x y hop
    have hd : ∀ c, o.op ≠ .defer c := fun c e => by rw [hop] at e; cases e
    rw [orP_eq] at hs
    split at hs
    · rename_i u hv
      simp only [SV.ok.injEq] at hs
      obtain ⟨rfl, rfl⟩ := hs
      exact .of_does hF hd fun K a w hm hl => pick_does hop hv hm hl
    · cases hs
  · cases hs
  · rename_i c hop
    exact pre (fun c e => by rw [hop] at e; cases e) hs
  · rename_i ty x lo hi mx hop
    exact pre (fun c e => by rw [hop] at e; cases e) hs
  · rename_i ty n ps hop
    have hnd : ∀ c, o.op ≠ .defer c := fun c e => by rw [hop] at e; cases e
    rw [orV_eq] at hs
    split at hs
    · rename_i p hb
      simp only [SV.ok.injEq] at hs
      obtain ⟨rfl, rfl⟩ := hs
      exact .of_does hF hnd fun K a w hm hl => own_at hm hl (bOwn_sound hb (Kp := fun r' o' => r' = p.1 ∧ o' = p.2) ⟨rfl, rfl⟩).2
    · exact evalV_sound hc hF hY hnd hs
  · rename_i h1 h2 h3 h4 h5
    exact evalV_sound hc hF hY (fun c e => h2 c e) hs

theorem guardT_sound {K : Ctx} {t : Tr} {objs : Objs} {a : Act} {w : World} {ops : Array Oper} {g : Nat × Bool} {b : Bool} (h : SatT nt K t objs a w) (hg : guardT ops t g = some b) : (yielded ops a.tmps g.1 == some g.2) = b := by
  unfold guardT at hg
  split at hg
  · rename_i o ho
    split at hg
    · rename_i d hd
      have hs := h.slot d
      split at hg
      · rename_i b' hb
        rw [hb] at hs
        have hv := rep_lit hs
        have hv : a.tmps[d]? = some (.bool b') := by
          rcases Nat.lt_or_ge d a.tmps.size with h' | h'
          · rw [Array.getElem?_eq_getElem h']; simpa [h'] using hv
          · simp [Array.getElem?_eq_none h', undef] at hv
        simp only [Option.some.injEq] at hg
        subst hg
        simp only [yielded, ho, hd, Option.bind_some, hv]
        cases b' <;> cases g.2 <;> rfl
      · rename_i vs hb
        rw [hb] at hs
        have hv := rep_lit hs
        simp only [Option.some.injEq] at hg
        subst hg
        simp only [yielded, ho, hd, Option.bind_some]
        rcases Nat.lt_or_ge d a.tmps.size with h' | h'
        · have hv : a.tmps[d]? = some (.tuple vs) := by rw [Array.getElem?_eq_getElem h']; simpa [h'] using hv
          simp only [hv]; rfl
        · simp only [Array.getElem?_eq_none h']; rfl
      · cases hg
    · cases hg
  · cases hg

theorem SatT.looks {K : Ctx} {t : Tr} {objs : Objs} {a : Act} {w : World} (h : SatT nt K t objs a w) (o : Oper) : ∀ x ∈ o.op.operands, Rep K (lookT t x) (a.eval x) := fun x _ => lookT_sound h.slot x

theorem gdT_sound {K : Ctx} {t : Tr} {objs : Objs} {a : Act} {w : World} {ops : Array Oper} {op : Oper} {b : Bool} (h : SatT nt K t objs a w) (hg : gdT ops t op.guard = some b) : Region.wanted op (yielded ops a.tmps) = b := by
  rw [gdT_eq] at hg
  split at hg
  · rename_i e
    simp only [Option.some.injEq] at hg
    simp [Region.wanted, e, ← hg]
  · rename_i g e
    simp only [Region.wanted, e]
    exact guardT_sound h hg

theorem opsT_sound (hc : GoodCall P call) (hF : OpLift F P) {K0 : Ctx} (hY : YGood P F K0 Y) {ops : Array Oper} {t' : Tr} {o' : Objs} {Q : Exit → Act → World → Prop} (hQ : ∀ K a w, K0.le K → SatT nt K t' o' a w → Q .normal a w) :
    ∀ (n i : Nat), i + n = ops.size → ∀ (K : Ctx) (t : Tr) (o : Objs) (a : Act) (w : World), K0.le K → SatT nt K t o a w → opsT P call ow nt Y ops (ops.toList.drop i) t o = .ok t' o' → wpOpsIn F 0 P ops Q (List.range' i n) a w
  | 0, i, hn, K, t, o, a, w, hK, h, hr => by
    have : ops.toList.drop i = [] := List.drop_eq_nil_of_le (by simp; omega)
    rw [this] at hr
    have hr : R2.ok t o = .ok t' o' := hr
    simp only [R2.ok.injEq] at hr
    obtain ⟨rfl, rfl⟩ := hr
    exact hQ K a w hK h
  | n + 1, i, hn, K, t, o, a, w, hK, h, hr => by
    have hlt : i < ops.toList.length := by simp; omega
    rw [List.drop_eq_getElem_cons hlt] at hr
    have hi : ops[i]? = some (ops.toList[i]) := by simp
    generalize ops.toList[i] = op at hr hi
    simp only [List.range'_succ]
    unfold wpOpsIn
    simp only [hi]
    replace hr : thenO (opsT P call ow nt Y ops (ops.toList.drop (i + 1))) (stepG P call ow nt Y ops t o op) = .ok t' o' := hr
    have ih : ∀ {t1 : Tr} {o1 : Objs}, opsT P call ow nt Y ops (ops.toList.drop (i + 1)) t1 o1 = .ok t' o' → ∀ a w, (∃ K', K.le K' ∧ SatT nt K' t1 o1 a w) → wpOpsIn F 0 P ops Q (List.range' (i + 1) n) a w := by
      rintro t1 o1 hr a w ⟨K', hle, hs⟩
      exact opsT_sound hc hF hY hQ n (i + 1) (by omega) K' t1 o1 a w (hK.trans hle) hs hr
    rw [thenO_eq] at hr
    split at hr
    · rename_i t1 o1 hs
      rw [stepG_eq] at hs
      split at hs
      · rename_i b hg
        have hw := gdT_sound h hg
        split at hs
        · rw [if_pos hw]
          rw [putS_eq] at hs
          split at hs
          · rename_i v o2 hv
            refine stepV_sound hc hF hY hv K a w _ Q hK h.mem (h.looks op) fun u w' K' h1 h2 h3 => ?_
            obtain ⟨rfl, hs'⟩ := h.put h1 h2 h3 hs
            exact ih hr _ _ ⟨K', h1, hs'⟩
          · cases hs
        · rw [if_neg (by rw [hw]; simp)]
          obtain ⟨rfl, hs'⟩ := h.put (.refl K) h.mem (.lit undef) hs
          exact ⟨fun f _ => hF.fn f, ih hr _ _ ⟨K, .refl K, hs'⟩⟩
      · cases hs
    · cases hr
end
end Go.Fw
