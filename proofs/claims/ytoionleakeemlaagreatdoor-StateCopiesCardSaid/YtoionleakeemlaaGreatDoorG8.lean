/-
  A round's body in the frame of a range over a function: what the plain walk shows of a region holds there too. Program-independent.
  The data of the program as Lean structures, and their cells. Definitions; no condition.
  Small facts on bytes and runes that contracts lean on. No condition beyond those that stand in each.
  strings.Builder: what copyCheck and String do, in the world. No condition but that the builder lies there.
  strings.Builder: contracts over objects. No condition beyond those that stand in each.
  strings.Builder: String. No condition beyond those that stand in each.
  shape.sizes: the iterator's contract: it yields the sizes from the greatest down. The bounds are those of a shape that may be.
  Small proofs that stand in many places, each once: theorems whose premise is proved by the tactic in their statement.
-/
import Derived.Test.YtoionleakeemlaaGreatDoorG7
import Derived.RangeFuncFrom
import Derived.RangeFuncCalls
import Derived.RangeFuncLeaves
import Derived.TacticsIn
import Derived.Test.YtoionleakeemlaaGreatDoorProg
import Derived.Laws.RangeString
import Derived.Laws.RangeAny
import Derived.Lib.Strings
import Derived.Lib.Slices
import Derived.Lib.Walk
import Derived.Lib.Bytealg
import Derived.Shelf.Strings.BuilderX
import Derived.Shelf.RegionOpenPlain
import Derived.Lib.Builder
import Derived.Lib.AppendStr
import Derived.Lib.UnsafeStr
import Derived.Lib.MakeNoZero
import Derived.WalkKit
import Derived.Laws.Externs
import Derived.Laws.IdiomCopy
import Derived.Laws.BitsLemmas
import Derived.KernelRfl
import Derived.RangeFuncBound
import Derived.Shelf.Abstract
import Derived.Shelf.RegionOpen
import Derived.OwnWalkIn
import Derived.TacticsInMore
import Derived.LoopNIn
import Derived.LoopIn
namespace Go.Fw
set_option linter.unusedSimpArgs false
set_option linter.unusedVariables false
open Go.RowKit

theorem wpOps_in {P : Program} {l n : Nat} {ops : Array Oper} {Q : Exit → Act → World → Prop} (hQ : ¬ LetsOut Q) (hop : ∀ o ∈ ops.toList, ∀ c, o.op ≠ .defer c) : ∀ (is : List Nat) (a : Act) (w : World),
    wpOps P ops Q is a w → wpOpsIn (Fence.wide.inRound l) n P ops Q is a w
  | [], a, w, h => h
  | i :: rest, a, w, h => by
    simp only [wpOps] at h
    simp only [wpOpsIn]
    cases ho : ops[i]? with
    | none =>
      simp only [ho] at h ⊢
      exact wpOps_in hQ hop rest a w h
    | some o =>
      simp only [ho] at h ⊢
      by_cases hw : Region.wanted o (yielded ops a.tmps) = true
      · simp only [hw, if_true] at h ⊢
        rcases h with h | ⟨_, h⟩
        · refine ⟨fun _ _ => trivial, ?_⟩
          have hm : o ∈ ops.toList := List.mem_of_getElem? (by simpa using ho)
          rw [Fence.inRound_round, Oper.semAt_some l _ o (hop o hm)]
          unfold Oper.wp at h
          have ih := fun a w => wpOps_in (P := P) (l := l) (n := n) hQ hop rest a w
          revert h
          generalize (execOp a.eval o).run P w = r
          intro h
          cases r with
          | ok nx w' =>
            cases nx with
            | value v => exact ih _ _ h
            | skip => exact ih _ _ h
            | defer d => exact ih _ _ h
            | enter f args =>
              refine ⟨fun hd => by simp [Fence.inRound, Fence.wide] at hd, ?_⟩
              refine CallsIn.inRound l (callsIn_wide.2 ?_)
              refine Calls.mono h ?_
              intro e w'' hr
              cases e with
              | returned v => exact ih _ _ hr
              | panicked chain => exact hr
              | outgrown => exact hr
            | row row args =>
              refine ⟨fun hd => by simp [Fence.inRound, Fence.wide] at hd, fun c cs _ => ?_⟩
              obtain ⟨v, w'', hr, hs⟩ := h c cs
              exact ⟨v, w'', ih _ _ hr, stepsIn_wide.2 hs⟩
            | _ => exact h.elim
          | halt r w' =>
            cases r with
            | panic v => exact h
            | _ => exact h.elim
        · exact absurd h hQ
      · simp only [hw, Bool.false_eq_true, if_false] at h ⊢
        exact ⟨fun _ _ => trivial, wpOps_in hQ hop rest _ w h⟩

theorem MemSat.cells {K : Ctx} {s : Objs} {w : World} (h : MemSat K s w) {o : Nat} {q : Nat × AObj} (hq : s[o]? = some q) (hl : q.2.live = true) (hC : K.C o q.1 ≠ 0) (hr : ∃ t k es, q.2 = .row t k es) : ∃ c t fr, w.heap[K.ρ o q.1]? = some (.cells c t fr) := by
  obtain ⟨ver, x⟩ := q
  obtain ⟨t, k, es, rfl⟩ := hr
  obtain ⟨_, _, h3⟩ := h.obj o _ hq
  obtain ⟨c, ⟨fr, _, hc⟩, _⟩ := h3 hC
  exact ⟨c, t, fr, hc⟩

theorem cells_of_cell {w : World} {b i : Nat} {u : Value} (h : w.cell? ⟨b, i, none⟩ = some u) : ∃ c t fr, w.heap[b]? = some (.cells c t fr) := by
  unfold World.cell? at h
  split at h
  · rename_i c t fr e
    exact ⟨c, t, fr, e⟩
  · simp at h

/-- What a range over a function may turn beside the body: it leaves objects that are rows alone. -/
theorem MemSat.turned {K : Ctx} {s : Objs} {W W' : World} {row : Option Nat} {B0 : Nat} (h : MemSat K s W) (hrows : ∀ q ∈ s, q.2.live = true → ∃ t k es, q.2 = .row t k es) (hB : ∀ b x, K.B b = some x → b < B0)
    (hg : W.grownBy W' row) (hr : ∀ r, row = some r → B0 ≤ r ∧ ∃ o : Obj, W.heap[r]? = some o ∧ o.isCells = false) : MemSat K s W' := by
  have same : ∀ (b : Nat) (c : Array Value) (t : TypeId) (fr : Nat × Nat), W.heap[b]? = some (.cells c t fr) → W'.heap[b]? = W.heap[b]? := by
    intro b c t fr hb
    refine hg.block b (Array.getElem?_eq_some_iff.1 hb).1 fun e => ?_
    obtain ⟨_, o, ho, hn⟩ := hr b e.symm
    rw [hb] at ho
    cases ho
    simp [Obj.isCells] at hn
  have own : ∀ (o : Nat) (p : Nat × AObj), s[o]? = some p → p.2.live = true → K.C o p.1 ≠ 0 → W'.heap[K.ρ o p.1]? = W.heap[K.ρ o p.1]? := by
    intro o p hp hl hC
    obtain ⟨c, t, fr, hc⟩ := h.cells hp hl hC (hrows p (List.mem_of_getElem? hp) hl)
    exact same _ _ _ _ hc
  refine ⟨h.len, h.ver, fun o p hp => ObjSat.mono (Ctx.le.refl K) (h.olt hp) (by rw [h.ver o p hp]; exact Nat.le_refl _) (h.obj o p hp) (fun hl hC => own o p hp hl hC), fun o p hp hl hC => ?_, h.dis, fun b i u hu => ?_, ?_⟩
  · obtain ⟨h1, h2, h3⟩ := h.lo o p hp hl hC
    exact ⟨h1, Nat.lt_of_lt_of_le h2 hg.size, h3⟩
  · obtain ⟨h1, h2⟩ := h.mem b i u hu
    obtain ⟨c, t, fr, hc⟩ := cells_of_cell h1
    exact ⟨(World.cell?_of_block (a := ⟨b, i, none⟩) (same _ _ _ _ hc)).trans h1, h2⟩
  · refine h.below.step rfl rfl hg.os hg.tape hg.output hg.size fun b x hx => hg.block b (h.below.lt hx) fun e => ?_
    have := (hr b e.symm).1
    have := hB b x hx
    omega

/-- What a round protects: what is protected, and all that is no row of cells. -/
def roundB (B : Nat → Option Obj) (W : World) (b : Nat) : Option Obj :=
  match B b with
  | some x => some x
  | none => match W.heap[b]? with | some (.cells ..) => none | some x => some x | none => none

theorem roundB_of {B : Nat → Option Obj} {W : World} {b : Nat} {x : Obj} (h : B b = some x) : roundB B W b = some x := by simp only [roundB, h]
theorem roundB_cells {B : Nat → Option Obj} {W : World} {b : Nat} {c : Array Value} {t : TypeId} {fr : Nat × Nat} (h : B b = none) (hb : W.heap[b]? = some (.cells c t fr)) : roundB B W b = none := by simp only [roundB, h, hb]
theorem roundB_heap {B : Nat → Option Obj} {W : World} {b : Nat} {x : Obj} (h : roundB B W b = some x) : B b = some x ∨ (W.heap[b]? = some x ∧ x.isCells = false) := by
  unfold roundB at h
  split at h
  · rename_i y hy
    simp only [Option.some.injEq] at h
    subst h
    exact .inl hy
  · right
    split at h
    · cases h
    · rename_i y hne hy
      simp only [Option.some.injEq] at h
      subst h
      refine ⟨hy, ?_⟩
      cases y with
      | cells c t fr => exact (hne _ _ _ rfl).elim
      | _ => rfl
    · cases h

theorem roundB_same {B : Nat → Option Obj} {W W' : World} (hp : ∀ b x, roundB B W b = some x → W'.heap[b]? = some x) (hB : ∀ b x, B b = some x → W.heap[b]? = some x) (hsz : W.heap.size ≤ W'.heap.size) : KeepsOthers W W' := by
  refine ⟨hsz, fun k o hk hn => hp k o ?_⟩
  unfold roundB
  split
  · rename_i x hx
    rw [hB k x hx] at hk
    simpa using hk
  · rw [hk]
    cases o with
    | cells c t fr => simp [Obj.isCells] at hn
    | _ => rfl

section
variable {P : Program} {nt n0 : Nat}

/-- What holds ahead of a round. -/
def RoundI (nt : Nat) (K0 K : Ctx) (slots : List (Nat × AVal)) (objs : Objs) (tmps : Array Value) (W : World) : Prop :=
  ∃ K1 : Ctx, K0.le K1 ∧ K1.B = K.B ∧ Sat nt K1 ⟨slots, objs⟩ { tmps := tmps, defers := [] } W

theorem rangeW_region {α : Type} {g : Operand} {p q aid bid rid : Nat} {oa : Oper} {ops : Array Oper} {s : St} (e : α → Value) (S : List α → Prop) (N : Nat) (so : List α → Objs) (h0 : so [] = s.objs) (hp : p < nt) (hq : q < nt)
    (hoa : oa.op = .assign (.tmp p)) (hod : oa.dst = some q) (hog : oa.guard = none) (hfree : getSlot s.slots p = .any)
    (hrows : ∀ xs q, q ∈ so xs → q.2.live = true → ∃ t k es, q.2 = .row t k es)
    (hit : ∀ K a w, Sat nt K s a w → ∃ (gf : Nat) (lb : Array Value) (pc : Addr) (u : Value), a.eval g = .func (.func gf) #[] lb ∧ (∀ args w, (callFunc gf args).run P w = .ok (.enter gf args) w) ∧ pc.block < w.heap.size ∧
      (∀ K1 xs W, Sat nt K1 ⟨s.slots, so xs⟩ { tmps := a.tmps, defers := [] } W → W.cell? pc = some u) ∧
      SeqStopsK Fence.wide 2 P gf lb (fun x => #[e x]) (fun W W' => W.cell? pc = some u → W'.cell? pc = some u) S (fun _ => True) N w)
    (hdefer : ∀ o ∈ ops.toList, ∀ c, o.op ≠ .defer c)
    (hbody : ∀ pre x, pre.length < N → awpOps P nt ops ((q, .lit (e x)) :: s.slots) false ops.toList (startR ⟨(q, .lit (e x)) :: s.slots, so pre⟩) (fun rs => Weaker nt n0 ⟨s.slots, rs.objs⟩ ⟨s.slots, so (pre ++ [x])⟩)) :
    RangeW P nt n0 (.rangeFunc g #[p] (.region aid #[oa] false) (.block bid (.region rid ops false))) (fun e t => e = .normal ∧ ∃ xs, S xs ∧ t = ⟨s.slots, so xs⟩) s := by
  intro K0 K a w hn hle hs
  obtain ⟨gf, lb, pc, u, hg, eg, hpc, hkeep, hseq⟩ := hit K a w hs
  have hBlt : ∀ b x, K.B b = some x → b < w.heap.size := fun b x hx => hs.mem.below.lt hx
  refine (wpIn_wide (n := 3)).1 (wpIn_rangeFunc_ownF (F := Fence.wide) rfl (by decide) hg trivial eg hseq (fun h k q => k (h q)) ?_ (Below.refl _ w) (fun _ => rfl)
    (fun xs W => RoundI nt K0 K s.slots (so xs) a.tmps W) (fun _ _ _ => False) ?_ (fun _ _ _ _ _ h => h.elim) ?_ (fun x => { tmps := (a.tmps.setIfInBounds p (e x)).setIfInBounds q (e x), defers := [] }) ?_ ?_ ?_ (fun _ _ _ _ _ _ h => h.elim))
  · intro W l o o' hl ho _ _ hc
    have hne : pc.block ≠ l := by omega
    exact (World.cell?_of_block (World.putObj_heap_other hne)).trans hc
  · rintro xs W W' row ⟨K1, hle1, hB1, hs1⟩ hg' hr
    exact ⟨K1, hle1, hB1, hs1.mem.turned (hrows xs) (fun b x hx => hBlt b x (by rw [← hB1]; exact hx)) hg' hr, hs1.slot, hs1.size, Marks.nil⟩
  · exact ⟨K, hle, rfl, by rw [h0]; exact hs.mem, hs.slot, hs.size, Marks.nil⟩
  · intro l x W Kq hK
    refine wpIn_region ?_
    have hz : (#[p].zip #[e x]) = #[(p, e x)] := by simp
    have hsz : a.tmps.size = nt := hs.size
    have hv : (a.tmps.setIfInBounds p (e x)).getD p undef = e x := by
      rw [Array.getD_eq_getD_getElem?, Array.getElem?_setIfInBounds_self_of_lt (by omega)]
      rfl
    simp only [hz]
    show wpOpsIn (Fence.wide.inRound l) _ P #[oa] _ [0] _ _
    simp only [wpOpsIn, List.getElem?_toArray, List.getElem?_cons_zero, Region.wanted, hog, if_true]
    refine ⟨fun f hf => by simp [Oper.about, hoa] at hf, ?_⟩
    rw [Oper.semAt_eq _ _ _ (by simp [hoa])]
    unfold execOp
    rw [hoa]
    show Kq (Act.put _ oa.dst _) W
    rw [hod]
    show Kq { tmps := (a.tmps.setIfInBounds p (e x)).setIfInBounds q ((a.tmps.setIfInBounds p (e x)).getD p undef), defers := [] } W
    rw [hv]
    exact hK
  · rintro l pre x W ⟨K1, hle1, hB1, hs1⟩ hlen
    have hBW : ∀ b y, K.B b = some y → W.heap[b]? = some y := fun b y hy => hs1.mem.below.block b y (by rw [hB1]; exact hy)
    have hm2 : MemSat { K1 with B := roundB K.B W, w0 := W } (so pre) W := by
      refine hs1.mem.with _ W (fun o q hq hl hC => ?_) ⟨rfl, rfl, rfl, Nat.le_refl _, fun b y hy => ?_⟩
      · obtain ⟨c, t, fr, hc⟩ := hs1.mem.cells hq hl hC (hrows pre q (List.mem_of_getElem? hq) hl)
        refine roundB_cells ?_ hc
        rw [← hB1]
        exact (hs1.mem.lo o q hq hl hC).1
      · rcases roundB_heap hy with h | h
        · exact hBW b y h
        · exact h.1
    obtain ⟨Kb, hKb⟩ : ∃ Kb : Ctx, Kb = { K0 with B := roundB K.B W, w0 := W, M := fun b i => match roundB K.B W b with | some _ => K1.M b i | none => K0.M b i } := ⟨_, rfl⟩
    have hKbM : ∀ b i u, K0.M b i = some u → Kb.M b i = some u := by
      intro b i u hu
      rw [hKb]
      show (match roundB K.B W b with | some _ => K1.M b i | none => K0.M b i) = some u
      split
      · exact hle1.M b i u hu
      · exact hu
    have hKb0 : ∀ b i y, roundB K.B W b = some y → Kb.M b i = K1.M b i := by
      intro b i y hy
      rw [hKb]
      show (match roundB K.B W b with | some _ => K1.M b i | none => K0.M b i) = _
      rw [hy]
    have hleb : Kb.le { K1 with B := roundB K.B W, w0 := W } := by
      refine ⟨fun b i u hu => ?_, by rw [hKb]; exact hle1.ρ, by rw [hKb]; exact hle1.C, by rw [hKb]; exact hle1.n, by rw [hKb]; exact hle1.vs, by rw [hKb], by rw [hKb]; exact fun _ _ h => h, fun b i y hy => ?_⟩
      · rw [hKb] at hu
        show K1.M b i = some u
        change (match roundB K.B W b with | some _ => K1.M b i | none => K0.M b i) = some u at hu
        split at hu
        · exact hu
        · exact hle1.M b i u hu
      · rw [hKb] at hy
        exact (hKb0 b i y hy).symm
    have hs2 : Sat nt { K1 with B := roundB K.B W, w0 := W } ⟨(q, .lit (e x)) :: s.slots, so pre⟩ { tmps := (a.tmps.setIfInBounds p (e x)).setIfInBounds q (e x), defers := [] } W := by
      refine ⟨hm2, fun t => ?_, by have := hs1.size; simpa using this, Marks.nil⟩
      show Rep _ (getSlot ((q, .lit (e x)) :: s.slots) t) _
      have hsz : a.tmps.size = nt := hs1.size
      rw [getSlot_cons]
      by_cases ht : q = t
      · subst ht
        rw [if_pos rfl]
        have : ((a.tmps.setIfInBounds p (e x)).setIfInBounds q (e x)).getD q undef = e x := by
          rw [Array.getD_eq_getD_getElem?, Array.getElem?_setIfInBounds_self_of_lt (by simp; omega)]
          rfl
        simp only [this]
        exact .lit _
      · rw [if_neg ht]
        by_cases hpt : p = t
        · subst hpt
          rw [hfree]
          exact .any _
        · have : ((a.tmps.setIfInBounds p (e x)).setIfInBounds q (e x)).getD t undef = a.tmps.getD t undef := by
            rw [Array.getD_eq_getD_getElem?, Array.getD_eq_getD_getElem?, Array.getElem?_setIfInBounds_ne ht, Array.getElem?_setIfInBounds_ne hpt]
          simp only [this]
          exact (hs1.slot t).monoR (leR_with K1 _ W)
    refine wpIn_block (wpIn_region ?_)
    refine wpOps_in ?_ hdefer _ _ _ ?_
    · rintro ⟨a', w', h⟩
      exact h
    rw [List.range_eq_range']
    refine awpOps_sound (K0 := { K1 with B := roundB K.B W, w0 := W }) (Kt := fun rs => Weaker nt n0 ⟨s.slots, rs.objs⟩ ⟨s.slots, so (pre ++ [x])⟩) ?_ ops.size 0 (by omega) _ _ _ _ (.refl _) hs2.start (by simpa using hbody pre x hlen)
    intro K2 rs a' w' hle2 hr hk
    have hs3 : Sat nt K2 ⟨s.slots, rs.objs⟩ { tmps := a.tmps, defers := [] } w' := ⟨hr.mem, fun t => ((hs1.slot t).monoR (leR_with K1 _ W)).mono hle2, hs1.size, Marks.nil⟩
    obtain ⟨K3, hle3, hs4⟩ := hk Kb K2 _ w' (by rw [hKb]; exact hn) (hleb.trans hle2) hs3
    have hblock : ∀ b y, roundB K.B W b = some y → w'.heap[b]? = some y := fun b y hy => hs4.mem.below.block b y (hle3.B b y (by rw [hKb]; exact hy))
    have hsz : W.heap.size ≤ w'.heap.size := by have := hs4.mem.below.size; rw [hle3.w0, hKb] at this; exact this
    have hmem : MemSat { K3 with B := K.B, w0 := K0.w0 } (so (pre ++ [x])) w' := by
      refine hs4.mem.with K.B K0.w0 (fun o q hq hl hC => ?_) ?_
      · cases hb : K.B (K3.ρ o q.1) with
        | none => rfl
        | some y =>
          have := hle3.B _ y (by rw [hKb]; exact roundB_of hb)
          rw [(hs4.mem.lo o q hq hl hC).1] at this
          cases this
      · have q := hs4.mem.below
        have q1 := hs1.mem.below
        have e0 := hle1.w0
        have e3 : K3.w0 = W := by rw [hle3.w0, hKb]
        refine ⟨?_, ?_, ?_, ?_, fun b y hy => hblock b y (roundB_of hy)⟩
        · rw [q.os, e3, q1.os, e0]
        · rw [q.tape, e3, q1.tape, e0]
        · rw [q.output, e3, q1.output, e0]
        · have := q1.size; rw [e0] at this; exact Nat.le_trans this hsz
    have hI : RoundI nt K0 K s.slots (so (pre ++ [x])) a.tmps w' := by
      refine ⟨{ K3 with B := K.B, w0 := K0.w0 }, ⟨fun b i u hu => hle3.M b i u (hKbM b i u hu), by have := hle3.ρ; rw [hKb] at this; exact this, by have := hle3.C; rw [hKb] at this; exact this, by have := hle3.n; rw [hKb] at this; exact this, by have := hle3.vs; rw [hKb] at this; exact this, rfl, hle.B, fun b i y hy => ((hle3.M0 b i y (by rw [hKb]; exact roundB_of (hle.B b y hy))).trans (hKb0 b i y (roundB_of (hle.B b y hy)))).trans (hle1.M0 b i y hy)⟩, rfl, hmem, fun t => (hs4.slot t).monoR (leR_with K3 _ _), hs1.size, Marks.nil⟩
    refine ⟨roundB_same hblock hBW hsz, fun _ => ?_, hI⟩
    obtain ⟨K4, _, _, hs5⟩ := hI
    exact hkeep K4 _ w' hs5
  · rintro D xs W hD hS ⟨K1, hle1, hB1, hs1⟩ hk
    have hB2 : ∀ b y, K.B b = some y → (if b = D then some (Obj.deferred (some [])) else K.B b) = some y := fun b y hy => by
      have := hBlt b y hy
      rw [if_neg (by omega)]
      exact hy
    refine ⟨.normal, { K1 with B := fun b => if b = D then some (.deferred (some [])) else K.B b }, ⟨s.slots, so xs⟩, rfl, ⟨hle1.M, hle1.ρ, hle1.C, hle1.n, hle1.vs, hle1.w0, fun b y hy => hB2 b y (hle.B b y hy), hle1.M0⟩, ⟨?_, fun t => (hs1.slot t).monoR (leR_with K1 _ K1.w0), hs1.size, ?_⟩, rfl, xs, hS, rfl⟩
    · refine hs1.mem.with _ K1.w0 (fun o q hq hl hC => ?_) ?_
      · obtain ⟨c, t, fr, hc⟩ := hs1.mem.cells hq hl hC (hrows xs q (List.mem_of_getElem? hq) hl)
        have hne : K1.ρ o q.1 ≠ D := fun e => by rw [e, hk] at hc; cases hc
        show (if K1.ρ o q.1 = D then _ else _) = none
        rw [if_neg hne, ← hB1]
        exact (hs1.mem.lo o q hq hl hC).1
      · have q1 := hs1.mem.below
        refine ⟨q1.os, q1.tape, q1.output, q1.size, fun b y hy => ?_⟩
        by_cases hb : b = D
        · subst hb
          simp only [if_true] at hy
          rw [hk]
          exact hy
        · simp only [if_neg hb] at hy
          exact q1.block b y (by rw [hB1]; exact hy)
    · have hw0 : K1.w0 = K.w0 := hle1.w0.trans hle.w0.symm
      refine ⟨List.nodup_cons.2 ⟨fun hin => ?_, hs.defers.1⟩, fun d hd => ?_⟩
      · obtain ⟨D', h1, h2, _⟩ := hs.defers.2 _ hin
        simp only [Deferred.mk.injEq, Target.collected.injEq, and_true] at h1
        subst h1
        have := hBlt _ _ h2
        omega
      · rcases List.mem_cons.1 hd with rfl | hd
        · refine ⟨D, rfl, by simp, ?_⟩
          show K1.w0.heap.size ≤ D
          rw [hw0]
          exact Nat.le_trans hs.mem.below.size hD
        · obtain ⟨D', h1, h2, h3⟩ := hs.defers.2 d hd
          refine ⟨D', h1, hB2 _ _ h2, ?_⟩
          show K1.w0.heap.size ≤ D'
          rw [hw0]
          exact h3

/-- The same, as a walk in the form that computes meets it. -/
theorem range_next {α : Type} {g : Operand} {p q aid bid rid : Nat} {oa : Oper} {ops : Array Oper} {sl : List (Nat × AVal)} {o : Objs} {Q : CQ} (e : α → Value) (ys : List α) (so : List α → Objs) (h0 : so [] = o) (hp : p < nt) (hq : q < nt)
    (hoa : oa.op = .assign (.tmp p)) (hod : oa.dst = some q) (hog : oa.guard = none) (hfree : getSlot sl p = .any)
    (hrows : ∀ xs q, q ∈ so xs → q.2.live = true → ∃ t k es, q.2 = .row t k es)
    (hit : ∀ K a w, Sat nt K ⟨sl, o⟩ a w → ∃ (gf : Nat) (lb : Array Value) (pc : Addr) (u : Value), a.eval g = .func (.func gf) #[] lb ∧ (∀ args w, (callFunc gf args).run P w = .ok (.enter gf args) w) ∧ pc.block < w.heap.size ∧
      (∀ K1 xs W, Sat nt K1 ⟨sl, so xs⟩ { tmps := a.tmps, defers := [] } W → W.cell? pc = some u) ∧
      SeqStopsK Fence.wide 2 P gf lb (fun x => #[e x]) (fun W W' => W.cell? pc = some u → W'.cell? pc = some u) (fun zs => zs = ys) (fun _ => True) ys.length w)
    (hdefer : (ops.toList.all fun o => match o.op with | .defer _ => false | _ => true) = true)
    (hbody : ∀ pre x, pre.length < ys.length → cops P nt ops ((q, .lit (e x)) :: sl) false ops.toList [] [] (so pre) (fun _ _ o => Weaker nt n0 ⟨sl, o⟩ ⟨sl, so (pre ++ [x])⟩))
    (hQ : Q .normal sl (so ys)) :
    ∃ R : AExit → List (Nat × AVal) → Objs → Prop, RangeW P nt n0 (.rangeFunc g #[p] (.region aid #[oa] false) (.block bid (.region rid ops false))) (fun e t => R e t.slots t.objs) ⟨sl, o⟩ ∧ ∀ e s o, R e s o → Q e s o := by
  refine ⟨fun e s o => e = .normal ∧ s = sl ∧ o = so ys, ?_, ?_⟩
  · intro K0 K a w hn hle hs
    refine wp_mono (rangeW_region (P := P) (nt := nt) (n0 := n0) (s := ⟨sl, o⟩) e (fun zs => zs = ys) ys.length so h0 hp hq hoa hod hog hfree hrows hit ?_ ?_ K0 K a w hn hle hs) ?_
    · intro o ho c hc
      have := List.all_eq_true.1 hdefer o ho
      rw [hc] at this
      cases this
    · intro pre x hlen
      exact cops_ops (hbody pre x hlen)
    · rintro e' a' w' ⟨e1, K1, s1, he, hle1, hs1, rfl, xs, rfl, rfl⟩
      exact ⟨.normal, K1, _, he, hle1, hs1, rfl, rfl, rfl⟩
  · rintro e s o ⟨rfl, rfl, rfl⟩
    exact hQ

theorem told_same {n0 : Nat} {r : AVal} {o : Objs} : Told n0 r o r o := fun _ K _ _ _ hle hm hr => ⟨K, hle, hm, hr⟩

theorem box_cell {K : Ctx} {objs : Objs} {w : World} {o : Nat} {t : TypeId} {v : Value} (hm : MemSat K objs w) (ho : objs[o]? = some (0, .row t 1 [[.lit v]])) : w.cell? ⟨K.ρ o 0, 0, none⟩ = some v ∧ K.ρ o 0 < w.heap.size := by
  obtain ⟨_, h2, h3⟩ := hm.obj o _ ho
  have hC : K.C o 0 ≠ 0 := by simp at h2; omega
  obtain ⟨c, ⟨fr, _, hc⟩, _, _, hx⟩ := h3 hC
  obtain ⟨u, hu, hr⟩ := hx 0 0 [.lit v] (.lit v) rfl rfl
  have := rep_lit hr
  subst this
  exact ⟨by simpa [World.cell?, hc] using hu, (Array.getElem?_eq_some_iff.1 hc).1⟩

theorem rep_fn_ptrs {K : Ctx} {f : FuncId} {o o' k k' i j i' j' : Nat} {v : Value} (h : Rep K (.fn (.func f) [] [.ptr o 0 k i j, .ptr o' 0 k' i' j']) v) : v = .func (.func f) #[] #[.pointer (some ⟨K.ρ o 0, i * k + j, none⟩), .pointer (some ⟨K.ρ o' 0, i' * k' + j', none⟩)] := by
  cases h with
  | fn _ _ _ vs us hl hm h g =>
    match vs, us, hl, hm with
    | [], [u1, u2], _, _ =>
      have h1 := g 0 _ _ rfl rfl
      have h2 := g 1 _ _ rfl rfl
      cases h1 with
      | ptr => cases h2 with
        | ptr => rfl

end
end Go.Fw
namespace Go.Proofs.YtoionleakeemlaaGreatDoor
set_option linter.unusedSimpArgs false
set_option linter.unusedVariables false
open Go.Fw

def ints (l : List Int) : AVal := listA 1 (fun n => [I n]) 0 l
theorem ints_low (l : List Int) (n : Nat) : Low n (ints l) := listA_low fun _ => rfl
def bytes (l : List Int) : AVal := listA 1 (fun n => [Y n]) 0 l
theorem bytes_low (l : List Int) (n : Nat) : Low n (bytes l) := listA_low fun _ => rfl
def runes (l : List Int) : AVal := listA 1 (fun n => [J n]) 0 l
theorem runes_low (l : List Int) (n : Nat) : Low n (runes l) := listA_low fun _ => rfl
def texts (l : List ByteArray) : AVal := listA 1 (fun n => [Sg n]) ⟨#[]⟩ l
theorem texts_low (l : List ByteArray) (n : Nat) : Low n (texts l) := listA_low fun _ => rfl
structure Alt where
  nodes : Int
  wall : Int
  deriving DecidableEq
def Alt.zero : Alt := ⟨0, 0⟩
def Alt.cells (x : Alt) : List AVal := [I x.nodes, I x.wall]
def Alt.a (x : Alt) : AVal := .agg x.cells
def altL (l : List Alt) : AVal := listA 2 Alt.cells .zero l
theorem Alt.lo {n : Nat} {a0 a1 : Int} : LowL n [I a0, I a1] := l1 (l1 (.nil))
theorem Alt.lowc (x : Alt) (n : Nat) : LowL n x.cells := Alt.lo
instance : LowC Alt.cells := ⟨fun n x => x.lowc n⟩
theorem Alt.low (x : Alt) (n : Nat) : Low n x.a := .agg' (x.lowc n)
theorem Alt.lows (l : List Alt) (n : Nat) : Low n (altL l) := listA_low' fun x => x.lowc n

structure Shape where
  kind : Int
  alts : List Alt
  min : Int
  max : Int
  wall : Int
  deriving DecidableEq
def Shape.zero : Shape := ⟨0, [], 0, 0, 0⟩
def Shape.cells (x : Shape) : List AVal := [I x.kind, altL x.alts, I x.min, I x.max, I x.wall]
def Shape.a (x : Shape) : AVal := .agg x.cells
def shapeL (l : List Shape) : AVal := listA 5 Shape.cells .zero l
theorem Shape.lo {n : Nat} {a0 a2 a3 a4 : Int} {a1 : List Alt} : LowL n [I a0, altL a1, I a2, I a3, I a4] := l1 (lv (Alt.lows _ _) (l1 (l1 (l1 (.nil)))))
theorem Shape.lowc (x : Shape) (n : Nat) : LowL n x.cells := Shape.lo
instance : LowC Shape.cells := ⟨fun n x => x.lowc n⟩
theorem Shape.low (x : Shape) (n : Nat) : Low n x.a := .agg' (x.lowc n)
theorem Shape.lows (l : List Shape) (n : Nat) : Low n (shapeL l) := listA_low' fun x => x.lowc n
def Shape.szN (N : Nat) (x : Shape) : Prop := x.alts.length ≤ N
abbrev Shape.sz (x : Shape) : Prop := x.szN 4294967296
abbrev Shape.szM (x : Shape) : Prop := x.szN 9223372036854775807
theorem Shape.szz (N : Nat) : Shape.zero.szN N := by simp [Shape.szN, Shape.zero, ByteArray.size]

structure Dep where
  how : Int
  job : Int
  deriving DecidableEq
def Dep.zero : Dep := ⟨0, 0⟩
def Dep.cells (x : Dep) : List AVal := [I x.how, I x.job]
def Dep.a (x : Dep) : AVal := .agg x.cells
def depL (l : List Dep) : AVal := listA 2 Dep.cells .zero l
theorem Dep.lo {n : Nat} {a0 a1 : Int} : LowL n [I a0, I a1] := l1 (l1 (.nil))
theorem Dep.lowc (x : Dep) (n : Nat) : LowL n x.cells := Dep.lo
instance : LowC Dep.cells := ⟨fun n x => x.lowc n⟩
theorem Dep.low (x : Dep) (n : Nat) : Low n x.a := .agg' (x.lowc n)
theorem Dep.lows (l : List Dep) (n : Nat) : Low n (depL l) := listA_low' fun x => x.lowc n

structure Token where
  kind : Int
  text : ByteArray
  num : Int
  at_ : Int
  deriving DecidableEq
def Token.zero : Token := ⟨0, ⟨#[]⟩, 0, 0⟩
def Token.cells (x : Token) : List AVal := [I x.kind, Sg x.text, I x.num, I x.at_]
def Token.a (x : Token) : AVal := .agg x.cells
def tokenL (l : List Token) : AVal := listA 4 Token.cells .zero l
theorem Token.lo {n : Nat} {a0 a2 a3 : Int} {a1 : ByteArray} : LowL n [I a0, Sg a1, I a2, I a3] := l1 (l1 (l1 (l1 (.nil))))
theorem Token.lowc (x : Token) (n : Nat) : LowL n x.cells := Token.lo
instance : LowC Token.cells := ⟨fun n x => x.lowc n⟩
theorem Token.low (x : Token) (n : Nat) : Low n x.a := .agg' (x.lowc n)
theorem Token.lows (l : List Token) (n : Nat) : Low n (tokenL l) := listA_low' fun x => x.lowc n
def Token.szN (N : Nat) (x : Token) : Prop := x.text.size ≤ N
abbrev Token.sz (x : Token) : Prop := x.szN 4294967296
abbrev Token.szM (x : Token) : Prop := x.szN 9223372036854775807
theorem Token.szz (N : Nat) : Token.zero.szN N := by simp [Token.szN, Token.zero, ByteArray.size]

structure Cmd where
  kind : Int
  job : Int
  name : ByteArray
  user : ByteArray
  account : ByteArray
  shape : Shape
  prio : Int
  hasPrio : Bool
  time : Int
  hasTime : Bool
  after : List Dep
  node : Int
  nodes : Int
  from_ : Int
  deriving DecidableEq
def Cmd.zero : Cmd := ⟨0, 0, ⟨#[]⟩, ⟨#[]⟩, ⟨#[]⟩, Shape.zero, 0, false, 0, false, [], 0, 0, 0⟩
def Cmd.cells (x : Cmd) : List AVal := [I x.kind, I x.job, Sg x.name, Sg x.user, Sg x.account, I x.shape.kind, altL x.shape.alts, I x.shape.min, I x.shape.max, I x.shape.wall, I x.prio, Bo x.hasPrio, I x.time, Bo x.hasTime, depL x.after, I x.node, I x.nodes, I x.from_]
def Cmd.a (x : Cmd) : AVal := .agg x.cells
def cmdL (l : List Cmd) : AVal := listA 18 Cmd.cells .zero l
theorem Cmd.lo {n : Nat} {a0 a1 a5 a7 a8 a9 a10 a12 a15 a16 a17 : Int} {a2 a3 a4 : ByteArray} {a6 : List Alt} {a11 a13 : Bool} {a14 : List Dep} : LowL n [I a0, I a1, Sg a2, Sg a3, Sg a4, I a5, altL a6, I a7, I a8, I a9, I a10, Bo a11, I a12, Bo a13, depL a14, I a15, I a16, I a17] := l1 (l1 (l1 (l1 (l1 (l1 (lv (Alt.lows _ _) (l1 (l1 (l1 (l1 (l1 (l1 (l1 (lv (Dep.lows _ _) (l1 (l1 (l1 (.nil))))))))))))))))))
theorem Cmd.lowc (x : Cmd) (n : Nat) : LowL n x.cells := Cmd.lo
instance : LowC Cmd.cells := ⟨fun n x => x.lowc n⟩
theorem Cmd.low (x : Cmd) (n : Nat) : Low n x.a := .agg' (x.lowc n)
theorem Cmd.lows (l : List Cmd) (n : Nat) : Low n (cmdL l) := listA_low' fun x => x.lowc n
def Cmd.szN (N : Nat) (x : Cmd) : Prop := x.name.size ≤ N ∧ x.user.size ≤ N ∧ x.account.size ≤ N ∧ x.shape.szN N ∧ x.after.length ≤ N
abbrev Cmd.sz (x : Cmd) : Prop := x.szN 4294967296
abbrev Cmd.szM (x : Cmd) : Prop := x.szN 9223372036854775807
theorem Cmd.szz (N : Nat) : Cmd.zero.szN N := by simp [Cmd.szN, Cmd.zero, ByteArray.size, Shape.szN, Shape.zero]

structure Step where
  at_ : Int
  free : Int
  deriving DecidableEq
def Step.zero : Step := ⟨0, 0⟩
def Step.cells (x : Step) : List AVal := [I x.at_, I x.free]
def Step.a (x : Step) : AVal := .agg x.cells
def stepL (l : List Step) : AVal := listA 2 Step.cells .zero l
theorem Step.lo {n : Nat} {a0 a1 : Int} : LowL n [I a0, I a1] := l1 (l1 (.nil))
theorem Step.lowc (x : Step) (n : Nat) : LowL n x.cells := Step.lo
instance : LowC Step.cells := ⟨fun n x => x.lowc n⟩
theorem Step.low (x : Step) (n : Nat) : Low n x.a := .agg' (x.lowc n)
theorem Step.lows (l : List Step) (n : Nat) : Low n (stepL l) := listA_low' fun x => x.lowc n

structure Node where
  state : Int
  job : Int
  epoch : Int
  drain : Bool
  want : Int
  since : Int
  asked : Int
  deriving DecidableEq
def Node.zero : Node := ⟨0, 0, 0, false, 0, 0, 0⟩
def Node.cells (x : Node) : List AVal := [I x.state, I x.job, I x.epoch, Bo x.drain, I x.want, I x.since, I x.asked]
def Node.a (x : Node) : AVal := .agg x.cells
def nodeL (l : List Node) : AVal := listA 7 Node.cells .zero l
theorem Node.lo {n : Nat} {a0 a1 a2 a4 a5 a6 : Int} {a3 : Bool} : LowL n [I a0, I a1, I a2, Bo a3, I a4, I a5, I a6] := l1 (l1 (l1 (l1 (l1 (l1 (l1 (.nil)))))))
theorem Node.lowc (x : Node) (n : Nat) : LowL n x.cells := Node.lo
instance : LowC Node.cells := ⟨fun n x => x.lowc n⟩
theorem Node.low (x : Node) (n : Nat) : Low n x.a := .agg' (x.lowc n)
theorem Node.lows (l : List Node) (n : Nat) : Low n (nodeL l) := listA_low' fun x => x.lowc n

structure Job where
  id : Int
  name : ByteArray
  user : ByteArray
  account : ByteArray
  shape : Shape
  prio : Int
  after : List Dep
  state : Int
  held : Bool
  born : Int
  promise : Int
  choice : Int
  start : Int
  limit : Int
  nodes : Int
  used : Int
  deriving DecidableEq
def Job.zero : Job := ⟨0, ⟨#[]⟩, ⟨#[]⟩, ⟨#[]⟩, Shape.zero, 0, [], 0, false, 0, 0, 0, 0, 0, 0, 0⟩
def Job.cells (x : Job) : List AVal := [I x.id, Sg x.name, Sg x.user, Sg x.account, I x.shape.kind, altL x.shape.alts, I x.shape.min, I x.shape.max, I x.shape.wall, I x.prio, depL x.after, I x.state, Bo x.held, I x.born, I x.promise, I x.choice, I x.start, I x.limit, U x.nodes, I x.used]
def Job.a (x : Job) : AVal := .agg x.cells
def jobL (l : List Job) : AVal := listA 20 Job.cells .zero l
theorem Job.lo {n : Nat} {a0 a4 a6 a7 a8 a9 a11 a13 a14 a15 a16 a17 a18 a19 : Int} {a1 a2 a3 : ByteArray} {a5 : List Alt} {a10 : List Dep} {a12 : Bool} : LowL n [I a0, Sg a1, Sg a2, Sg a3, I a4, altL a5, I a6, I a7, I a8, I a9, depL a10, I a11, Bo a12, I a13, I a14, I a15, I a16, I a17, U a18, I a19] := l1 (l1 (l1 (l1 (l1 (lv (Alt.lows _ _) (l1 (l1 (l1 (l1 (lv (Dep.lows _ _) (l1 (l1 (l1 (l1 (l1 (l1 (l1 (l1 (l1 (.nil))))))))))))))))))))
theorem Job.lowc (x : Job) (n : Nat) : LowL n x.cells := Job.lo
instance : LowC Job.cells := ⟨fun n x => x.lowc n⟩
theorem Job.low (x : Job) (n : Nat) : Low n x.a := .agg' (x.lowc n)
theorem Job.lows (l : List Job) (n : Nat) : Low n (jobL l) := listA_low' fun x => x.lowc n
def Job.szN (N : Nat) (x : Job) : Prop := x.name.size ≤ N ∧ x.user.size ≤ N ∧ x.account.size ≤ N ∧ x.shape.szN N ∧ x.after.length ≤ N
abbrev Job.sz (x : Job) : Prop := x.szN 4294967296
abbrev Job.szM (x : Job) : Prop := x.szN 9223372036854775807
theorem Job.szz (N : Nat) : Job.zero.szN N := by simp [Job.szN, Job.zero, ByteArray.size, Shape.szN, Shape.zero]

structure Resize where
  job : Int
  grow : Bool
  nodes : Int
  said : Int
  since : Int
  deriving DecidableEq
def Resize.zero : Resize := ⟨0, false, 0, 0, 0⟩
def Resize.cells (x : Resize) : List AVal := [I x.job, Bo x.grow, U x.nodes, U x.said, I x.since]
def Resize.a (x : Resize) : AVal := .agg x.cells
def resizeL (l : List Resize) : AVal := listA 5 Resize.cells .zero l
theorem Resize.lo {n : Nat} {a0 a2 a3 a4 : Int} {a1 : Bool} : LowL n [I a0, Bo a1, U a2, U a3, I a4] := l1 (l1 (l1 (l1 (l1 (.nil)))))
theorem Resize.lowc (x : Resize) (n : Nat) : LowL n x.cells := Resize.lo
instance : LowC Resize.cells := ⟨fun n x => x.lowc n⟩
theorem Resize.low (x : Resize) (n : Nat) : Low n x.a := .agg' (x.lowc n)
theorem Resize.lows (l : List Resize) (n : Nat) : Low n (resizeL l) := listA_low' fun x => x.lowc n

structure Book where
  id : Int
  from_ : Int
  to : Int
  nodes : Int
  deriving DecidableEq
def Book.zero : Book := ⟨0, 0, 0, 0⟩
def Book.cells (x : Book) : List AVal := [I x.id, I x.from_, I x.to, I x.nodes]
def Book.a (x : Book) : AVal := .agg x.cells
def bookL (l : List Book) : AVal := listA 4 Book.cells .zero l
theorem Book.lo {n : Nat} {a0 a1 a2 a3 : Int} : LowL n [I a0, I a1, I a2, I a3] := l1 (l1 (l1 (l1 (.nil))))
theorem Book.lowc (x : Book) (n : Nat) : LowL n x.cells := Book.lo
instance : LowC Book.cells := ⟨fun n x => x.lowc n⟩
theorem Book.low (x : Book) (n : Nat) : Low n x.a := .agg' (x.lowc n)
theorem Book.lows (l : List Book) (n : Nat) : Low n (bookL l) := listA_low' fun x => x.lowc n

structure Usage where
  user : ByteArray
  account : ByteArray
  used : Int
  share : Int
  deriving DecidableEq
def Usage.zero : Usage := ⟨⟨#[]⟩, ⟨#[]⟩, 0, 0⟩
def Usage.cells (x : Usage) : List AVal := [Sg x.user, Sg x.account, I x.used, I x.share]
def Usage.a (x : Usage) : AVal := .agg x.cells
def usageL (l : List Usage) : AVal := listA 4 Usage.cells .zero l
theorem Usage.lo {n : Nat} {a0 a1 : ByteArray} {a2 a3 : Int} : LowL n [Sg a0, Sg a1, I a2, I a3] := l1 (l1 (l1 (l1 (.nil))))
theorem Usage.lowc (x : Usage) (n : Nat) : LowL n x.cells := Usage.lo
instance : LowC Usage.cells := ⟨fun n x => x.lowc n⟩
theorem Usage.low (x : Usage) (n : Nat) : Low n x.a := .agg' (x.lowc n)
theorem Usage.lows (l : List Usage) (n : Nat) : Low n (usageL l) := listA_low' fun x => x.lowc n
def Usage.szN (N : Nat) (x : Usage) : Prop := x.user.size ≤ N ∧ x.account.size ≤ N
abbrev Usage.sz (x : Usage) : Prop := x.szN 4294967296
abbrev Usage.szM (x : Usage) : Prop := x.szN 9223372036854775807
theorem Usage.szz (N : Nat) : Usage.zero.szN N := by simp [Usage.szN, Usage.zero, ByteArray.size]

structure State where
  now : Int
  nodes : List Node
  jobs : List Job
  resizes : List Resize
  books : List Book
  ledger : List Usage
  nextJob : Int
  nextBook : Int
  deriving DecidableEq
def State.zero : State := ⟨0, [], [], [], [], [], 0, 0⟩
def State.cells (x : State) : List AVal := [I x.now, nodeL x.nodes, jobL x.jobs, resizeL x.resizes, bookL x.books, usageL x.ledger, I x.nextJob, I x.nextBook]
def State.a (x : State) : AVal := .agg x.cells
def stateL (l : List State) : AVal := listA 8 State.cells .zero l
theorem State.lo {n : Nat} {a0 a6 a7 : Int} {a1 : List Node} {a2 : List Job} {a3 : List Resize} {a4 : List Book} {a5 : List Usage} : LowL n [I a0, nodeL a1, jobL a2, resizeL a3, bookL a4, usageL a5, I a6, I a7] := l1 (lv (Node.lows _ _) (lv (Job.lows _ _) (lv (Resize.lows _ _) (lv (Book.lows _ _) (lv (Usage.lows _ _) (l1 (l1 (.nil))))))))
theorem State.lowc (x : State) (n : Nat) : LowL n x.cells := State.lo
instance : LowC State.cells := ⟨fun n x => x.lowc n⟩
theorem State.low (x : State) (n : Nat) : Low n x.a := .agg' (x.lowc n)
theorem State.lows (l : List State) (n : Nat) : Low n (stateL l) := listA_low' fun x => x.lowc n
def State.szN (N : Nat) (x : State) : Prop := x.nodes.length ≤ N ∧ x.jobs.length ≤ N ∧ (∀ y ∈ x.jobs, y.szN N) ∧ x.resizes.length ≤ N ∧ x.books.length ≤ N ∧ x.ledger.length ≤ N ∧ (∀ y ∈ x.ledger, y.szN N)
abbrev State.sz (x : State) : Prop := x.szN 4294967296
abbrev State.szM (x : State) : Prop := x.szN 9223372036854775807
theorem State.szz (N : Nat) : State.zero.szN N := by simp [State.szN, State.zero, ByteArray.size]

structure Note where
  kind : Int
  node : Int
  job : Int
  epoch : Int
  deriving DecidableEq
def Note.zero : Note := ⟨0, 0, 0, 0⟩
def Note.cells (x : Note) : List AVal := [I x.kind, I x.node, I x.job, I x.epoch]
def Note.a (x : Note) : AVal := .agg x.cells
def noteL (l : List Note) : AVal := listA 4 Note.cells .zero l
theorem Note.lo {n : Nat} {a0 a1 a2 a3 : Int} : LowL n [I a0, I a1, I a2, I a3] := l1 (l1 (l1 (l1 (.nil))))
theorem Note.lowc (x : Note) (n : Nat) : LowL n x.cells := Note.lo
instance : LowC Note.cells := ⟨fun n x => x.lowc n⟩
theorem Note.low (x : Note) (n : Nat) : Low n x.a := .agg' (x.lowc n)
theorem Note.lows (l : List Note) (n : Nat) : Low n (noteL l) := listA_low' fun x => x.lowc n

structure Event where
  kind : Int
  line : ByteArray
  note : Note
  deriving DecidableEq
def Event.zero : Event := ⟨0, ⟨#[]⟩, Note.zero⟩
def Event.cells (x : Event) : List AVal := [I x.kind, Sg x.line, I x.note.kind, I x.note.node, I x.note.job, I x.note.epoch]
def Event.a (x : Event) : AVal := .agg x.cells
def eventL (l : List Event) : AVal := listA 6 Event.cells .zero l
theorem Event.lo {n : Nat} {a0 a2 a3 a4 a5 : Int} {a1 : ByteArray} : LowL n [I a0, Sg a1, I a2, I a3, I a4, I a5] := l1 (l1 (l1 (l1 (l1 (l1 (.nil))))))
theorem Event.lowc (x : Event) (n : Nat) : LowL n x.cells := Event.lo
instance : LowC Event.cells := ⟨fun n x => x.lowc n⟩
theorem Event.low (x : Event) (n : Nat) : Low n x.a := .agg' (x.lowc n)
theorem Event.lows (l : List Event) (n : Nat) : Low n (eventL l) := listA_low' fun x => x.lowc n
def Event.szN (N : Nat) (x : Event) : Prop := x.line.size ≤ N
abbrev Event.sz (x : Event) : Prop := x.szN 4294967296
abbrev Event.szM (x : Event) : Prop := x.szN 9223372036854775807
theorem Event.szz (N : Nat) : Event.zero.szN N := by simp [Event.szN, Event.zero, ByteArray.size]

structure Out where
  kind : Int
  text : ByteArray
  note : Note
  job : Int
  at_ : Int
  raised : Bool
  deriving DecidableEq
def Out.zero : Out := ⟨0, ⟨#[]⟩, Note.zero, 0, 0, false⟩
def Out.cells (x : Out) : List AVal := [I x.kind, Sg x.text, I x.note.kind, I x.note.node, I x.note.job, I x.note.epoch, I x.job, I x.at_, Bo x.raised]
def Out.a (x : Out) : AVal := .agg x.cells
def outL (l : List Out) : AVal := listA 9 Out.cells .zero l
theorem Out.lo {n : Nat} {a0 a2 a3 a4 a5 a6 a7 : Int} {a1 : ByteArray} {a8 : Bool} : LowL n [I a0, Sg a1, I a2, I a3, I a4, I a5, I a6, I a7, Bo a8] := l1 (l1 (l1 (l1 (l1 (l1 (l1 (l1 (l1 (.nil)))))))))
theorem Out.lowc (x : Out) (n : Nat) : LowL n x.cells := Out.lo
instance : LowC Out.cells := ⟨fun n x => x.lowc n⟩
theorem Out.low (x : Out) (n : Nat) : Low n x.a := .agg' (x.lowc n)
theorem Out.lows (l : List Out) (n : Nat) : Low n (outL l) := listA_low' fun x => x.lowc n
def Out.szN (N : Nat) (x : Out) : Prop := x.text.size ≤ N
abbrev Out.sz (x : Out) : Prop := x.szN 4294967296
abbrev Out.szM (x : Out) : Prop := x.szN 9223372036854775807
theorem Out.szz (N : Nat) : Out.zero.szN N := by simp [Out.szN, Out.zero, ByteArray.size]

structure Daemon where
  node : Int
  mode : Int
  job : Int
  epoch : Int
  up : Bool
  sulks : Bool
  ended : Int
  asked : Int
  deriving DecidableEq
def Daemon.zero : Daemon := ⟨0, 0, 0, 0, false, false, 0, 0⟩
def Daemon.cells (x : Daemon) : List AVal := [I x.node, I x.mode, I x.job, I x.epoch, Bo x.up, Bo x.sulks, I x.ended, I x.asked]
def Daemon.a (x : Daemon) : AVal := .agg x.cells
def daemonL (l : List Daemon) : AVal := listA 8 Daemon.cells .zero l
theorem Daemon.lo {n : Nat} {a0 a1 a2 a3 a6 a7 : Int} {a4 a5 : Bool} : LowL n [I a0, I a1, I a2, I a3, Bo a4, Bo a5, I a6, I a7] := l1 (l1 (l1 (l1 (l1 (l1 (l1 (l1 (.nil))))))))
theorem Daemon.lowc (x : Daemon) (n : Nat) : LowL n x.cells := Daemon.lo
instance : LowC Daemon.cells := ⟨fun n x => x.lowc n⟩
theorem Daemon.low (x : Daemon) (n : Nat) : Low n x.a := .agg' (x.lowc n)
theorem Daemon.lows (l : List Daemon) (n : Nat) : Low n (daemonL l) := listA_low' fun x => x.lowc n

structure LexReader where
  line : List Int
  at_ : Int
  bad : Int
  error : Int
  deriving DecidableEq
def LexReader.zero : LexReader := ⟨[], 0, 0, 0⟩
def LexReader.cells (x : LexReader) : List AVal := [runes x.line, I x.at_, I x.bad, I x.error]
def LexReader.a (x : LexReader) : AVal := .agg x.cells
def lexReaderL (l : List LexReader) : AVal := listA 4 LexReader.cells .zero l
theorem LexReader.lo {n : Nat} {a0 : List Int} {a1 a2 a3 : Int} : LowL n [runes a0, I a1, I a2, I a3] := lv (runes_low _ _) (l1 (l1 (l1 (.nil))))
theorem LexReader.lowc (x : LexReader) (n : Nat) : LowL n x.cells := LexReader.lo
instance : LowC LexReader.cells := ⟨fun n x => x.lowc n⟩
theorem LexReader.low (x : LexReader) (n : Nat) : Low n x.a := .agg' (x.lowc n)
theorem LexReader.lows (l : List LexReader) (n : Nat) : Low n (lexReaderL l) := listA_low' fun x => x.lowc n
def LexReader.szN (N : Nat) (x : LexReader) : Prop := x.line.length ≤ N
abbrev LexReader.sz (x : LexReader) : Prop := x.szN 4294967296
abbrev LexReader.szM (x : LexReader) : Prop := x.szN 9223372036854775807
theorem LexReader.szz (N : Nat) : LexReader.zero.szN N := by simp [LexReader.szN, LexReader.zero, ByteArray.size]

structure ImageReader where
  s : ByteArray
  at_ : Int
  bad : Bool
  deriving DecidableEq
def ImageReader.zero : ImageReader := ⟨⟨#[]⟩, 0, false⟩
def ImageReader.cells (x : ImageReader) : List AVal := [Sg x.s, I x.at_, Bo x.bad]
def ImageReader.a (x : ImageReader) : AVal := .agg x.cells
def imageReaderL (l : List ImageReader) : AVal := listA 3 ImageReader.cells .zero l
theorem ImageReader.lo {n : Nat} {a0 : ByteArray} {a1 : Int} {a2 : Bool} : LowL n [Sg a0, I a1, Bo a2] := l1 (l1 (l1 (.nil)))
theorem ImageReader.lowc (x : ImageReader) (n : Nat) : LowL n x.cells := ImageReader.lo
instance : LowC ImageReader.cells := ⟨fun n x => x.lowc n⟩
theorem ImageReader.low (x : ImageReader) (n : Nat) : Low n x.a := .agg' (x.lowc n)
theorem ImageReader.lows (l : List ImageReader) (n : Nat) : Low n (imageReaderL l) := listA_low' fun x => x.lowc n
def ImageReader.szN (N : Nat) (x : ImageReader) : Prop := x.s.size ≤ N
abbrev ImageReader.sz (x : ImageReader) : Prop := x.szN 4294967296
abbrev ImageReader.szM (x : ImageReader) : Prop := x.szN 9223372036854775807
theorem ImageReader.szz (N : Nat) : ImageReader.zero.szN N := by simp [ImageReader.szN, ImageReader.zero, ByteArray.size]

structure Ref28From where
  s : ByteArray
  at_ : Int
  deriving DecidableEq
def Ref28From.zero : Ref28From := ⟨⟨#[]⟩, 0⟩
def Ref28From.cells (x : Ref28From) : List AVal := [Sg x.s, I x.at_]
def Ref28From.a (x : Ref28From) : AVal := .agg x.cells
def ref28FromL (l : List Ref28From) : AVal := listA 2 Ref28From.cells .zero l
theorem Ref28From.lo {n : Nat} {a0 : ByteArray} {a1 : Int} : LowL n [Sg a0, I a1] := l1 (l1 (.nil))
theorem Ref28From.lowc (x : Ref28From) (n : Nat) : LowL n x.cells := Ref28From.lo
instance : LowC Ref28From.cells := ⟨fun n x => x.lowc n⟩
theorem Ref28From.low (x : Ref28From) (n : Nat) : Low n x.a := .agg' (x.lowc n)
theorem Ref28From.lows (l : List Ref28From) (n : Nat) : Low n (ref28FromL l) := listA_low' fun x => x.lowc n
def Ref28From.szN (N : Nat) (x : Ref28From) : Prop := x.s.size ≤ N
abbrev Ref28From.sz (x : Ref28From) : Prop := x.szN 4294967296
abbrev Ref28From.szM (x : Ref28From) : Prop := x.szN 9223372036854775807
theorem Ref28From.szz (N : Nat) : Ref28From.zero.szN N := by simp [Ref28From.szN, Ref28From.zero, ByteArray.size]

end Go.Proofs.YtoionleakeemlaaGreatDoor
namespace Go.Proofs.YtoionleakeemlaaGreatDoor
set_option linter.unusedSimpArgs false
set_option linter.unusedVariables false
open Go.Fw

/-- The texts that strconv.Atoi is asked for: one to nine digits. -/
def atoiOK (s : ByteArray) : Prop := 1 ≤ s.size ∧ s.size ≤ 9 ∧ ∀ i, i < s.size → 48 ≤ (s.data.toList.getD i 0).toNat ∧ (s.data.toList.getD i 0).toNat ≤ 57

theorem atoi_minus {s : ByteArray} (h : atoiOK s) (c : (((s.data.toList.getD 0 0).toNat : Int) == 45) = true) : False := by
  have := h.2.2 0 h.1
  have e := eq_of_beq c
  omega

theorem atoi_sign {s : ByteArray} (h : atoiOK s) (c : ((((s.data.toList.getD 0 0).toNat : Int) == 45) || (((s.data.toList.getD 0 0).toNat : Int) == 43)) = true) : False := by
  have := h.2.2 0 h.1
  rcases (Bool.or_eq_true _ _).mp c with c | c <;> have e := eq_of_beq c <;> omega

theorem bytesOf_getD (s : ByteArray) (i : Nat) : (bytesOf s).getD i 0 = ((s.data.toList.getD i 0).toNat : Int) := by
  unfold bytesOf
  simp only [List.getD, List.getElem?_map]
  cases s.data.toList[i]? <;> rfl

theorem atoi_digit {s : ByteArray} (h : atoiOK s) {i : Nat} (hi : i < s.size) (c : decide (wu8 (((bytesOf s).getD i 0) - 48) > 9) = true) : False := by
  have h1 := h.2.2 i hi
  have c := of_decide_eq_true c
  rw [bytesOf_getD] at c
  rw [show wu8 (((s.data.toList.getD i 0).toNat : Int) - 48) = ((s.data.toList.getD i 0).toNat : Int) - 48 by rw [wu8, IntKind.wrap_u8]; omega] at c
  omega

theorem getD_byte (s : ByteArray) {i : Nat} (h : i < s.size) : s.data.toList.getD i 0 = s[i]'h := by
  have h' : i < s.data.toList.length := by simpa using h
  simp [List.getD, List.getElem?_eq_getElem h']
  rfl

theorem decode_end (s : ByteArray) (i : Nat) (h : i < s.size) : i + (Utf8.decode s i).2 ≤ s.size := by
  unfold Utf8.decode
  dsimp only
  split
  · simp; omega
  · split
    · rename_i hc
      simp only [Bool.and_eq_true, decide_eq_true_eq] at hc
      split <;> simp <;> omega
    · split
      · rename_i hc
        simp only [Bool.and_eq_true, decide_eq_true_eq] at hc
        split <;> simp <;> omega
      · split
        · rename_i hc
          simp only [Bool.and_eq_true, decide_eq_true_eq] at hc
          split <;> simp <;> omega
        · simp; omega

theorem ref09_half {s1 : Int} {n : Nat} (h : (n : Int) = 0 ∨ (0 ≤ s1 ∧ s1 < 2 ^ (65 - (Int.toNat (n : Int))))) (hn : (n : Int) ≤ 65) (h0 : s1 > 0) : n < 65 ∧ 0 ≤ wu64 (Int.tdiv s1 2) ∧ wu64 (Int.tdiv s1 2) < 2 ^ (65 - (n + 1)) ∧ (wu64 (Int.tdiv s1 2)).toNat < s1.toNat := by
  have e : Int.tdiv s1 2 = s1 / 2 := Int.tdiv_eq_ediv_of_nonneg (by omega)
  have hw : wu64 (s1 / 2) = (s1 / 2) % 18446744073709551616 := by simp [IntKind.wrap, IntKind.bits, IntKind.signed]
  rw [e, hw]
  have h1 : (s1 / 2) % 18446744073709551616 ≤ s1 / 2 := by omega
  rcases h with h | ⟨_, h⟩
  · have : n = 0 := by omega
    subst this
    exact ⟨by omega, by omega, by show _ < (2 : Int) ^ 64; have : (2 : Int) ^ 64 = 18446744073709551616 := by decide
                                  omega, by omega⟩
  · simp only [Int.toNat_natCast] at h
    have hn65 : n < 65 := by
      rcases Nat.lt_or_ge n 65 with h2 | h2
      · exact h2
      · rw [show 65 - n = 0 by omega] at h
        simp at h
        omega
    refine ⟨hn65, by omega, ?_, by omega⟩
    rw [show 65 - n = (65 - (n + 1)) + 1 by omega, Int.pow_succ] at h
    omega

theorem extract_size (s : ByteArray) (a b : Nat) : (s.extract a b).size ≤ s.size := by
  rw [ByteArray.size_extract]
  omega

/-- Where all runes are digits, all bytes are. -/
theorem digits_bytes (s : ByteArray) : ∀ (m pos : Nat), s.size - pos ≤ m → (∀ x ∈ strRunes s m pos, 48 ≤ x.2 ∧ x.2 ≤ 57) → ∀ i, pos ≤ i → i < s.size → 48 ≤ (s.data.toList.getD i 0).toNat ∧ (s.data.toList.getD i 0).toNat ≤ 57 := by
  intro m
  induction m with
  | zero => intro pos hm _ i h1 h2; omega
  | succ m ih =>
    intro pos hm hx i h1 h2
    have hp : pos < s.size := by omega
    rw [strRunes_cons (decide_eq_true hp)] at hx
    have h0 := hx _ List.mem_cons_self
    have ha : (s[pos]'hp).toNat < 128 := by
      rcases Nat.lt_or_ge (s[pos]'hp).toNat 128 with h | h
      · exact h
      · have := (decode_high s pos hp h).1
        simp only at h0
        omega
    have hd := decode_ascii s pos hp ha
    rw [hd] at h0 hx
    by_cases hi : i = pos
    · subst hi
      rw [getD_byte s hp]
      simp only at h0
      omega
    · exact ih (pos + 1) (by omega) (fun x hm => hx x (List.mem_cons_of_mem _ hm)) i (by omega) h2

/-- A call of plain values that leaves the world alone. -/
theorem gives_of_calls {P : Program} {f : FuncId} {vs : List Value} {v : Value} (h : ∀ w, Calls P f vs.toArray w fun e w' => e = .returned v ∧ w' = w) (objs : Objs) : AGives P f (vs.map .lit) objs (.lit v) := by
  intro K w us hm hr
  have e : us = vs := by
    have h1 := hr.1
    refine List.ext_getElem? fun i => ?_
    rcases Nat.lt_or_ge i vs.length with hi | hi
    · have hu : i < us.length := by rw [h1]; simpa using hi
      have := hr.2 i (.lit vs[i]) us[i] (by simp [List.getElem?_eq_getElem hi]) (List.getElem?_eq_getElem hu)
      rw [List.getElem?_eq_getElem hi, List.getElem?_eq_getElem hu]
      rw [rep_lit this]
    · rw [List.getElem?_eq_none hi, List.getElem?_eq_none (by rw [h1]; simpa using hi)]
  subst e
  refine (h w).mono ?_
  rintro e w' ⟨rfl, rfl⟩
  exact ⟨v, .lit v, objs, K, rfl, .refl K, hm, .lit v, rfl, rfl⟩

set_option maxHeartbeats 1000000 in
set_option maxRecDepth 100000 in
theorem indexByte1 (s : ByteArray) (c : Int) (w : World) :
    Calls Tryz.prog 227 #[.string s, .int .u8 c] w fun e w' => e = .returned (.int .i64 (Lib.indexByte s.data.toList c.toNat.toUInt8)) ∧ w' = w := by
  go_enter Tryz.func227, Tryz.ntmps227
  go_wp2
  rw [run_callFunc_extern Tryz.func232 (by kernel_rfl) (by kernel_rfl) (by kernel_rfl) (e := Extern.BytealgIndexByte.indexByte) (by kernel_rfl), Lib.run_indexByteString]
  simp only [Result.andThen]
  rw [Oper.upon_value]
  go_wp2
  go_ret
  exact ⟨rfl, rfl⟩

def strings_IndexByte (s : ByteArray) (c : Int) : Int := Lib.indexByte s.data.toList c.toNat.toUInt8

set_option maxHeartbeats 1000000 in
theorem indexByte2 (s : ByteArray) (c : Int) (w : World) :
    Calls Tryz.prog 212 #[.string s, .int .u8 c] w fun e w' => e = .returned (.int .i64 (strings_IndexByte s c)) ∧ w' = w := by
  go_enter Tryz.func212, Tryz.ntmps212
  go_wp2_with (go_at_call 227; refine (indexByte1 _ _ _).mono ?_; rintro e w' ⟨rfl, rfl⟩)
  go_ret
  exact ⟨rfl, rfl⟩

theorem strings_IndexByte_c (s : ByteArray) (c : Int) : ∀ objs, AGives Tryz.prog 212 [Sg s, Y c] objs (I (strings_IndexByte s c)) :=
  gives_of_calls (vs := [.string s, .int .u8 c]) fun w => indexByte2 s c w
end Go.Proofs.YtoionleakeemlaaGreatDoor
namespace Go.Proofs.YtoionleakeemlaaGreatDoor
set_option linter.unusedSimpArgs false
set_option linter.unusedVariables false
open Go Go.RowKit Go.Proofs

theorem bldPtr : Tryz.prog.underlying 220 = some (.pointer 222) := by kernel_rfl
theorem bldUnsafe : Tryz.prog.underlying 238 = some .unsafePointer := by kernel_rfl
theorem bldInfo : (Tryz.prog.info? 222).map (·.size) = some 2 := by kernel_rfl
theorem bldCells : Tryz.prog.cellsOf 222 = 2 := by kernel_rfl

set_option maxHeartbeats 1000000 in
set_option maxRecDepth 100000 in
theorem copyCheck_used (b : Nat) (w : World) (h0 : w.cell? ⟨b, 0, none⟩ = some (.pointer (some ⟨b, 0, none⟩))) :
    Calls Tryz.prog 229 #[.pointer (some ⟨b, 0, none⟩)] w fun e w' => e = .returned (.tuple #[]) ∧ w' = w := by
  obtain ⟨j, hj, _⟩ := Option.map_eq_some_iff.1 bldInfo
  go_enter Tryz.func229, Tryz.ntmps229
  go_wp2
  rw [Lib.run_neq_ptr_same w _ bldPtr hj]
  go_wp2
  go_end0
  exact ⟨rfl, rfl⟩

set_option maxHeartbeats 1000000 in
set_option maxRecDepth 100000 in
theorem copyCheck_fresh (te : TypeId) (m b : Nat) (w : World) (h0 : w.cell? ⟨b, 0, none⟩ = some (.pointer none)) (hsh : w.shape? b = some (te, m)) (hm : 0 < m) (hlies : liesAt Tryz.prog Tryz.prog.depth te (m / Tryz.prog.cellsOf te) 0 222 1 = true) (hfz : w.frozen? ⟨b, 0, none⟩ = false) :
    Calls Tryz.prog 229 #[.pointer (some ⟨b, 0, none⟩)] w fun e w' => e = .returned (.tuple #[]) ∧ w' = w.setCell ⟨b, 0, none⟩ (.pointer (some ⟨b, 0, none⟩)) := by
  obtain ⟨j, hj, hjs⟩ := Option.map_eq_some_iff.1 bldInfo
  go_enter Tryz.func229, Tryz.ntmps229
  go_wp2
  rw [Lib.run_to_unsafe w ⟨b, 0, none⟩ bldPtr bldUnsafe hj (by rw [hjs]; decide) hsh hm]
  simp only [Result.andThen]
  rw [Oper.upon_value]
  go_wp2
  rw [run_callFunc_extern Tryz.func237 (by kernel_rfl) (by kernel_rfl) (by kernel_rfl) (e := Extern.AbiNoEscape.same) (by kernel_rfl)]
  rw [Lib.run_noEscape]
  simp only [Result.andThen]
  rw [Oper.upon_value]
  go_wp2
  rw [Lib.run_from_unsafe w ⟨b, 0, none⟩ bldUnsafe bldPtr hj hsh hlies]
  simp only [Result.andThen]
  rw [Oper.upon_value]
  go_wp2
  go_end0
  exact ⟨rfl, rfl⟩

theorem bldBytePtr : Tryz.prog.underlying 232 = some (.pointer 5) := by kernel_rfl
theorem bldByte1 : Tryz.prog.cellsOf 5 = 1 := by kernel_rfl

set_option maxHeartbeats 2000000 in
set_option maxRecDepth 100000 in
theorem builderString_nil (b : Nat) (w : World) (c0 : w.cell? ⟨b, 1, none⟩ = some (.slice none 0 0)) :
    Calls Tryz.prog 217 #[.pointer (some ⟨b, 0, none⟩)] w fun e w' => e = .returned (.string ⟨#[]⟩) ∧ w' = w.drew := by
  have hUS := fun (W : World) (q : Option Addr) => Lib.run_unsafeString_none (P := Tryz.prog) (w := W) 232 3 9 q
  have c1 : w.drew.cell? ⟨b, 1, none⟩ = some (.slice none 0 0) := c0
  have hSD : (Builtin.unsafeSliceData_ #[217] 232 #[.slice none 0 0]).run Tryz.prog w.drew = .ok (.pointer none) w.drew := rfl
  have mixed : Tryz.prog.follows .mixedOrders = true := by kernel_rfl
  go_enter Tryz.func217, Tryz.ntmps217
  go_wp2
  go_region_o
  all_goals (go_wp2; go_ret; exact ⟨rfl, rfl⟩)

set_option maxHeartbeats 2000000 in
set_option maxRecDepth 100000 in
theorem builderString_room (b cap : Nat) (a : Addr) (w : World) (hc0 : cap ≠ 0) (c0 : w.cell? ⟨b, 1, none⟩ = some (.slice (some a) 0 cap)) :
    Calls Tryz.prog 217 #[.pointer (some ⟨b, 0, none⟩)] w fun e w' => e = .returned (.string ⟨#[]⟩) ∧ w' = w.drew := by
  have hUS := fun (W : World) (q : Option Addr) => Lib.run_unsafeString_none (P := Tryz.prog) (w := W) 232 3 9 q
  have c1 : w.drew.cell? ⟨b, 1, none⟩ = some (.slice (some a) 0 cap) := c0
  have hSD : (Builtin.unsafeSliceData_ #[217] 232 #[.slice (some a) 0 cap]).run Tryz.prog w.drew = .ok (.pointer (some a)) w.drew := Lib.run_unsafeSliceData_row _ _ _ _ _ _ hc0
  clear hc0
  have mixed : Tryz.prog.follows .mixedOrders = true := by kernel_rfl
  go_enter Tryz.func217, Tryz.ntmps217
  go_wp2
  go_region_o
  all_goals (go_wp2; go_ret; exact ⟨rfl, rfl⟩)

set_option maxHeartbeats 2000000 in
set_option maxRecDepth 100000 in
theorem builderString_some (b g cap : Nat) (cur : Array Value) (fr : Nat × Nat) (l : List UInt8) (w : World) (h0 : l ≠ []) (c0 : w.cell? ⟨b, 1, none⟩ = some (.slice (some ⟨g, 0, none⟩) l.length cap))
    (hg : w.heap[g]? = some (.cells cur 5 fr)) (hcap : l.length ≤ cap) (hcur : l.length ≤ cur.size) (h63 : l.length ≤ 9223372036854775807) (hcell : ∀ (j : Nat) (x : UInt8), l[j]? = some x → cur[j]? = some (Value.int .u8 x.toNat)) :
    Calls Tryz.prog 217 #[.pointer (some ⟨b, 0, none⟩)] w fun e w' => e = .returned (.string ⟨l.toArray⟩) ∧ w' = w.drew.freeze ⟨g, 0, none⟩ l.length := by
  have hl0 : l.length ≠ 0 := by simpa using h0
  have c1 : w.drew.cell? ⟨b, 1, none⟩ = some (.slice (some ⟨g, 0, none⟩) l.length cap) := c0
  have hg' : w.drew.heap[g]? = some (.cells cur 5 fr) := hg
  have hSD : (Builtin.unsafeSliceData_ #[217] 232 #[.slice (some ⟨g, 0, none⟩) l.length cap]).run Tryz.prog w.drew = .ok (.pointer (some ⟨g, 0, none⟩)) w.drew :=
    Lib.run_unsafeSliceData_row _ _ _ _ _ _ (by omega)
  have hUS : (Builtin.unsafeString_ #[232, 3] 9 #[.pointer (some ⟨g, 0, none⟩), .int .i64 l.length]).run Tryz.prog w.drew = .ok (.string ⟨l.toArray⟩) (w.drew.freeze ⟨g, 0, none⟩ l.length) := by
    refine Lib.run_unsafeString_row (P := Tryz.prog) (w := w.drew) 232 3 9 5 bldBytePtr bldByte1 g cur.size (by simp [World.shape?, hg']) l h0 hcur h63 ?_
    intro j x hx
    have e : ((⟨g, 0, none⟩ : Addr).add j) = ⟨g, j, none⟩ := by
      simp [Addr.add]
      exact fun h => h.symm
    rw [e, Lib.cell_of_heap hg']
    exact hcell j x hx
  have mixed : Tryz.prog.follows .mixedOrders = true := by kernel_rfl
  go_enter Tryz.func217, Tryz.ntmps217
  go_wp2
  go_region_o
  all_goals (go_wp2; go_ret; exact ⟨rfl, rfl⟩)

end Go.Proofs.YtoionleakeemlaaGreatDoor
namespace Go.Proofs.YtoionleakeemlaaGreatDoor
set_option linter.unusedSimpArgs false
set_option linter.unusedVariables false
open Go.Fw

theorem liesAt_self {P : Program} {e : TypeId} {k : Nat} (hc : P.cellsOf e = k + 1) (count : Nat) (hn : 1 ≤ count) : liesAt P P.depth e count 0 e 1 = true := by
  have hd : P.depth = (2 * (P.types.size + Made.depth) + 1) + 1 := rfl
  rw [hd]
  simp only [liesAt, Bool.or_eq_true]
  left
  rw [hd]
  simp [rowAt, hc, hn, sameLayout]

theorem row1_facts {K : Ctx} {objs : Objs} {w : World} {o ver k : Nat} {te : TypeId} {xs : List AVal} (hm : MemSat K objs w) (hp : objs[o]? = some (ver, .row te k [xs])) :
    K.C o ver ≠ 0 ∧ ∃ (c : Array Value) (fr : Nat × Nat), w.heap[K.ρ o ver]? = some (.cells c te fr) ∧ frFree fr c.size ∧ c.size = K.C o ver * k ∧ (∀ u ∈ c.toList, u.oneCell' = true) ∧ ∀ (j : Nat) (x : AVal), xs[j]? = some x → ∃ u : Value, c[j]? = some u ∧ Rep K x u := by
  obtain ⟨h1, h2, h3⟩ := hm.obj o _ hp
  have hC : K.C o ver ≠ 0 := by simp at h2; omega
  obtain ⟨c, ⟨fr, hfr, hb⟩, hs, h1', hr⟩ := h3 hC
  refine ⟨hC, c, fr, hb, hfr, hs, h1', fun j x hx => ?_⟩
  obtain ⟨u, hu, hru⟩ := hr 0 j xs x rfl hx
  exact ⟨u, by simpa using hu, hru⟩

theorem setCell_row {w : World} {b off : Nat} {c : Array Value} {te : TypeId} {fr : Nat × Nat} (hb : w.heap[b]? = some (.cells c te fr)) (v : Value) : w.setCell ⟨b, off, none⟩ v = w.setRow b (c.setIfInBounds off v) := by
  unfold World.setCell World.setRow
  congr 1
  apply Array.ext_getElem?
  intro i
  simp only [Array.getElem?_modify]
  by_cases hi : b = i
  · subst hi
    simp [hb]
  · simp [hi]

theorem frozen_row {w : World} {b off : Nat} {c : Array Value} {te : TypeId} {fr : Nat × Nat} (hb : w.heap[b]? = some (.cells c te fr)) (hfr : frFree fr c.size) (ho : off < c.size) : w.frozen? ⟨b, off, none⟩ = false := by
  have := hfr off ho
  simp only [World.frozen?, hb]
  simp
  omega

/-- copyCheck on a builder that was never written: its address is laid. -/
theorem copyCheck_fresh_m {x : AVal} {rest : Objs} {n0 : Nat} (hn : n0 ≤ rest.length + 1) : AMoves Tryz.prog 229 [.ptr 0 0 2 0 0] ((0, .row 222 2 [[.lit (.pointer none), x]]) :: rest) n0 (.tup []) ((0, .row 222 2 [[.ptr 0 0 2 0 0, x]]) :: rest) := by
  intro K w vs hm hr
  have hp : (((0, .row 222 2 [[.lit (.pointer none), x]]) :: rest : Objs))[0]? = some (0, .row 222 2 [[.lit (.pointer none), x]]) := rfl
  obtain ⟨hC, c, fr, hb, hfr, hs, h1, hx⟩ := row1_facts hm hp
  have hvs : vs = [.pointer (some ⟨K.ρ 0 0, 0, none⟩)] := by
    obtain ⟨v, rfl⟩ : ∃ v, vs = [v] := List.length_eq_one_iff.1 hr.1
    obtain ⟨e, _, _⟩ := rep_ptr (hr.2 0 _ _ rfl rfl)
    rw [e]
  subst hvs
  have hsz : 2 ≤ c.size := by rw [hs]; omega
  obtain ⟨u0, hu0, hr0⟩ := hx 0 _ rfl
  obtain ⟨u1, hu1, hr1⟩ := hx 1 _ rfl
  have e0 := rep_lit hr0
  subst e0
  have hc0 : w.cell? ⟨K.ρ 0 0, 0, none⟩ = some (.pointer none) := by rw [Lib.cell_of_heap hb]; exact hu0
  refine (copyCheck_fresh 222 c.size (K.ρ 0 0) w hc0 (by simp [World.shape?, hb]) (by omega) ?_ (frozen_row hb hfr (by omega))).mono ?_
  · rw [bldCells, hs]
    exact liesAt_self bldCells _ (by rw [Nat.mul_div_cancel _ (by decide)]; omega)
  · rintro e w' ⟨rfl, rfl⟩
    refine ⟨_, K, rfl, cut_le (by rw [← hm.len]; exact hn), ?_, .tup _ [] rfl (fun i x v h => by simp at h)⟩
    rw [setCell_row hb]
    have hm' := hm.setRow hp hC c (c.setIfInBounds 0 (.pointer (some ⟨K.ρ 0 0, 0, none⟩))) ⟨fr, hfr, hb⟩ (by simp) (fun u hu => ?_) [[.ptr 0 0 2 0 0, x]] (by simp; omega) (by simp) (fun i j e y he hy => ?_)
    · exact hm'
    · rw [Array.toList_setIfInBounds] at hu
      rcases List.mem_or_eq_of_mem_set hu with hu | rfl
      · exact h1 u hu
      · rfl
    · have hi : i = 0 := by have := (List.getElem?_eq_some_iff.1 he).1; simp at this; omega
      subst hi
      simp at he
      subst he
      rcases j with _ | _ | j
      · simp at hy
        subst hy
        refine ⟨.pointer (some ⟨K.ρ 0 0, 0, none⟩), by rw [show 0 * 2 + 0 = 0 from rfl, Array.getElem?_setIfInBounds, if_pos rfl, if_pos (by omega)], ?_⟩
        have := Rep.ptr (K := K) 0 0 2 0 0 (by rw [← hm.len]; exact Nat.succ_pos _) (Nat.zero_le _)
        simpa using this
      · simp at hy
        subst hy
        refine ⟨u1, ?_, hr1⟩
        rw [Array.getElem?_setIfInBounds_ne (by omega)]
        simpa using hu1
      · simp at hy

/-- copyCheck on a builder that was written: nothing turns. -/
theorem copyCheck_used_m {x : AVal} {rest : Objs} {n0 : Nat} (hn : n0 ≤ rest.length + 1) : AMoves Tryz.prog 229 [.ptr 0 0 2 0 0] ((0, .row 222 2 [[.ptr 0 0 2 0 0, x]]) :: rest) n0 (.tup []) ((0, .row 222 2 [[.ptr 0 0 2 0 0, x]]) :: rest) := by
  intro K w vs hm hr
  have hp : (((0, .row 222 2 [[.ptr 0 0 2 0 0, x]]) :: rest : Objs))[0]? = some (0, .row 222 2 [[.ptr 0 0 2 0 0, x]]) := rfl
  obtain ⟨hC, c, fr, hb, hfr, hs, h1, hx⟩ := row1_facts hm hp
  have hvs : vs = [.pointer (some ⟨K.ρ 0 0, 0, none⟩)] := by
    obtain ⟨v, rfl⟩ : ∃ v, vs = [v] := List.length_eq_one_iff.1 hr.1
    obtain ⟨e, _, _⟩ := rep_ptr (hr.2 0 _ _ rfl rfl)
    rw [e]
  subst hvs
  obtain ⟨u0, hu0, hr0⟩ := hx 0 _ rfl
  obtain ⟨e0, _, _⟩ := rep_ptr hr0
  subst e0
  have hc0 : w.cell? ⟨K.ρ 0 0, 0, none⟩ = some (.pointer (some ⟨K.ρ 0 0, 0, none⟩)) := by rw [Lib.cell_of_heap hb]; simpa using hu0
  refine (copyCheck_used (K.ρ 0 0) w hc0).mono ?_
  rintro e w' ⟨rfl, rfl⟩
  exact ⟨_, K, rfl, cut_le (by rw [← hm.len]; exact hn), hm, .tup _ [] rfl (fun i x v h => by simp at h)⟩

theorem setRow_same {w : World} {b : Nat} {c : Array Value} {te : TypeId} {fr : Nat × Nat} (hb : w.heap[b]? = some (.cells c te fr)) : w.setRow b c = w := by
  have e : w.setRow b c = { w with heap := w.heap } := by
    unfold World.setRow
    congr 1
    apply Array.ext_getElem?
    intro i
    rw [Array.getElem?_modify]
    by_cases hi : b = i
    · subst hi
      rw [if_pos rfl, hb]; rfl
    · rw [if_neg hi]
  exact e

theorem row2_retell {K : Ctx} {w : World} {rest : Objs} {te : TypeId} {a a' x : AVal} (hm : MemSat K ((0, .row te 2 [[a, x]]) :: rest) w) (h : ∀ u, Rep K a u → Rep K a' u) : MemSat K ((0, .row te 2 [[a', x]]) :: rest) w := by
  have hp : ((0, .row te 2 [[a, x]]) :: rest : Objs)[0]? = some (0, .row te 2 [[a, x]]) := rfl
  obtain ⟨hC, c, fr, hb, hfr, hs, h1, hx⟩ := row1_facts hm hp
  have hm' := hm.setRow hp hC c c ⟨fr, hfr, hb⟩ rfl h1 [[a', x]] (by simp; omega) (by simp) (fun i j e y he hy => ?_)
  · rw [setRow_same hb] at hm'
    exact hm'
  · have hi : i = 0 := by have := (List.getElem?_eq_some_iff.1 he).1; simp at this; omega
    subst hi
    simp at he
    subst he
    rcases j with _ | _ | j
    · simp at hy
      subst hy
      obtain ⟨u0, hu0, hr0⟩ := hx 0 _ rfl
      exact ⟨u0, by simpa using hu0, h u0 hr0⟩
    · simp at hy
      subst hy
      obtain ⟨u1, hu1, hr1⟩ := hx 1 _ rfl
      exact ⟨u1, by simpa using hu1, hr1⟩
    · simp at hy

/-- copyCheck on a builder, written or not. -/
theorem copyCheck_m {x : AVal} {rest : Objs} {n0 : Nat} (hn : n0 ≤ rest.length + 1) : AMoves Tryz.prog 229 [.ptr 0 0 2 0 0] ((0, .row 222 2 [[.sel 0 0 2 0 0, x]]) :: rest) n0 (.tup []) ((0, .row 222 2 [[.ptr 0 0 2 0 0, x]]) :: rest) := by
  intro K w vs hm hr
  obtain ⟨hC, c, fr, hb, hfr, hs, h1, hx⟩ := row1_facts hm (o := 0) (ver := 0) (k := 2) (te := 222) (xs := [.sel 0 0 2 0 0, x]) rfl
  obtain ⟨u0, hu0, hr0⟩ := hx 0 _ rfl
  have one : ∀ {a : AVal}, Rep K a u0 → ∀ u, c[0]? = some u → Rep K a u := fun h u hu => by rw [hu0] at hu; cases hu; exact h
  have tell : ∀ {a : AVal}, Rep K a u0 → MemSat K ((0, .row 222 2 [[a, x]]) :: rest) w := by
    intro a ha
    have hp : ((0, .row 222 2 [[.sel 0 0 2 0 0, x]]) :: rest : Objs)[0]? = some (0, .row 222 2 [[.sel 0 0 2 0 0, x]]) := rfl
    have hm' := hm.setRow hp hC c c ⟨fr, hfr, hb⟩ rfl h1 [[a, x]] (by simp; omega) (by simp) (fun i j e y he hy => ?_)
    · rw [setRow_same hb] at hm'
      exact hm'
    · have hi : i = 0 := by have := (List.getElem?_eq_some_iff.1 he).1; simp at this; omega
      subst hi
      simp at he
      subst he
      rcases j with _ | _ | j
      · simp at hy
        subst hy
        exact ⟨u0, by simpa using hu0, ha⟩
      · simp at hy
        subst hy
        obtain ⟨u1, hu1, hr1⟩ := hx 1 _ rfl
        exact ⟨u1, by simpa using hu1, hr1⟩
      · simp at hy
  cases hr0 with
  | selNil => exact copyCheck_fresh_m hn K w vs (tell (.lit _)) hr
  | selPtr _ _ _ _ _ ho hv => exact copyCheck_used_m hn K w vs (tell (.ptr _ _ _ _ _ ho hv)) hr

abbrev bytesRow (l : List Int) : AObj := .row 5 1 (l.map fun q => [Y q])

set_option maxRecDepth 20000
set_option maxHeartbeats 4000000
attribute [local irreducible] ACalls AMoves

theorem WriteByte_c (l : List Int) (c : Int) (hl : l.length ≤ 4294967296) : AMoves Tryz.prog 215 [.ptr 0 0 2 0 0, Y c] [(0, .row 222 2 [[.sel 0 0 2 0 0, .own 1 0 1 0 l.length]]), (0, bytesRow l)] 1 (.lit .nilIface) [(0, .row 222 2 [[.ptr 0 0 2 0 0, .own 1 0 1 0 (l ++ [c]).length]]), (0, bytesRow (l ++ [c]))] := by
  refine AMoves.of_cwp (fun _ => true) Tryz.func215 rfl rfl rfl ?_
  conv => whnf
  refine ACalls.use (AMoves.on [0, 1] (copyCheck_m (x := .own 1 0 1 0 l.length) (rest := [(0, bytesRow l)]) (n0 := 2) (by simp)) (by decide) rfl rfl rfl (.cons _ _ _ _ (.row1 _ _ _ _ (.cons _ _ _ _ (dn_sel rfl) (.cons _ _ _ _ (dn_own rfl) .nil))) (.cons _ _ _ _ (.same _ (low_map fun _ => lowL1 rfl)) .nil)) rfl (.cons _ _ _ _ (dn_ptr rfl) .nil) (.cons _ _ _ _ (RenO.row1 _ _ _ _ (.cons _ _ _ _ (Ren.ptr _ _ _ _ _ _ rfl) (.cons _ _ _ _ (Ren.own _ _ _ _ _ _ rfl) .nil))) (.cons _ _ _ _ (RenO.same _ (low_map fun _ => lowL1 rfl)) .nil)) (Ren.low _ (.tup _ (fun x h => nomatch h)))) ?_
  conv => whnf
  refine Or.inl ?_
  conv => whnf
  refine ⟨app_ok 1 rfl (by simp) (by simp; omega), ?_⟩
  conv => whnf
  refine ret_moves (fun _ : Unit => .lit .nilIface) (fun _ : Unit => [(0, .row 222 2 [[.ptr 0 0 2 0 0, .own 1 0 1 0 (l ++ [c]).length]]), (0, bytesRow (l ++ [c]))]) (leaf := ()) rfl ?_
  exact told_turnI [0, 1] rfl (by decide) (.cons 0 _ _ _ _ rfl (turn_row1 (.cons _ _ _ _ (turn_ptr 0 rfl rfl) (.cons _ _ _ _ (turn_own 1 rfl rfl (by simp)) .nil))) (.cons 1 _ _ _ _ rfl (turn_same (by rw [List.map_append]; rfl) (low_map fun _ => lowL1 rfl)) .nil)) (turn_low (low2_sound rfl))
end Go.Proofs.YtoionleakeemlaaGreatDoor
namespace Go.Proofs.YtoionleakeemlaaGreatDoor
set_option linter.unusedSimpArgs false
set_option linter.unusedVariables false
open Go.Fw

theorem freeze_setB {w : World} {g n : Nat} {c : Array Value} {t : TypeId} {fr : Nat × Nat} (hg : w.heap[g]? = some (.cells c t fr)) : ∃ fr', w.freeze ⟨g, 0, none⟩ n = setB w g (.cells c t fr') := by
  unfold World.freeze
  by_cases hn : n = 0
  · rw [if_pos hn]
    refine ⟨fr, ?_⟩
    have e : w.heap = w.heap.setIfInBounds g (.cells c t fr) := by
      apply Array.ext_getElem?
      intro i
      rw [Array.getElem?_setIfInBounds]
      by_cases hi : g = i
      · subst hi
        have := (Array.getElem?_eq_some_iff.1 hg).1
        rw [if_pos rfl, if_pos this, hg]
      · rw [if_neg hi]
    unfold setB
    rw [← e]
  · rw [if_neg hn]
    obtain ⟨lo, hi⟩ := fr
    refine ⟨if lo == hi then (0, 0 + n) else (min lo 0, max hi (0 + n)), ?_⟩
    unfold setB
    congr 1
    apply Array.ext_getElem?
    intro i
    rw [Array.getElem?_setIfInBounds, Array.getElem?_modify]
    by_cases hi : g = i
    · subst hi
      have := (Array.getElem?_eq_some_iff.1 hg).1
      rw [if_pos rfl, if_pos rfl, if_pos this, hg]
      rfl
    · rw [if_neg hi, if_neg hi]

section
variable {K : Ctx} {objs : Objs} {w : World}

/-- An object that is given up; its block turns. -/
theorem MemSat.kill (h : MemSat K objs w) {o ver : Nat} {p : AObj} (hp : objs[o]? = some (ver, p)) (hlive : p.live = true) (hC : K.C o ver ≠ 0) (b : Obj) : MemSat K (objs.set o (ver, .dead)) (setB w (K.ρ o ver) b) := by
  have hlo := h.lo o _ hp hlive hC
  have holt : o < objs.length := (List.getElem?_eq_some_iff.1 hp).1
  have get : ∀ o' q, (objs.set o (ver, .dead))[o']? = some q → (o' = o ∧ q = (ver, .dead)) ∨ (o' ≠ o ∧ objs[o']? = some q) := by
    intro o' q hq
    by_cases ho : o' = o
    · subst ho
      rw [List.getElem?_set_self holt] at hq
      exact Or.inl ⟨rfl, (Option.some.inj hq).symm⟩
    · rw [List.getElem?_set_ne (Ne.symm ho)] at hq
      exact Or.inr ⟨ho, hq⟩
  refine ⟨by rw [List.length_set]; exact h.len, fun o' q hq => ?_, fun o' q hq => ?_, fun o' q hq hl' hC' => ?_, fun o1 o2 q1 q2 h1 h2 l1 l2 c1 c2 hne => ?_, fun b' i u hu => ?_, ?_⟩
  · rcases get o' q hq with ⟨rfl, rfl⟩ | ⟨_, hq⟩
    · exact h.ver o' (ver, p) hp
    · exact h.ver o' _ hq
  · rcases get o' q hq with ⟨rfl, rfl⟩ | ⟨ho, hq⟩
    · trivial
    · refine (h.obj o' q hq).mono (Ctx.le.refl K) (h.olt hq) (by rw [h.ver o' q hq]; exact Nat.le_refl _) (fun hl' hC' => setB_ne ?_)
      exact h.dis o' o q _ hq hp hl' hlive hC' hC ho
  · rcases get o' q hq with ⟨rfl, rfl⟩ | ⟨ho, hq⟩
    · cases hl'
    · obtain ⟨g1, g2, g3⟩ := h.lo o' q hq hl' hC'
      exact ⟨g1, by simpa [setB] using g2, g3⟩
  · rcases get o1 q1 h1 with ⟨rfl, rfl⟩ | ⟨_, h1⟩
    · cases l1
    · rcases get o2 q2 h2 with ⟨rfl, rfl⟩ | ⟨_, h2⟩
      · cases l2
      · exact h.dis o1 o2 q1 q2 h1 h2 l1 l2 c1 c2 hne
  · have := h.mem b' i u hu
    have hne : b' ≠ K.ρ o ver := by
      intro hb
      rw [hb, hlo.2.2 i] at hu
      cases hu
    refine ⟨?_, this.2⟩
    have e : (setB w (K.ρ o ver) b).cell? ⟨b', i, none⟩ = w.cell? ⟨b', i, none⟩ := by
      simp only [World.cell?, setB_ne hne]
    rw [e]
    exact this.1
  · refine h.below.step rfl rfl rfl rfl rfl (by simp [setB]) fun b' y hy => setB_ne ?_
    rintro rfl
    rw [hlo.1] at hy
    cases hy
end

def byteIn (l : List Int) : Prop := ∀ n ∈ l, 0 ≤ n ∧ n ≤ 255

theorem byteIn_nil : byteIn [] := fun n h => nomatch h
theorem wu8_in (n : Int) : 0 ≤ wu8 n ∧ wu8 n ≤ 255 := by
  simp only [IntKind.wrap, IntKind.bits, IntKind.signed]
  simp
  omega
theorem byteIn_app {l k : List Int} (h : byteIn l) (g : byteIn k) : byteIn (l ++ k) := fun n hn => by
  rcases List.mem_append.1 hn with hn | hn
  · exact h n hn
  · exact g n hn
theorem byteIn_cons {c : Int} {k : List Int} (h : 0 ≤ c ∧ c ≤ 255) (g : byteIn k) : byteIn (c :: k) := fun n hn => by
  rcases List.mem_cons.1 hn with rfl | hn
  · exact h
  · exact g n hn

theorem bytesStr_data1 : ∀ (l : List Int) (r : ByteArray), (l.foldl (fun r n => r.push (UInt8.ofNat n.toNat)) r).data.toList = r.data.toList ++ l.map fun n => UInt8.ofNat n.toNat
  | [], r => by simp
  | n :: l, r => by
    rw [List.foldl_cons, bytesStr_data1 l]
    simp [ByteArray.push]

theorem bytesStr_data (l : List Int) : bytesStr l = ⟨(l.map fun n => UInt8.ofNat n.toNat).toArray⟩ := by
  have := bytesStr_data1 l ByteArray.empty
  apply ByteArray.ext
  apply Array.ext'
  unfold bytesStr
  rw [this]
  rfl

/-- String of a builder that holds bytes: they are frozen, the builder is given up. -/
theorem String_some {x : AVal} (l : List Int) (h0 : l ≠ []) (hb : byteIn l) (hl : l.length ≤ 4294967296) : AMoves Tryz.prog 217 [.ptr 0 0 2 0 0] [(0, .row 222 2 [[x, .own 1 0 1 0 l.length]]), (0, bytesRow l)] 1 (Sg (bytesStr l)) [(0, .row 222 2 [[.any, .any]])] := by
  intro K w vs hm hr
  have hp0 : ([(0, .row 222 2 [[x, .own 1 0 1 0 l.length]]), (0, bytesRow l)] : Objs)[0]? = some (0, .row 222 2 [[x, .own 1 0 1 0 l.length]]) := rfl
  have hp1 : ([(0, .row 222 2 [[x, .own 1 0 1 0 l.length]]), (0, bytesRow l)] : Objs)[1]? = some (0, bytesRow l) := rfl
  obtain ⟨hC, c, fr, hbk, hfr, hs, h1, hx⟩ := row1_facts hm hp0
  have hvs : vs = [.pointer (some ⟨K.ρ 0 0, 0, none⟩)] := by
    obtain ⟨v, rfl⟩ : ∃ v, vs = [v] := List.length_eq_one_iff.1 hr.1
    obtain ⟨e, _, _⟩ := rep_ptr (hr.2 0 _ _ rfl rfl)
    rw [e]
  subst hvs
  have hlen : l.length ≠ 0 := by simpa using h0
  obtain ⟨u1, hu1, hr1⟩ := hx 1 _ rfl
  obtain ⟨_, _, hcase⟩ := rep_own hr1
  rcases hcase with ⟨_, q, _⟩ | ⟨a, cap, rfl, q1, q2, q3⟩
  · exact absurd q hlen
  have ha := q3 (by omega)
  simp only [Nat.zero_mul] at ha
  subst ha
  obtain ⟨g1, g2, g3⟩ := hm.obj 1 _ hp1
  have hC1 : K.C 1 0 ≠ 0 := by simp at g2; omega
  obtain ⟨cur, ⟨fr1, hfr1, hbk1⟩, hs1, h11, hcr⟩ := g3 hC1
  have hcell : ∀ (j : Nat) (x : UInt8), (l.map fun n => UInt8.ofNat n.toNat)[j]? = some x → cur[j]? = some (Value.int .u8 x.toNat) := by
    intro j x hx
    rw [List.getElem?_map] at hx
    cases hj : l[j]? with
    | none => rw [hj] at hx; cases hx
    | some n =>
      rw [hj] at hx
      simp only [Option.map_some, Option.some.injEq] at hx
      subst hx
      obtain ⟨u, hu, hru⟩ := hcr j 0 [Y n] (Y n) (by rw [List.getElem?_map, hj]; rfl) rfl
      have e := rep_lit hru
      subst e
      have hn := hb n (List.mem_of_getElem? hj)
      rw [show j * 1 + 0 = j by omega] at hu
      rw [hu]
      congr 2
      rw [UInt8.toNat_ofNat']
      omega
  have hcurs : l.length ≤ cur.size := by
    have e : cur.size = K.C 1 0 * 1 := hs1
    simp at g2
    omega
  have c0 : w.cell? ⟨K.ρ 0 0, 1, none⟩ = some (.slice (some ⟨K.ρ 1 0, 0, none⟩) (l.map fun n => UInt8.ofNat n.toNat).length cap) := by
    rw [Lib.cell_of_heap hbk, List.length_map]; exact hu1
  refine (builderString_some (K.ρ 0 0) (K.ρ 1 0) cap cur fr1 (l.map fun n => UInt8.ofNat n.toNat) w (by simpa using h0) c0 hbk1 (by rw [List.length_map]; exact q1) (by rw [List.length_map]; exact hcurs) (by rw [List.length_map]; omega) hcell).mono ?_
  rintro e w' ⟨rfl, rfl⟩
  obtain ⟨fr2, hfz⟩ := freeze_setB (w := w.drew) (n := (l.map fun n => UInt8.ofNat n.toNat).length) (g := K.ρ 1 0) hbk1
  have hm2 := MemSat.kill hm.drew hp1 rfl hC1 (.cells cur 5 fr2)
  rw [← hfz] at hm2
  have told : Go.Fw.Told 1 (Sg (bytesStr l)) [(0, .row 222 2 [[x, .own 1 0 1 0 l.length]]), (0, .dead)] (Sg (bytesStr l)) [(0, .row 222 2 [[.any, .any]])] :=
    told_turnI [0] rfl (by decide) (.cons 0 _ _ _ _ rfl (turn_row1 (.cons _ _ _ _ (fun _ _ _ _ _ => .any _) (.cons _ _ _ _ (fun _ _ _ _ _ => .any _) .nil))) .nil) (turn_low (low2_sound rfl))
  obtain ⟨K', hle, hm3, hr3⟩ := told (K.cut 1) K _ (.string (bytesStr l)) rfl (cut_le (by rw [← hm.len]; simp)) hm2 (.lit _)
  refine ⟨_, K', ?_, hle, hm3, hr3⟩
  rw [bytesStr_data]

/-- String of a builder: its bytes, if there are any, are frozen; the builder is given up. -/
theorem String_c (l : List Int) (hb : byteIn l) (hl : l.length ≤ 4294967296) : AMoves Tryz.prog 217 [.ptr 0 0 2 0 0] [(0, .row 222 2 [[.any, .buf 1 0 1 l.length]]), (0, bytesRow l)] 1 (Sg (bytesStr l)) [(0, .row 222 2 [[.any, .any]])] := by
  by_cases h0 : l = []
  · subst h0
    intro K w vs hm hr
    have hp0 : ([(0, .row 222 2 [[.any, .buf 1 0 1 ([] : List Int).length]]), (0, bytesRow [])] : Objs)[0]? = some (0, .row 222 2 [[.any, .buf 1 0 1 ([] : List Int).length]]) := rfl
    obtain ⟨hC, c, fr, hbk, hfr, hs, h1, hx⟩ := row1_facts hm hp0
    have hvs : vs = [.pointer (some ⟨K.ρ 0 0, 0, none⟩)] := by
      obtain ⟨v, rfl⟩ : ∃ v, vs = [v] := List.length_eq_one_iff.1 hr.1
      obtain ⟨e, _, _⟩ := rep_ptr (hr.2 0 _ _ rfl rfl)
      rw [e]
    subst hvs
    obtain ⟨u1, hu1, hr1⟩ := hx 1 _ rfl
    have told : Go.Fw.Told 1 (Sg (bytesStr [])) [(0, .row 222 2 [[.any, .buf 1 0 1 ([] : List Int).length]]), (0, bytesRow [])] (Sg (bytesStr [])) [(0, .row 222 2 [[.any, .any]])] :=
      told_turnI [0] rfl (by decide) (.cons 0 _ _ _ _ rfl (turn_row1 (.cons _ _ _ _ (fun _ _ _ _ _ => .any _) (.cons _ _ _ _ (fun _ _ _ _ _ => .any _) .nil))) .nil) (turn_low (low2_sound rfl))
    obtain ⟨K', hle, hm3, hr3⟩ := told (K.cut 1) K _ (.string (bytesStr [])) rfl (cut_le (by rw [← hm.len]; simp)) hm.drew (.lit _)
    have c0 : w.cell? ⟨K.ρ 0 0, 1, none⟩ = some u1 := by rw [Lib.cell_of_heap hbk]; exact hu1
    have fin : Calls Tryz.prog 217 #[.pointer (some ⟨K.ρ 0 0, 0, none⟩)] w fun e w' => e = .returned (.string ⟨#[]⟩) ∧ w' = w.drew := by
      generalize hn : ([] : List Int).length = n at hr1
      cases hr1 with
      | bufNil => exact builderString_nil _ w c0
      | bufSome _ _ _ _ cap ho hv hl' hc hC' =>
        have hn' : n = 0 := hn.symm
        subst hn'
        exact builderString_room _ cap _ w hc c0
    refine fin.mono ?_
    rintro e w' ⟨rfl, rfl⟩
    exact ⟨_, K', rfl, hle, hm3, hr3⟩
  · intro K w vs hm hr
    have hm' : MemSat K [(0, .row 222 2 [[.any, .own 1 0 1 0 l.length]]), (0, bytesRow l)] w := by
      have hp0 : ([(0, .row 222 2 [[.any, .buf 1 0 1 l.length]]), (0, bytesRow l)] : Objs)[0]? = some (0, .row 222 2 [[.any, .buf 1 0 1 l.length]]) := rfl
      obtain ⟨hC, c, fr, hbk, hfr, hs, h1, hx⟩ := row1_facts hm hp0
      have hm' := hm.setRow hp0 hC c c ⟨fr, hfr, hbk⟩ rfl h1 [[.any, .own 1 0 1 0 l.length]] (by simp; omega) (by simp) (fun i j e y he hy => ?_)
      · rw [setRow_same hbk] at hm'
        exact hm'
      · have hi : i = 0 := by have := (List.getElem?_eq_some_iff.1 he).1; simp at this; omega
        subst hi
        simp at he
        subst he
        rcases j with _ | _ | j
        · simp at hy
          subst hy
          obtain ⟨u0, hu0, _⟩ := hx 0 _ rfl
          exact ⟨u0, by simpa using hu0, .any _⟩
        · simp at hy
          subst hy
          obtain ⟨u1, hu1, hr1⟩ := hx 1 _ rfl
          exact ⟨u1, by simpa using hu1, own_of_buf hr1⟩
        · simp at hy
    exact String_some l h0 hb hl K w vs hm' hr
end Go.Proofs.YtoionleakeemlaaGreatDoor
namespace Go.Proofs.YtoionleakeemlaaGreatDoor
set_option linter.unusedSimpArgs false
set_option linter.unusedVariables false
open Go.RowKit Go.Shelf
attribute [local go_sem] Oper.semAt_some

def downFrom (hi : Int) (k : Nat) : List Int := (List.range k).map fun (i : Nat) => hi - (i : Int)
theorem downFrom_succ (hi : Int) (k : Nat) : downFrom hi (k + 1) = downFrom hi k ++ [hi - (k : Int)] := by simp [downFrom, List.range_succ]
theorem downFrom_length (hi : Int) (k : Nat) : (downFrom hi k).length = k := by simp [downFrom]

def leftOf (lo : Int) : Value → Nat
  | .int _ n => (n - lo + 1).toNat
  | _ => 0

theorem sizes_in (n : Nat) (hn : 1 ≤ n) (l Bt Bf : Nat) (lo hi : Int) (h1 : 1 ≤ lo) (h2 : lo ≤ hi) (h3 : hi ≤ 48) (J Jx : List Int → World → Prop)
    (hY : ∀ pre x W, J pre W → pre.length < (hi - lo + 1).toNat → YieldAt Fence.wide (n - 1) Tryz.prog l #[.int .i64 x] W fun e W' =>
      (e = .returned (.bool true) ∧ J (pre ++ [x]) W' ∧ (W.cell? ⟨Bf, 0, none⟩ = some (.int .i64 lo) → W'.cell? ⟨Bf, 0, none⟩ = some (.int .i64 lo))) ∨ (e = .returned (.bool false) ∧ Jx (pre ++ [x]) W'))
    (W : World) (hT : W.cell? ⟨Bt, 0, none⟩ = some (.int .i64 hi)) (hF : W.cell? ⟨Bf, 0, none⟩ = some (.int .i64 lo)) (h0 : J [] W) :
    CallsIn Fence.wide n Tryz.prog 127 #[.func (.yield l) #[] #[], .pointer (some ⟨Bt, 0, none⟩), .pointer (some ⟨Bf, 0, none⟩)] W fun e W' => (∃ v, e = .returned v) ∧
      ((∃ ys, ys = downFrom hi (hi - lo + 1).toNat ∧ J ys W') ∨ (∃ pre, True ∧ Jx pre W')) := by
  refine callsIn_of_wp Tryz.func127 rfl trivial ?_ rfl
  simp only [Tryz.ntmps127, List.size_toArray, List.length_cons, List.length_nil, Nat.reduceAdd, Nat.reduceSub, Array.replicate_succ, Array.replicate_zero, List.push_toArray, List.append_toArray, List.nil_append, List.cons_append]
  gi_wp2
  gi_loopw [4] (fun p wr => ∃ k : Nat, p = .int .i64 (hi - (k : Int)) ∧ k ≤ (hi - lo + 1).toNat ∧ wr.cell? ⟨Bf, 0, none⟩ = some (.int .i64 lo) ∧ J (downFrom hi k) wr)
    (fun p _ => leftOf lo p)
  case atStart =>
    exact ⟨0, by simp, by omega, hF, h0⟩
  case round =>
    obtain ⟨k, rfl, hk, hc, hJs⟩ := hrel
    by_cases hle : lo ≤ hi - (k : Int)
    · obtain ⟨fn, tmps, assign, body, hy, hR⟩ := hY (downFrom hi k) (hi - (k : Int)) wr hJs (by rw [downFrom_length]; omega)
      have hd : decide (hi - (k : Int) ≥ lo) = true := decide_eq_true hle
      gi_wp2
      refine hR.mono ?_
      rintro e W3 (⟨rfl, hJ3, hk3⟩ | ⟨rfl, hJx3⟩)
      · gi_wp2
        go_roundw
        case rel =>
          refine ⟨k + 1, ?_, by omega, hk3 hc, by rw [downFrom_succ]; exact hJ3⟩
          simp
          omega
        case measure =>
          simp only [leftOf]
          omega
      · gi_wp2
        refine bodyPost_ret (results_none rfl _ _ _) rfl ?_
        exact ⟨⟨_, rfl⟩, .inr ⟨_, trivial, hJx3⟩⟩
    · have hd : decide (hi - (k : Int) ≥ lo) = false := decide_eq_false (by omega)
      gi_wp2
      have hk' : k = (hi - lo + 1).toNat := by omega
      subst hk'
      go_end0
      exact ⟨⟨_, rfl⟩, .inl hJs⟩

theorem sizes_stops (n : Nat) (hn : 1 ≤ n) (Bt Bf : Nat) (lo hi : Int) (w : World) (h1 : 1 ≤ lo) (h2 : lo ≤ hi) (h3 : hi ≤ 48) (hbt : Bt < w.heap.size) (hbf : Bf < w.heap.size)
    (hT : w.cell? ⟨Bt, 0, none⟩ = some (.int .i64 hi)) (hF : w.cell? ⟨Bf, 0, none⟩ = some (.int .i64 lo)) :
    SeqStopsK Fence.wide n Tryz.prog 127 #[.pointer (some ⟨Bt, 0, none⟩), .pointer (some ⟨Bf, 0, none⟩)] (fun x : Int => #[Value.int .i64 x]) (fun W W' => W.cell? ⟨Bf, 0, none⟩ = some (.int .i64 lo) → W'.cell? ⟨Bf, 0, none⟩ = some (.int .i64 lo)) (fun ys => ys = downFrom hi (hi - lo + 1).toNat) (fun _ => True) (hi - lo + 1).toNat w :=
  fun l J Jx W hW _ _ hY h0 => sizes_in n hn l Bt Bf lo hi h1 h2 h3 J Jx hY W ((hW.cell (p := ⟨Bt, 0, none⟩) hbt).trans hT) ((hW.cell (p := ⟨Bf, 0, none⟩) hbf).trans hF) h0

end Go.Proofs.YtoionleakeemlaaGreatDoor
namespace Go.Proofs.YtoionleakeemlaaGreatDoor
set_option linter.unusedSimpArgs false
set_option linter.unusedVariables false
open Go.Fw

theorem ckA {p : Prop} (h : p := by first | exact wu64_nonneg _ | omega | (simp only [bytesOf_length]; omega) | (simp only [Option.getD_some, Option.getD_none, cond_true, cond_false, Bool.and_eq_true, Bool.or_eq_true, Bool.not_eq_true', Bool.not_eq_false', Bool.not_not, decide_eq_true_eq, decide_eq_false_iff_not, beq_iff_eq, bne_iff_ne, beq_eq_false_iff_ne, bne_eq_false_iff_eq, ne_eq] at *; first | omega | (simp (disch := omega) only [wr]; omega)) | grind) : p := h

theorem leA {p : Prop} (h : p := by first | rfl | omega | (simp; omega) | grind) : p := h

theorem exA {p : Prop} (h : p := by first | omega | (dsimp only; omega) | (simp; done) | (simp; omega) | (simp [bytesOf_length]; done) | grind) : p := h

theorem omA {p : Prop} (h : p := by first | omega | (dsimp only; omega) | grind) : p := h

theorem szA {p : Prop} (h : p := by first | omega | assumption | (refine ⟨?_, ?_⟩ <;> assumption) | (simp; done) | exact getD_sz (by assumption) (by first | exact Job.szz _ | exact Usage.szz _ | exact Shape.szz _ | exact Token.szz _) | exact Shape.szz _ | exact Job.szz _ | exact State.szz _ | (rw [bytesStr_size]; omega) | (refine Nat.le_trans (runesBytes_size _) ?_; simp only [List.length_drop, List.length_take]; omega) | (dsimp only [Cmd.sz, Job.sz, Shape.sz, State.sz, Usage.sz, Token.sz, LexReader.sz, ImageReader.sz, Ref28From.sz, Cmd.szN, Job.szN, Shape.szN, State.szN, Usage.szN, Token.szN, LexReader.szN, ImageReader.szN, Ref28From.szN]; (repeat' apply And.intro) <;> first | assumption | (simp; done)) | grind) : p := h

theorem lnA {p : Prop} (h : p := by first | rfl | exact (bytesOf_length _).symm | exact bytesOf_length _ | (simp; done) | (simp [bytesOf_length]; done) | grind) : p := h

theorem eqA {p : Prop} (h : p := by first | rfl | (simp only [Nat.zero_add, Int.toNat_natCast, List.map_set]; rfl) | (rw [List.map_replicate]; rfl) | exact range_list _ _ _ | exact (bytesOf_map _) | (rw [List.map_append]; rfl) | (rw [List.map_append, ← range_list]; rfl) | (simp; done) | ((repeat rw [List.map_append]); repeat' (first | rfl | exact range_list _ _ _ | exact rangeTake _ _ _ ckA | exact rangeDrop _ _ _ _ leA | exact range_cut _ _ _ _ _ leA ckA | exact List.map_replicate | refine app_eq ?_ ?_))) : p := h

theorem cvA {p : Prop} (h : p := by first | exact newsP_own rfl lnA | exact newsP_nil | exact newsP_ownE rfl eqA lnA | exact newsP_seq (by first | rfl |  exact range_list _ _ _ | exact rangeTake _ _ _ ckA | exact rangeDrop _ _ _ _ leA | exact range_cut _ _ _ _ _ leA ckA | simp)) : p := h

theorem gkA {p : Prop} (h : p := by first | exact fun hg => decide_eq_true ckA | exact fun _ => rfl | exact rfl) : p := h

end Go.Proofs.YtoionleakeemlaaGreatDoor
