/-
  The evaluator of this claim, part 10: what it reckons is so of the program. No condition.
-/
import Derived.Test.YtalhamokkblnjaaGreatDoorQ5
import Derived.Test.YtalhamokkblnjaaGreatDoorQ9

namespace Go.Fw
set_option linter.unusedSimpArgs false
set_option linter.unusedVariables false
open Go.RowKit

/-- One more edge: the operation i stands ahead. -/
def edgeTo (i : Nat) (o : Oper) : Oper := { o with after := (⟨i, .data⟩ :: o.after.toList).toArray }
def addL (i : Nat) : Nat → List Oper → List Oper
  | _, [] => []
  | 0, o :: r => edgeTo i o :: r
  | j + 1, o :: r => o :: addL i j r

def tr2 (p k : Nat) : Nat := bif Nat.beq k p then p + 1 else bif Nat.beq k (p + 1) then p else k
def reE (p : Nat) (o : Oper) : Oper := { o with after := (o.after.toList.map fun e => ⟨tr2 p e.on, e.ground⟩).toArray, guard := (match o.guard with | some g => some (tr2 p g.1, g.2) | none => none) }
def swapL : Nat → List Oper → List Oper
  | 0, a :: b :: r => b :: a :: r
  | p + 1, a :: r => a :: swapL p r
  | _, l => l

/-- p ahead of p + 1; and the other way around, the two exchanged. -/
def way1 (p : Nat) (ops : Array Oper) : Array Oper := (addL p (p + 1) ops.toList).toArray
def way2 (p : Nat) (ops : Array Oper) : Array Oper := (swapL p ((addL (p + 1) p ops.toList).map (reE p))).toArray

theorem addL_get (i : Nat) : ∀ (j : Nat) (l : List Oper) (k : Nat), (addL i j l)[k]? = if k = j then (l[k]?).map (edgeTo i) else l[k]?
  | _, [], k => by simp [addL]
  | 0, o :: r, 0 => by simp [addL]
  | 0, o :: r, k + 1 => by simp [addL]
  | j + 1, o :: r, 0 => by simp [addL]
  | j + 1, o :: r, k + 1 => by
    simp only [addL, List.getElem?_cons_succ, addL_get i j r k, Nat.add_right_cancel_iff]

theorem addL_len (i : Nat) : ∀ (j : Nat) (l : List Oper), (addL i j l).length = l.length
  | _, [] => by simp [addL]
  | 0, o :: r => by simp [addL]
  | j + 1, o :: r => by simp [addL, addL_len i j r]

theorem tr2_tr2 (p k : Nat) : tr2 p (tr2 p k) = k := by
  unfold tr2
  cases h1 : Nat.beq k p with
  | true =>
    have := Nat.eq_of_beq_eq_true h1
    subst this
    have h2 : Nat.beq (k + 1) k = false := by cases h : Nat.beq (k + 1) k with | false => rfl | true => exact absurd (Nat.eq_of_beq_eq_true h) (by omega)
    simp [h2]
  | false =>
    cases h2 : Nat.beq k (p + 1) with
    | true =>
      have := Nat.eq_of_beq_eq_true h2
      subst this
      simp
    | false => simp [h1, h2]

theorem tr2_lt {p k n : Nat} (hp : p + 1 < n) : tr2 p k < n ↔ k < n := by
  unfold tr2
  cases h1 : Nat.beq k p with
  | true => have := Nat.eq_of_beq_eq_true h1; simp only [cond_true]; omega
  | false =>
    cases h2 : Nat.beq k (p + 1) with
    | true => have := Nat.eq_of_beq_eq_true h2; simp only [cond_true, cond_false]; omega
    | false => simp

theorem swapL_len : ∀ (p : Nat) (l : List Oper), (swapL p l).length = l.length
  | 0, [] => rfl
  | 0, [a] => rfl
  | 0, a :: b :: r => rfl
  | p + 1, [] => rfl
  | p + 1, a :: r => by simp [swapL, swapL_len p r]

theorem swapL_get : ∀ (p : Nat) (l : List Oper) (k : Nat), p + 1 < l.length → (swapL p l)[tr2 p k]? = l[k]?
  | 0, [], _, h => absurd h (by simp)
  | 0, [a], _, h => absurd h (by simp)
  | 0, a :: b :: r, 0, _ => rfl
  | 0, a :: b :: r, 1, _ => rfl
  | 0, a :: b :: r, k + 2, _ => rfl
  | p + 1, [], _, h => absurd h (by simp)
  | p + 1, a :: r, 0, _ => rfl
  | p + 1, a :: r, k + 1, h => by
    have ih := swapL_get p r k (by simpa using h)
    have e : tr2 (p + 1) (k + 1) = tr2 p k + 1 := by
      show (bif Nat.beq k p then p + 1 + 1 else bif Nat.beq k (p + 1) then p + 1 else k + 1) = (bif Nat.beq k p then p + 1 else bif Nat.beq k (p + 1) then p else k) + 1
      cases Nat.beq k p <;> cases Nat.beq k (p + 1) <;> rfl
    rw [e]
    simpa [swapL] using ih

section
variable {P : Program} {md : Region.Mode} {Q : Exit → Act → World → Prop}

/-- Operations that are the same but for the edges. -/
structure SameOps (σ : Nat → Nat) (ops ops' : Array Oper) : Prop where
  get : ∀ k, ∃ f : Oper → Array Edge, ops'[σ k]? = (ops[k]?).map fun o => { o with after := f o, guard := (match o.guard with | some g => some (σ g.1, g.2) | none => none) }

theorem SameOps.yielded {σ : Nat → Nat} {ops ops' : Array Oper} (h : SameOps σ ops ops') (tmps : Array Value) (k : Nat) : yielded ops' tmps (σ k) = yielded ops tmps k := by
  obtain ⟨f, e⟩ := h.get k
  unfold Go.yielded
  rw [e]
  cases ops[k]? <;> rfl

theorem SameOps.wpOp {σ : Nat → Nat} {ops ops' : Array Oper} (h : SameOps σ ops ops') {k : Nat} {K : Act → World → Prop} {a : Act} {w : World} : wpOp P ops' Q (σ k) K a w ↔ wpOp P ops Q k K a w := by
  obtain ⟨f, e⟩ := h.get k
  unfold Go.wpOp
  rw [e]
  cases ho : ops[k]? with
  | none => exact Iff.rfl
  | some o =>
    have hw : Region.wanted ({ o with after := f o, guard := (match o.guard with | some g => some (σ g.1, g.2) | none => none) } : Oper) (Go.yielded ops' a.tmps) = Region.wanted o (Go.yielded ops a.tmps) := by
      unfold Region.wanted
      cases hg : o.guard with
      | none => rfl
      | some g =>
        simp only
        rw [h.yielded]
    simp only [Option.map_some]
    rw [hw]
    exact Iff.rfl

/-- Operations that call nothing. -/
def plainOp : Op → Bool
  | .move _ | .assign _ | .alloc _ | .box .. | .build .. | .buildSlice .. | .load .. | .store .. | .binOp .. | .fieldAddr .. | .field .. | .indexAddr .. | .index .. => true
  | _ => false

theorem plain_run {ρ : Operand → Value} {o : Oper} {w w' : World} {x : Next} (hp : plainOp o.op = true) (h : (execOp ρ o).run P w = .ok x w') : (∃ v, x = .value v) ∨ x = .skip := by
  have val : ∀ m : Sem Value, (do pure (Next.value (← m)) : Sem Next).run P w = .ok x w' → ∃ v, x = .value v := by
    intro m hm
    simp only [Sem.run_bind] at hm
    cases hr : m.run P w with
    | ok u w1 =>
      rw [hr] at hm
      simp only [Result.andThen_ok, Sem.run_pure] at hm
      injection hm with h1 _
      exact ⟨u, h1.symm⟩
    | halt e w1 => rw [hr] at hm; cases hm
  obtain ⟨dst, op, type, pos, after, guard⟩ := o
  cases op <;> simp only [plainOp] at hp <;> first | (cases hp; done) | skip
  case store t a y =>
    right
    simp only [execOp, Sem.run_bind] at h
    cases hr : (Instr.storeAt t (ρ a) (ρ y)).run P w with
    | ok u w1 =>
      rw [hr] at h
      simp only [Result.andThen_ok, Sem.run_pure] at h
      injection h with h1 _
      exact h1.symm
    | halt e w1 => rw [hr] at h; cases h
  case move y => simp only [execOp, Sem.run_pure] at h; injection h with h1 _; exact .inl ⟨_, h1.symm⟩
  case assign y => simp only [execOp, Sem.run_pure] at h; injection h with h1 _; exact .inl ⟨_, h1.symm⟩
  all_goals exact .inl (val _ h)

theorem wpOp_and {ops : Array Oper} {k : Nat} {K1 K2 K : Act → World → Prop} {a : Act} {w : World} (hp : ∀ o, ops[k]? = some o → plainOp o.op = true) (h : ∀ a w, K1 a w → K2 a w → K a w) (h1 : wpOp P ops Q k K1 a w) (h2 : wpOp P ops Q k K2 a w) : wpOp P ops Q k K a w := by
  unfold Go.wpOp at *
  cases ho : ops[k]? with
  | none => simp only [ho] at h1 h2 ⊢; exact h _ _ h1 h2
  | some o =>
    simp only [ho] at h1 h2 ⊢
    split
    · rename_i hw
      rw [if_pos hw] at h1 h2
      rcases h1 with h1 | h1
      · rcases h2 with h2 | h2
        · left
          unfold Oper.wp at *
          cases hr : (execOp a.eval o).run P w with
          | ok x w' =>
            rw [hr] at h1 h2
            rcases plain_run (hp o ho) hr with ⟨v, rfl⟩ | rfl
            · exact h _ _ h1 h2
            · exact h _ _ h1 h2
          | halt x w' =>
            rw [hr] at h1
            cases x <;> exact h1
        · exact .inr h2
      · exact .inr h1
    · rename_i hw
      rw [if_neg hw] at h1 h2
      exact h _ _ h1 h2

theorem wpOp_mono {ops : Array Oper} {k : Nat} {K K' : Act → World → Prop} {a : Act} {w : World} (h : ∀ a w, K a w → K' a w) (h1 : wpOp P ops Q k K a w) : wpOp P ops Q k K' a w := by
  unfold Go.wpOp at *
  cases ho : ops[k]? with
  | none => simp only [ho] at h1 ⊢; exact h _ _ h1
  | some o =>
    simp only [ho] at h1 ⊢
    split
    · rename_i hw
      rw [if_pos hw] at h1
      exact h1.imp (Oper.wp_mono h) id
    · rename_i hw
      rw [if_neg hw] at h1
      exact h _ _ h1

/-! one more edge -/

theorem way_same (i j : Nat) (ops : Array Oper) : SameOps id ops (addL i j ops.toList).toArray := by
  refine ⟨fun k => ?_⟩
  simp only [id, List.getElem?_toArray, addL_get, Array.getElem?_toList]
  by_cases h : k = j
  · refine ⟨fun o => (⟨i, .data⟩ :: o.after.toList).toArray, ?_⟩
    rw [if_pos h]
    cases ops[k]? with
    | none => rfl
    | some o => cases o; simp only [Option.map_some, edgeTo]; congr 2; cases ‹Option Tag› <;> rfl
  · refine ⟨fun o => o.after, ?_⟩
    rw [if_neg h]
    cases ops[k]? with
    | none => rfl
    | some o => cases o; simp only [Option.map_some]; congr 2; cases ‹Option Tag› <;> rfl

theorem way_ready {i j : Nat} {ops : Array Oper} {listed : Array Bool} {k : Nat} : k ∈ Region.ready md (addL i j ops.toList).toArray listed ↔ k ∈ Region.ready md ops listed ∧ (k = j → listed.getD i false = true) := by
  rw [mem_ready, mem_ready]
  simp only [List.getElem?_toArray, addL_get, Array.getElem?_toList]
  by_cases h : k = j
  · subst h
    simp only [if_true]
    cases ops[k]? with
    | none => simp
    | some o =>
      constructor
      · rintro ⟨h1, o', ho, h2⟩
        simp only [Option.map_some, Option.some.injEq] at ho
        subst ho
        refine ⟨⟨h1, o, rfl, fun e he hb => h2 e (by simp [edgeTo]; exact .inr he) hb⟩, fun _ => h2 ⟨i, .data⟩ (by simp [edgeTo]) rfl⟩
      · rintro ⟨⟨h1, o', ho, h2⟩, h3⟩
        simp only [Option.some.injEq] at ho
        subst ho
        refine ⟨h1, _, rfl, fun e he hb => ?_⟩
        simp only [edgeTo, List.mem_toArray, List.mem_cons, Array.mem_toList_iff] at he
        rcases he with rfl | he
        · simpa using h3
        · exact h2 e he hb
  · simp only [if_neg h]
    exact ⟨fun q => ⟨q, fun e => absurd e h⟩, fun q => q.1⟩

theorem getD_set {l : Array Bool} {i k : Nat} (h : l.getD i true = false) : (l.setIfInBounds i true).getD k false = (l.getD k false || decide (k = i)) := by
  have hi : i < l.size := by
    rcases Nat.lt_or_ge i l.size with h' | h'
    · exact h'
    · simp [Array.getElem?_eq_none h'] at h
  by_cases hk : k = i
  · subst hk
    simp [hi]
  · simp [Array.getElem?_setIfInBounds_ne (Ne.symm hk), hk]

/-- The edge is met: nothing is asked by it any more. -/
theorem way_met {i j : Nat} {ops : Array Oper} : ∀ (fuel : Nat) (listed : Array Bool) (a : Act) (w : World), listed.getD i false = true → wpAny P md (addL i j ops.toList).toArray Q fuel listed a w → wpAny P md ops Q fuel listed a w := by
  intro fuel
  have hr : ∀ listed : Array Bool, listed.getD i false = true → Region.ready md ops listed = [] → Region.ready md (addL i j ops.toList).toArray listed = [] := by
    intro listed hl h
    rw [List.eq_nil_iff_forall_not_mem] at h ⊢
    exact fun k hk => h k (way_ready.1 hk).1
  induction fuel with
  | zero =>
    intro listed a w hl h
    refine ⟨?_, h.2⟩
    have h1 := h.1
    rw [List.eq_nil_iff_forall_not_mem] at h1 ⊢
    exact fun k hk => h1 k (way_ready.2 ⟨hk, fun _ => hl⟩)
  | succ fuel ih =>
    intro listed a w hl h
    refine ⟨fun hn => h.1 (hr listed hl hn), fun k hk => ?_⟩
    have h2 := h.2 k (way_ready.2 ⟨hk, fun _ => hl⟩)
    have h3 := (way_same i j ops).wpOp.1 h2
    refine wpOp_mono (fun a w hx => ih _ a w ?_ hx) h3
    rw [getD_set (mem_ready.1 hk).1, hl]
    rfl

/-- Whatever the order: one of the two stands ahead. -/
theorem way_split {i j : Nat} {ops : Array Oper} (hp : ∀ (k : Nat) (o : Oper), ops[k]? = some o → plainOp o.op = true) (hne : i ≠ j) : ∀ (fuel : Nat) (listed : Array Bool) (a : Act) (w : World),
    wpAny P md (addL i j ops.toList).toArray Q fuel listed a w → wpAny P md (addL j i ops.toList).toArray Q fuel listed a w → wpAny P md ops Q fuel listed a w := by
  intro fuel
  induction fuel with
  | zero =>
    intro listed a w h1 h2
    refine ⟨?_, h1.2⟩
    have q1 := h1.1
    have q2 := h2.1
    rw [List.eq_nil_iff_forall_not_mem] at q1 q2 ⊢
    intro k hk
    by_cases hkj : k = j
    · exact q2 k (way_ready.2 ⟨hk, fun e => absurd (e.symm.trans hkj) hne⟩)
    · exact q1 k (way_ready.2 ⟨hk, fun e => absurd e hkj⟩)
  | succ fuel ih =>
    intro listed a w h1 h2
    refine ⟨fun hn => h1.1 ?_, fun k hk => ?_⟩
    · rw [List.eq_nil_iff_forall_not_mem] at hn ⊢
      exact fun k hk => hn k (way_ready.1 hk).1
    · have hl := (mem_ready.1 hk).1
      by_cases hkj : k = j
      · subst hkj
        have q2 := (way_same k i ops).wpOp.1 (h2.2 k (way_ready.2 ⟨hk, fun e => absurd e.symm hne⟩))
        refine wpOp_mono (fun a w hx => way_met _ _ a w ?_ hx) q2
        rw [getD_set hl]
        simp
      · by_cases hki : k = i
        · subst hki
          have q1 := (way_same k j ops).wpOp.1 (h1.2 k (way_ready.2 ⟨hk, fun e => absurd e hkj⟩))
          refine wpOp_mono (fun a w hx => way_met _ _ a w ?_ hx) q1
          rw [getD_set hl]
          simp
        · have q1 := (way_same i j ops).wpOp.1 (h1.2 k (way_ready.2 ⟨hk, fun e => absurd e hkj⟩))
          have q2 := (way_same j i ops).wpOp.1 (h2.2 k (way_ready.2 ⟨hk, fun e => absurd e hki⟩))
          exact wpOp_and (hp k) (fun a w x1 x2 => ih _ a w x1 x2) q1 q2

/-! two exchanged -/

theorem swap_same {p : Nat} {ops : Array Oper} (h : p + 1 < ops.size) : SameOps (tr2 p) ops (swapL p (ops.toList.map (reE p))).toArray := by
  refine ⟨fun k => ⟨fun o => (o.after.toList.map fun e => ⟨tr2 p e.on, e.ground⟩).toArray, ?_⟩⟩
  rw [List.getElem?_toArray, swapL_get p _ k (by simpa using h), List.getElem?_map, Array.getElem?_toList]
  rfl

theorem swap_ready {p : Nat} {ops : Array Oper} (h : p + 1 < ops.size) {listed listed' : Array Bool} (hsz : listed.size = ops.size) (hsz' : listed'.size = ops.size) (hl : ∀ k, listed'.getD (tr2 p k) false = listed.getD k false) {k : Nat} :
    tr2 p k ∈ Region.ready md (swapL p (ops.toList.map (reE p))).toArray listed' ↔ k ∈ Region.ready md ops listed := by
  obtain ⟨f, e⟩ := (swap_same h).get k
  have hg : (swapL p (ops.toList.map (reE p))).toArray[tr2 p k]? = (ops[k]?).map (reE p) := by
    rw [List.getElem?_toArray, swapL_get p _ k (by simpa using h), List.getElem?_map, Array.getElem?_toList]
  have ht : listed'.getD (tr2 p k) true = listed.getD k true := by
    have := hl k
    rcases Nat.lt_or_ge k ops.size with hk | hk
    · have hk' := (tr2_lt h).2 hk
      simp only [Array.getD_eq_getD_getElem?] at this ⊢
      rw [Array.getElem?_eq_getElem (by omega), Array.getElem?_eq_getElem (by omega)] at this ⊢
      exact this
    · have hk' : ¬ tr2 p k < ops.size := fun q => absurd ((tr2_lt h).1 q) (by omega)
      simp only [Array.getD_eq_getD_getElem?]
      rw [Array.getElem?_eq_none (by omega), Array.getElem?_eq_none (by omega)]
  rw [mem_ready, mem_ready, hg, ht]
  cases ops[k]? with
  | none => simp
  | some o =>
    simp only [Option.map_some, Option.some.injEq, exists_eq_left']
    refine and_congr_right fun _ => ⟨fun q e he hb => ?_, fun q e he hb => ?_⟩
    · have := q ⟨tr2 p e.on, e.ground⟩ (by simp only [reE, List.mem_toArray, List.mem_map]; exact ⟨e, Array.mem_toList_iff.2 he, rfl⟩) hb
      rw [← hl e.on]
      exact this
    · simp only [reE, List.mem_toArray, List.mem_map] at he
      obtain ⟨e', he', rfl⟩ := he
      rw [hl]
      exact q e' (Array.mem_toList_iff.1 he') hb

theorem swap_any {p : Nat} {ops : Array Oper} (h : p + 1 < ops.size) : ∀ (fuel : Nat) (listed listed' : Array Bool) (a : Act) (w : World), listed.size = ops.size → listed'.size = ops.size → (∀ k, listed'.getD (tr2 p k) false = listed.getD k false) →
    wpAny P md (swapL p (ops.toList.map (reE p))).toArray Q fuel listed' a w → wpAny P md ops Q fuel listed a w := by
  intro fuel
  have empty : ∀ listed listed' : Array Bool, listed.size = ops.size → listed'.size = ops.size → (∀ k, listed'.getD (tr2 p k) false = listed.getD k false) → (Region.ready md (swapL p (ops.toList.map (reE p))).toArray listed' = [] ↔ Region.ready md ops listed = []) := by
    intro listed listed' h1 h2 hl
    rw [List.eq_nil_iff_forall_not_mem, List.eq_nil_iff_forall_not_mem]
    refine ⟨fun q k hk => q _ ((swap_ready h h1 h2 hl).2 hk), fun q k hk => ?_⟩
    rw [← tr2_tr2 p k] at hk
    exact q _ ((swap_ready h h1 h2 hl).1 hk)
  induction fuel with
  | zero =>
    intro listed listed' a w h1 h2 hl hx
    exact ⟨(empty _ _ h1 h2 hl).1 hx.1, hx.2⟩
  | succ fuel ih =>
    intro listed listed' a w h1 h2 hl hx
    refine ⟨fun hn => hx.1 ((empty _ _ h1 h2 hl).2 hn), fun k hk => ?_⟩
    have hk' := (swap_ready (md := md) h h1 h2 hl).2 hk
    have q := (swap_same h).wpOp.1 (hx.2 _ hk')
    refine wpOp_mono (fun a w hy => ih _ _ a w (by simp [h1]) (by simp [h2]) (fun m => ?_) hy) q
    rw [getD_set (mem_ready.1 hk).1, getD_set (mem_ready.1 hk').1, hl m]
    congr 1
    refine decide_eq_decide.2 ⟨fun e => ?_, fun e => by rw [e]⟩
    rw [← tr2_tr2 p m, e, tr2_tr2]

end

section
variable {P : Program} {nt : Nat} {slots : List (Nat × AVal)}

/-- A region that draws its order, two of whose effects no edge orders: both orders. -/
theorem wp_draw2 {K0 K : Ctx} {s : St} {id p : Nat} {ops : Array Oper} {a : Act} {w : World} {Q : Exit → Act → World → Prop} (hmix : P.follows .mixedOrders = true) (hp : (ops.toList.all fun o => plainOp o.op) = true) (hlt : p + 1 < ops.size)
    {tr1 tr2' : Nat → RSt} (ht1 : Trace P nt (way1 p ops) s.slots tr1) (hck1 : drawCheck (way1 p ops) (masks (way1 p ops)) = true) (ho1 : (tr1 0).objs = s.objs)
    (ht2 : Trace P nt (way2 p ops) s.slots tr2') (hck2 : drawCheck (way2 p ops) (masks (way2 p ops)) = true) (ho2 : (tr2' 0).objs = s.objs) (hK : K0.le K) (hs : Sat nt K s a w)
    (hQ1 : ∀ K a w, K0.le K → RSat nt (way1 p ops) s.slots K (tr1 (way1 p ops).size) a w → Q .normal a w) (hQ2 : ∀ K a w, K0.le K → RSat nt (way2 p ops) s.slots K (tr2' (way2 p ops).size) a w → Q .normal a w) : (Code.region id ops true).wp P Q a w := by
  have hf : ∀ n k : Nat, (Array.replicate n false).getD k false = false := fun n k => by
    simp only [Array.getD_eq_getD_getElem?, Array.getElem?_replicate]
    split <;> rfl
  have start : ∀ (ops' : Array Oper) (tr : Nat → RSt) (n : Nat), (tr 0).objs = s.objs → DInv nt ops' s.slots tr K0 (fun k => (Array.replicate n false).getD k false) a { w with drawn := w.drawn + 1 } := fun ops' tr n ho =>
    ⟨(fun i o e hi => by simp only [hf] at hi; cases hi), hs.size, K, 0, hK, hs.defers, Nat.zero_le _, (by rw [ho]; exact hs.mem.drawn _), (fun j _ => by simp only [hf]; simp), (fun j o d tg v _ _ hS => by simp only [hf] at hS; cases hS), fun t _ => hs.slot t⟩
  have s1 : (way1 p ops).size = ops.size := by simp [way1, addL_len]
  have s2 : (way2 p ops).size = ops.size := by simp [way2, swapL_len, addL_len]
  have w1 := wpAny_trace (K0 := K0) ht1 hck1 hQ1 ops.size (Array.replicate ops.size false) a { w with drawn := w.drawn + 1 } (by simp [s1]) (by rw [s1]; exact Nat.le_trans (List.length_filter_le _ _) (by simp)) (start _ _ _ ho1)
  have w2 := wpAny_trace (K0 := K0) ht2 hck2 hQ2 ops.size (Array.replicate ops.size false) a { w with drawn := w.drawn + 1 } (by simp [s2]) (by rw [s2]; exact Nat.le_trans (List.length_filter_le _ _) (by simp)) (start _ _ _ ho2)
  have h2size : (addL (p + 1) p ops.toList).toArray.size = ops.size := by simp [addL_len]
  have w3 := swap_any (P := P) (md := .any) (Q := Q) (ops := (addL (p + 1) p ops.toList).toArray) (p := p) (by rw [h2size]; exact hlt) ops.size (Array.replicate ops.size false) (Array.replicate ops.size false) a { w with drawn := w.drawn + 1 } (by simp [h2size]) (by simp [h2size]) (fun k => by rw [hf, hf]) (by simpa [way2] using w2)
  refine wp_region_any hmix (way_split (i := p) (j := p + 1) (fun k o ho => ?_) (by omega) ops.size _ a _ w1 w3)
  exact List.all_eq_true.1 hp o (Array.mem_toList_iff.2 (Array.mem_of_getElem? ho))

/-- A region that draws its order, walked in both orders of two operations that no edge orders. -/
theorem cdraw_two {ops : Array Oper} {objs : Objs} {K : Loc → Objs → Prop} (p : Nat) (hp : (ops.toList.all (fun o => plainOp o.op) && Nat.blt (p + 1) ops.size) = true)
    (h1 : cdraw P nt (way1 p ops) slots objs K) (h2 : cdraw P nt (way2 p ops) slots objs K) : DrawS P nt ops ⟨slots, objs⟩ K := by
  obtain ⟨hm, c1, t1, q1, q2, q3⟩ := cdraw_draw h1
  obtain ⟨-, c2, t2, r1, r2, r3⟩ := cdraw_draw h2
  simp only [Bool.and_eq_true, Nat.blt_eq] at hp
  intro id K0 Kc a w Q hle hs hQ
  exact wp_draw2 (K0 := K0) hm hp.1 hp.2 q1 c1 q2 r1 c2 r2 hle hs (fun K' a w hl hr => hQ _ K' _ a w hl hr q3) (fun K' a w hl hr => hQ _ K' _ a w hl hr r3)

end
end Go.Fw

namespace Go.Fw
set_option linter.unusedSimpArgs false
set_option linter.unusedVariables false
open Go.RowKit

section
variable {P : Program} {Q : Exit → Act → World → Prop} {nt : Nat}

/-- An order in which a region's operations may run. -/
def Val (ops : Array Oper) : Array Bool → List Nat → Prop
  | listed, [] => Region.ready .any ops listed = []
  | listed, i :: r => i ∈ Region.ready .any ops listed ∧ Val ops (listed.setIfInBounds i true) r

theorem any_val {ops : Array Oper} : ∀ (L : List Nat) (fuel : Nat) (listed : Array Bool) (a : Act) (w : World), wpAny P .any ops Q fuel listed a w → Val ops listed L → wpOps P ops Q L a w
  | [], 0, listed, a, w, h, _ => by simpa [wpOps] using h.2
  | [], fuel + 1, listed, a, w, h, hv => by simpa [wpOps] using h.1 hv
  | i :: r, 0, listed, a, w, h, hv => by have := hv.1; rw [h.1] at this; cases this
  | i :: r, fuel + 1, listed, a, w, h, hv => by
    rw [wpOps_cons]
    exact Go.wpOp_mono (fun a w hx => any_val r fuel _ a w hx hv.2) (h.2 i hv.1)

theorem lin_val {ops : Array Oper} : ∀ (fuel t : Nat) (listed : Array Bool), listed.size = ops.size → ((List.range ops.size).filter fun i => !listed.getD i false).length ≤ fuel → Val ops listed (Region.linearise.go .any ops fuel t listed []) := by
  intro fuel
  induction fuel with
  | zero =>
    intro t listed hsz hc
    show Region.ready .any ops listed = []
    rw [List.eq_nil_iff_forall_not_mem]
    intro i hi
    obtain ⟨h0, o, ho, _⟩ := mem_ready.1 hi
    have hlt := (Array.getElem?_eq_some_iff.1 ho).1
    have hSi : listed.getD i false = false := by
      simp only [Array.getD_eq_getD_getElem?] at h0 ⊢
      rw [Array.getElem?_eq_getElem (by omega)] at h0 ⊢
      exact h0
    have := List.length_pos_of_mem (List.mem_filter.2 ⟨List.mem_range.2 hlt, by rw [hSi]; rfl⟩ : i ∈ (List.range ops.size).filter fun i => !listed.getD i false)
    omega
  | succ fuel ih =>
    intro t listed hsz hc
    simp only [Region.linearise.go]
    change Val ops listed (match (Region.ready .any ops listed)[t % (Region.ready .any ops listed).length]? with
      | some i => Region.linearise.go .any ops fuel (t / (Region.ready .any ops listed).length) (listed.setIfInBounds i true) [i]
      | none => [].reverse)
    cases hi : (Region.ready .any ops listed)[t % (Region.ready .any ops listed).length]? with
    | none =>
      have hnil : Region.ready .any ops listed = [] := by
        cases hr : Region.ready .any ops listed with
        | nil => rfl
        | cons x xs =>
          rw [hr] at hi
          have hlt : t % (x :: xs).length < (x :: xs).length := Nat.mod_lt _ (by simp)
          simp at hi
          simp at hlt
          omega
      exact hnil
    | some i =>
      have hmem := List.mem_of_getElem? hi
      simp only []
      rw [linearise_go_acc, List.reverse_singleton, List.singleton_append]
      refine ⟨hmem, ih _ _ (by simp [hsz]) ?_⟩
      obtain ⟨h0, o, ho, _⟩ := mem_ready.1 hmem
      have hlt := (Array.getElem?_eq_some_iff.1 ho).1
      have hSi : listed.getD i false = false := by
        simp only [Array.getD_eq_getD_getElem?] at h0 ⊢
        rw [Array.getElem?_eq_getElem (by omega)] at h0 ⊢
        exact h0
      have hsub : ((List.range ops.size).filter fun k => !(listed.setIfInBounds i true).getD k false) = ((List.range ops.size).filter fun k => !listed.getD k false).filter fun k => !Nat.beq k i := by
        rw [List.filter_filter]
        congr 1
        funext k
        rw [getD_set h0, Bool.not_or, Bool.and_comm]
        congr 1
        cases hb : Nat.beq k i with
        | true => rw [decide_eq_true (Nat.eq_of_beq_eq_true hb)]
        | false => rw [decide_eq_false (fun e => by subst e; rw [Nat.beq_refl] at hb; cases hb)]
      rw [hsub]
      have hm2 : i ∈ (List.range ops.size).filter fun k => !listed.getD k false := List.mem_filter.2 ⟨List.mem_range.2 hlt, by rw [hSi]; rfl⟩
      have hlen : (((List.range ops.size).filter fun k => !listed.getD k false).filter fun k => !Nat.beq k i).length < ((List.range ops.size).filter fun k => !listed.getD k false).length :=
        List.length_filter_lt_length_iff_exists.2 ⟨i, hm2, by simp⟩
      omega

theorem val_met {i j : Nat} {ops : Array Oper} : ∀ (L : List Nat) (listed : Array Bool), listed.getD i false = true → Val ops listed L → Val (addL i j ops.toList).toArray listed L
  | [], listed, hl, h => by
    show Region.ready .any _ listed = []
    have h' : Region.ready .any ops listed = [] := h
    rw [List.eq_nil_iff_forall_not_mem] at h' ⊢
    exact fun k hk => h' k (way_ready.1 hk).1
  | k :: r, listed, hl, h => by
    refine ⟨way_ready.2 ⟨h.1, fun _ => hl⟩, val_met r _ ?_ h.2⟩
    rw [getD_set (mem_ready.1 h.1).1, hl]
    rfl

theorem val_split {i j : Nat} {ops : Array Oper} (hne : i ≠ j) : ∀ (L : List Nat) (listed : Array Bool), Val ops listed L → Val (addL i j ops.toList).toArray listed L ∨ Val (addL j i ops.toList).toArray listed L
  | [], listed, h => by
    left
    show Region.ready .any _ listed = []
    have h' : Region.ready .any ops listed = [] := h
    rw [List.eq_nil_iff_forall_not_mem] at h' ⊢
    exact fun k hk => h' k (way_ready.1 hk).1
  | k :: r, listed, h => by
    have hl := (mem_ready.1 h.1).1
    by_cases hkj : k = j
    · subst hkj
      right
      refine ⟨way_ready.2 ⟨h.1, fun e => absurd e.symm hne⟩, val_met r _ ?_ h.2⟩
      rw [getD_set hl]
      simp
    · by_cases hki : k = i
      · subst hki
        left
        refine ⟨way_ready.2 ⟨h.1, fun e => absurd e hkj⟩, val_met r _ ?_ h.2⟩
        rw [getD_set hl]
        simp
      · rcases val_split hne r _ h.2 with q | q
        · exact .inl ⟨way_ready.2 ⟨h.1, fun e => absurd e hkj⟩, q⟩
        · exact .inr ⟨way_ready.2 ⟨h.1, fun e => absurd e hki⟩, q⟩

theorem ops_same {i j : Nat} {ops : Array Oper} : ∀ (L : List Nat) (a : Act) (w : World), wpOps P (addL i j ops.toList).toArray Q L a w → wpOps P ops Q L a w
  | [], a, w, h => by simpa [wpOps] using h
  | k :: r, a, w, h => by
    rw [wpOps_cons] at h ⊢
    have h3 := (way_same i j ops).wpOp.1 h
    exact Go.wpOp_mono (fun a w hx => ops_same r a w hx) h3

/-- All orders are well. -/
def ValO (P : Program) (Q : Exit → Act → World → Prop) (ops : Array Oper) (a : Act) (w : World) : Prop := ∀ L, Val ops (Array.replicate ops.size false) L → wpOps P ops Q L a w
def AnyO (P : Program) (Q : Exit → Act → World → Prop) (ops : Array Oper) (a : Act) (w : World) : Prop := wpAny P .any ops Q ops.size (Array.replicate ops.size false) a w

theorem ValO.of_any {ops : Array Oper} {a : Act} {w : World} (h : AnyO P Q ops a w) : ValO P Q ops a w := fun L hv => any_val L _ _ a w h hv

theorem addL_size (i j : Nat) (ops : Array Oper) : (addL i j ops.toList).toArray.size = ops.size := by simp [addL_len]

theorem ValO.split {i j : Nat} {ops : Array Oper} {a : Act} {w : World} (hne : i ≠ j) (h1 : ValO P Q (addL i j ops.toList).toArray a w) (h2 : ValO P Q (addL j i ops.toList).toArray a w) : ValO P Q ops a w := fun L hv => by
  rcases val_split hne L _ hv with q | q
  · exact ops_same L a w (h1 L (by rw [addL_size]; exact q))
  · exact ops_same L a w (h2 L (by rw [addL_size]; exact q))

def swapO (p : Nat) (ops : Array Oper) : Array Oper := (swapL p (ops.toList.map (reE p))).toArray
theorem swapO_size (p : Nat) (ops : Array Oper) : (swapO p ops).size = ops.size := by simp [swapO, swapL_len]
theorem AnyO.swap {p : Nat} {ops : Array Oper} {a : Act} {w : World} (h : p + 1 < ops.size) (hx : AnyO P Q (swapO p ops) a w) : AnyO P Q ops a w := by
  have hf : ∀ n k : Nat, (Array.replicate n false).getD k false = false := fun n k => by
    simp only [Array.getD_eq_getD_getElem?, Array.getElem?_replicate]
    split <;> rfl
  unfold AnyO at hx
  rw [swapO_size] at hx
  exact swap_any h ops.size _ _ a w (by simp) (by simp) (fun k => by rw [hf, hf]) hx

/-- The operation at c + n moves to c. -/
def bubble : Nat → Nat → Array Oper → Array Oper
  | 0, _, ops => ops
  | n + 1, c, ops => bubble n c (swapO (c + n) ops)
theorem AnyO.bubble {c : Nat} {a : Act} {w : World} : ∀ {n : Nat} {ops : Array Oper}, c + n < ops.size → AnyO P Q (bubble n c ops) a w → AnyO P Q ops a w
  | 0, _, _, h => h
  | n + 1, ops, hlt, h => AnyO.swap (p := c + n) (by omega) (AnyO.bubble (n := n) (by rw [swapO_size]; omega) h)

/-- The places that the operation f may take among the calls of a chain: behind all of these first. -/
def floatW (f : Nat) : List Nat → Array Oper → List (Array Oper)
  | [], ops => [ops]
  | c :: cs, ops => floatW f cs (addL c f ops.toList).toArray ++ [bubble (f - c) c (addL f c ops.toList).toArray]

theorem float_any {f : Nat} {a : Act} {w : World} : ∀ {cs : List Nat} {ops : Array Oper}, f < ops.size → (cs.all fun c => Nat.blt c f) = true → (∀ o ∈ floatW f cs ops, AnyO P Q o a w) → ValO P Q ops a w
  | [], ops, _, _, h => .of_any (h ops (by simp [floatW]))
  | c :: cs, ops, hf, hc, h => by
    simp only [List.all_cons, Bool.and_eq_true, Nat.blt_eq] at hc
    refine ValO.split (i := f) (j := c) (by omega) ?_ ?_
    · refine .of_any (AnyO.bubble (c := c) (n := f - c) (by rw [addL_size]; omega) (h _ ?_))
      simp [floatW]
    · refine float_any (by rw [addL_size]; exact hf) hc.2 fun o ho => h o ?_
      simp [floatW, ho]

theorem any_cdraw {ops : Array Oper} {K0 Kc : Ctx} {slots : List (Nat × AVal)} {objs : Objs} {K : Loc → Objs → Prop} {a : Act} {w : World} (h : cdraw P nt ops slots objs K) (hK : K0.le Kc) (hs : Sat nt Kc ⟨slots, objs⟩ a w)
    (hQ : ∀ (ops' : Array Oper) (K' : Ctx) (rs : RSt) (a' : Act) (w' : World), K0.le K' → RSat nt ops' slots K' rs a' w' → K rs.loc rs.objs → Q .normal a' w') : AnyO P Q ops a { w with drawn := w.drawn + 1 } := by
  obtain ⟨_, hck, tr, ht, ho, hk⟩ := cdraw_draw h
  have hf : ∀ n k : Nat, (Array.replicate n false).getD k false = false := fun n k => by
    simp only [Array.getD_eq_getD_getElem?, Array.getElem?_replicate]
    split <;> rfl
  refine wpAny_trace (K0 := K0) ht hck (fun K' a w hl hr => hQ _ K' _ a w hl hr hk) ops.size _ a _ (by simp) (Nat.le_trans (List.length_filter_le _ _) (by simp)) ?_
  exact ⟨(fun i o e hi => by simp only [hf] at hi; cases hi), hs.size, Kc, 0, hK, hs.defers, Nat.zero_le _, (by rw [ho]; exact hs.mem.drawn _), (fun j _ => by simp only [hf]; simp), (fun j o d tg v _ _ hS => by simp only [hf] at hS; cases hS), fun t _ => hs.slot t⟩

/-- An entry is put in at a place. -/
def insAt {α : Type} : Nat → α → List α → List α
  | 0, x, l => x :: l
  | n + 1, x, y :: l => y :: insAt n x l
  | _ + 1, x, [] => [x]

def AllW (f : Array Oper → Prop) : List (Array Oper) → Prop
  | [] => True
  | [o] => f o
  | o :: r => f o ∧ AllW f r

theorem AllW.mem {f : Array Oper → Prop} : ∀ {l : List (Array Oper)}, AllW f l → ∀ o ∈ l, f o
  | [o], h, o', hm => by rw [List.mem_singleton.1 hm]; exact h
  | o :: o2 :: r, h, o', hm => by
    rcases List.mem_cons.1 hm with rfl | hm
    · exact h.1
    · exact AllW.mem h.2 o' hm

theorem findL_ins {x : Nat × Option Tag × AVal} : ∀ (m : Nat) (l : List (Nat × Option Tag × AVal)), UniqL (insAt m x l) → (∀ t, findL (insAt m x l) t = findL (x :: l) t) ∧ UniqL (x :: l)
  | 0, _, h => ⟨fun _ => rfl, h⟩
  | _ + 1, [], h => ⟨fun _ => rfl, h⟩
  | m + 1, (i, g, v) :: l, h => by
    obtain ⟨j, gj, vj⟩ := x
    obtain ⟨h1, h2⟩ : findL (insAt m (j, gj, vj) l) i = none ∧ UniqL (insAt m (j, gj, vj) l) := h
    obtain ⟨e, u⟩ := findL_ins m l h2
    obtain ⟨u1, u2⟩ : findL l j = none ∧ UniqL l := u
    rw [e i] at h1
    have hji : Nat.beq j i = false := by
      cases hb : Nat.beq j i with
      | false => rfl
      | true => simp only [findL, hb, cond_true] at h1; cases h1
    have hij : Nat.beq i j = false := by
      cases hb : Nat.beq i j with
      | false => rfl
      | true => rw [Nat.eq_of_beq_eq_true hb, Nat.beq_refl] at hji; cases hji
    have hi : findL l i = none := by simpa [findL, hji] using h1
    refine ⟨fun t => ?_, ?_⟩
    · show (bif Nat.beq i t then some (g, v) else findL (insAt m (j, gj, vj) l) t) = bif Nat.beq j t then some (gj, vj) else bif Nat.beq i t then some (g, v) else findL l t
      rw [e t]
      show (bif Nat.beq i t then some (g, v) else bif Nat.beq j t then some (gj, vj) else findL l t) = _
      cases hi' : Nat.beq i t with
      | false => rfl
      | true =>
        have := Nat.eq_of_beq_eq_true hi'
        subst this
        rw [hji]
        rfl
    · exact ⟨by show (bif Nat.beq i j then some (g, v) else findL l j) = none; rw [hij]; exact u1, hi, u2⟩

/-- A region that draws its order, walked with one operation at every place that it may take among the calls of a chain; all come to the same. -/
theorem draw_float (f : Nat) (cs : List Nat) {ops : Array Oper} {slots : List (Nat × AVal)} {objs : Objs} {K : Loc → Objs → Prop} (hck : (P.follows .mixedOrders && ((cs.all fun c => Nat.blt c f) && Nat.blt f ops.size)) = true)
    {x : Nat × Option Tag × AVal} {base : Loc} {o0 : Objs} (h : AllW (fun o => cdraw P nt o slots objs fun loc o' => (∃ m, loc = insAt m x base) ∧ o' = o0) (floatW f cs ops)) (hk : K (x :: base) o0) : DrawS P nt ops ⟨slots, objs⟩ K := by
  simp only [Bool.and_eq_true, Nat.blt_eq] at hck
  intro id K0 Kc a w Q hle hs hQ
  have hv : ValO P Q ops a { w with drawn := w.drawn + 1 } := by
    refine float_any (f := f) (cs := cs) hck.2.2 (by simpa [Nat.blt_eq] using hck.2.1) fun o ho => ?_
    refine any_cdraw (AllW.mem h o ho) hle hs ?_
    rintro ops' K' ⟨loc, G, ob⟩ a' w' hl hr ⟨⟨m, e⟩, e2⟩
    dsimp only at e e2
    subst e e2
    obtain ⟨q1, q2⟩ := findL_ins m base hr.uniq
    refine hQ ops' K' ⟨x :: base, G, ob⟩ a' w' hl ?_ hk
    exact ⟨hr.mem, fun t ht => hr.outer t ((q1 t).trans ht), fun t v ht => hr.plain t v ((q1 t).trans ht), fun t g v ht => hr.tagged t g v ((q1 t).trans ht), fun g b hg => by
      have := hr.guards g b hg
      simp only [q1] at this
      exact this, hr.size, hr.defers, q2⟩
  exact wp_region_draw fun t => by
    simp only [Region.schedule, hck.1, Bool.true_or, if_true]
    exact hv _ (lin_val ops.size t _ (by simp) (Nat.le_trans (List.length_filter_le _ _) (by simp)))

end
end Go.Fw

namespace Go.Fw
set_option linter.unusedSimpArgs false
set_option linter.unusedVariables false
open Go.RowKit

def hasB (m i : Nat) : Bool := Nat.beq (Nat.land (Nat.shiftRight m i) 1) 1
def subB (a b : Nat) : Bool := Nat.beq (Nat.land a b) a
def bitN (i : Nat) : Nat := Nat.shiftLeft 1 i

theorem hasB_iff (m i : Nat) : hasB m i = m.testBit i := by
  unfold hasB
  have h : Nat.land (Nat.shiftRight m i) 1 = (m.testBit i).toNat := by
    show (m >>> i) &&& 1 = _
    rw [Nat.and_one_is_mod, Nat.shiftRight_eq_div_pow, ← Nat.toNat_testBit]
  rw [h]
  cases m.testBit i <;> rfl

theorem subB_bit {a b k : Nat} (h : subB a b = true) (hk : a.testBit k = true) : b.testBit k = true := by
  have h : a &&& b = a := Nat.eq_of_beq_eq_true h
  rw [← h, Nat.testBit_and, Bool.and_eq_true] at hk
  exact hk.2

theorem bitN_iff (i k : Nat) : (bitN i).testBit k = decide (i = k) := by
  show (1 <<< i).testBit k = _
  rw [Nat.one_shiftLeft, Nat.testBit_two_pow]

theorem lor_iff (a b k : Nat) : (Nat.lor a b).testBit k = (a.testBit k || b.testBit k) := Nat.testBit_or a b k

def nthP : List (Nat × Nat) → Nat → Nat × Nat
  | [], _ => (0, 0)
  | p :: _, 0 => p
  | _ :: r, k + 1 => nthP r k

def edgeM (i : Nat) (rev : List (Nat × Nat)) : List Edge → Nat → Nat → Option (Nat × Nat)
  | [], m, a => some (m, a)
  | e :: r, m, a =>
    match Region.binds .any e with
    | true => (match Nat.blt e.on i with | true => edgeM i rev r (Nat.lor m (nthP rev (i - 1 - e.on)).1) (Nat.lor a (nthP rev (i - 1 - e.on)).2) | false => none)
    | false => edgeM i rev r m a

def tmpB : List Operand → Nat → Nat
  | [], s => s
  | x :: r, s => match x with | .tmp t => tmpB r (Nat.lor s (bitN t)) | _ => tmpB r s

def gdB (ops : Array Oper) : Option (Nat × Bool) → Nat
  | none => 0
  | some g => match ops[g.1]? with | some o => (match o.dst with | some d => bitN d | none => 0) | none => 0

def lookB (ops : Array Oper) (o : Oper) : Nat := tmpB o.op.operands.toList (gdB ops o.guard)

def consO {α : Type} (x : α) : Option (List α) → Option (List α)
  | some l => some (x :: l)
  | none => none

/-- Whoever looked at a slot comes ahead. -/
def chkL (d m : Nat) : Nat → List Nat → Bool
  | 0, _ => true
  | _ + 1, [] => false
  | i + 1, lk :: r => match hasB lk d with | true => hasB m i && chkL d m i r | false => chkL d m i r

/-- What must come ahead of each operation. -/
def stA (ops : Array Oper) : Nat → List Oper → List (Nat × Nat) → Nat → Nat → List Nat → Option (List (Oper × Nat))
  | _, [], _, _, _, _ => some []
  | i, o :: r, rev, D, L, lks =>
    match edgeM i rev o.after.toList 0 0 with
    | none => none
    | some (m, a) =>
      match subB (Nat.land (lookB ops o) D) a with
      | false => none
      | true =>
        match o.dst with
        | none => consO (o, m) (stA ops (i + 1) r ((Nat.lor m (bitN i), a) :: rev) D (Nat.lor L (lookB ops o)) (lookB ops o :: lks))
        | some d =>
          match hasB D d || (hasB L d && !chkL d m i lks) with
          | true => none
          | false => consO (o, m) (stA ops (i + 1) r ((Nat.lor m (bitN i), Nat.lor a (bitN d)) :: rev) (Nat.lor D (bitN d)) (Nat.lor L (lookB ops o)) (lookB ops o :: lks))

/-- 0: no memory; 1: writes; 2: a call; 3: reads. -/
def kindO (P : Program) (ow : Bool) (o : Oper) : Nat :=
  match o.op with
  | .alloc _ => 1
  | .box _ _ => 1
  | .store .. => 1
  | .makeSlice .. => 1
  | .mapUpdate .. => 1
  | .makeMap .. => 1
  | .range .. => 1
  | .next .. => 1
  | .load .. => 3
  | .lookup .. => 3
  | .mapEntry .. => 3
  | .entryStore .. => 1
  | .insert .. => 1
  | .entry .. => 3
  | .buildSlice .. => bif ow then 1 else 0
  | .convert s d _ => (match P.underlying s, P.underlying d with | some .string, some (.slice _) => 1 | some (.slice _), some .string => 3 | _, _ => 0)
  | .call c => (match c.callee with | .builtin b => (match b with | .append => 1 | .copy => 1 | .clear => 1 | .delete => 1 | _ => 0) | _ => 2)
  | _ => 0

def xAll (P : Program) (ow : Bool) (i : Nat) : List (Oper × Nat) → Bool
  | [] => true
  | (o, m) :: r => match kindO P ow o with | 0 => xAll P ow i r | 3 => xAll P ow i r | _ => hasB m i && xAll P ow i r

/-- Which calls are ordered against all that writes. -/
def stE (P : Program) (ow : Bool) : Nat → Nat → List (Oper × Nat) → List (Oper × Nat × Nat × Bool)
  | _, _, [] => []
  | i, X, (o, m) :: r =>
    match kindO P ow o with
    | 1 => (o, m, 1, true) :: stE P ow (i + 1) (Nat.lor X (bitN i)) r
    | 2 => (o, m, 2, subB X m && xAll P ow i r) :: stE P ow (i + 1) (Nat.lor X (bitN i)) r
    | k => (o, m, k, false) :: stE P ow (i + 1) X r

inductive DrK where
  | pure
  | eff
  | fix
  | flo (lo hi : Nat)

def isEffK : DrK → Bool
  | .eff => true
  | _ => false

def nextE (i : Nat) : List (Oper × Nat × Nat × Bool) → Nat → Nat
  | [], j => j
  | (_, m, _, e) :: r, j => match e && hasB m i with | true => j | false => nextE i r (j + 1)

def firstE (i : Nat) : List (Oper × Nat × Nat × Bool) → Bool
  | [] => true
  | (_, m, _, e) :: r => match e with | true => hasB m i | false => firstE i r

def loOf (x : Nat) : Nat := match hasB x (Nat.log2 x) with | true => Nat.log2 x + 1 | false => 0

def stC (P : Program) (ow : Bool) : Nat → Nat → List (Oper × Nat × Nat × Bool) → Option (List (Oper × DrK))
  | _, _, [] => some []
  | i, E, (o, m, k, e) :: r =>
    match e with
    | true => (match subB E m with | true => consO (o, .eff) (stC P ow (i + 1) (Nat.lor E (bitN i)) r) | false => none)
    | false =>
      match k with
      | 0 => consO (o, .pure) (stC P ow (i + 1) E r)
      | _ + 1 => (match subB E m && firstE i r with
        | true => consO (o, .fix) (stC P ow (i + 1) E r)
        | false => consO (o, .flo (loOf (Nat.land m E)) (nextE i r (i + 1))) (stC P ow (i + 1) E r))

def statD (P : Program) (ow : Bool) (ops : Array Oper) : Option (List (Oper × DrK)) :=
  match stA ops 0 ops.toList [] 0 0 [] with
  | some l => stC P ow 0 0 (stE P ow 0 0 l)
  | none => none

/-! ### What the checks say -/

/-- One comes ahead of the other, in every order. -/
def Must (ops : Array Oper) (i j : Nat) : Prop := ∀ S : Nat → Bool, Closed ops S → S i = true → S j = true

theorem Must.refl (ops : Array Oper) (i : Nat) : Must ops i i := fun _ _ h => h
theorem Must.trans {ops : Array Oper} {i j k : Nat} (h1 : Must ops i j) (h2 : Must ops j k) : Must ops i k := fun S hS h => h2 S hS (h1 S hS h)

section
variable {ops : Array Oper}

theorem must_edge {i : Nat} {o : Oper} {e : Edge} (ho : ops[i]? = some o) (he : e ∈ o.after) (hb : Region.binds .any e = true) : Must ops i e.on := fun S hS h => hS i o e h ho he hb

/-- What is kept of the operations ahead. -/
structure RevOK (ops : Array Oper) (i : Nat) (rev : List (Nat × Nat)) : Prop where
  len : rev.length = i
  mask : ∀ k, k < i → ∀ b, (nthP rev k).1.testBit b = true → Must ops (i - 1 - k) b
  avail : ∀ k, k < i → ∀ t, (nthP rev k).2.testBit t = true → ∃ b o, b < i ∧ ops[b]? = some o ∧ o.dst = some t ∧ Must ops (i - 1 - k) b

theorem edgeM_ok {i : Nat} {o : Oper} (ho : ops[i]? = some o) {rev : List (Nat × Nat)} (hr : RevOK ops i rev) : ∀ (es : List Edge) (m a m' a' : Nat), (∀ e ∈ es, e ∈ o.after) →
    (∀ b, m.testBit b = true → Must ops i b) → (∀ t, a.testBit t = true → ∃ b o', b < i ∧ ops[b]? = some o' ∧ o'.dst = some t ∧ Must ops i b) → edgeM i rev es m a = some (m', a') →
    (∀ b, m'.testBit b = true → Must ops i b) ∧ (∀ t, a'.testBit t = true → ∃ b o', b < i ∧ ops[b]? = some o' ∧ o'.dst = some t ∧ Must ops i b) ∧ ∀ e ∈ es, Region.binds .any e = true → e.on < i
  | [], m, a, m', a', _, hm, ha, h => by
    simp only [edgeM, Option.some.injEq, Prod.mk.injEq] at h
    obtain ⟨rfl, rfl⟩ := h
    exact ⟨hm, ha, fun e he => by simp at he⟩
  | e :: r, m, a, m', a', he, hm, ha, h => by
    unfold edgeM at h
    split at h
    · rename_i hb
      split at h
      · rename_i hlt
        have hlt : e.on < i := by simpa using hlt
        have hmu := must_edge ho (he e (by simp)) hb
        have hk : i - 1 - (i - 1 - e.on) = e.on := by omega
        obtain ⟨q1, q2, q3⟩ := edgeM_ok ho hr r _ _ m' a' (fun e' he' => he e' (by simp [he'])) (fun b hb' => by
          rw [lor_iff, Bool.or_eq_true] at hb'
          rcases hb' with h | h
          · exact hm b h
          · have := hr.mask (i - 1 - e.on) (by omega) b h
            rw [hk] at this
            exact hmu.trans this) (fun t ht => by
          rw [lor_iff, Bool.or_eq_true] at ht
          rcases ht with h | h
          · exact ha t h
          · obtain ⟨b, o', q1, q2, q3, q4⟩ := hr.avail (i - 1 - e.on) (by omega) t h
            rw [hk] at q4
            exact ⟨b, o', q1, q2, q3, hmu.trans q4⟩) h
        refine ⟨q1, q2, fun e' he' hb' => ?_⟩
        rcases List.mem_cons.1 he' with rfl | he'
        · exact hlt
        · exact q3 e' he' hb'
      · cases h
    · rename_i hb
      obtain ⟨q1, q2, q3⟩ := edgeM_ok ho hr r _ _ m' a' (fun e' he' => he e' (by simp [he'])) hm ha h
      refine ⟨q1, q2, fun e' he' hb' => ?_⟩
      rcases List.mem_cons.1 he' with rfl | he'
      · rw [hb] at hb'; cases hb'
      · exact q3 e' he' hb'

theorem tmpB_up : ∀ (l : List Operand) (s t : Nat), s.testBit t = true → (tmpB l s).testBit t = true
  | [], s, t, h => h
  | x :: r, s, t, h => by
    unfold tmpB
    split
    · exact tmpB_up r _ t (by rw [lor_iff, h]; rfl)
    · exact tmpB_up r _ t h

theorem tmpB_mem : ∀ (l : List Operand) (s t : Nat), Operand.tmp t ∈ l → (tmpB l s).testBit t = true
  | x :: r, s, t, h => by
    unfold tmpB
    rcases List.mem_cons.1 h with rfl | h'
    · exact tmpB_up r _ t (by rw [lor_iff, bitN_iff]; simp)
    · split
      · exact tmpB_mem r _ t h'
      · exact tmpB_mem r _ t h'

theorem lookB_op {o : Oper} {t : Nat} (h : Operand.tmp t ∈ o.op.operands) : (lookB ops o).testBit t = true := tmpB_mem _ _ t (Array.mem_toList_iff.2 h)

theorem lookB_gd {o o' : Oper} {g : Nat × Bool} {t : Nat} (hg : o.guard = some g) (ho : ops[g.1]? = some o') (hd : o'.dst = some t) : (lookB ops o).testBit t = true := by
  refine tmpB_up _ _ t ?_
  simp only [gdB, hg, ho, hd, bitN_iff, decide_true]

/-- Two operations that one of them looks at, or that write. -/
def PairOK (ops : Array Oper) (i j : Nat) : Prop := ∀ o o', ops[i]? = some o → ops[j]? = some o' → i ≠ j → (∀ d, o.dst = some d → o'.dst ≠ some d) ∧ ∀ t, (lookB ops o).testBit t = true → o'.dst = some t → (j < i ∧ Must ops i j) ∨ (i < j ∧ Must ops j i)

theorem chkL_ok {d m : Nat} : ∀ (i : Nat) (lks : List Nat) (f : Nat → Nat), (∀ j, j < i → lks[i - 1 - j]? = some (f j)) → chkL d m i lks = true → ∀ j, j < i → (f j).testBit d = true → m.testBit j = true
  | i + 1, [], f, h, hc, j, hj, hb => by simp [chkL] at hc
  | i + 1, lk :: r, f, h, hc, j, hj, hb => by
    have h0 : lk = f i := by
      have := h i (by omega)
      have e : i + 1 - 1 - i = 0 := by omega
      rw [e] at this
      simpa using this
    have hr : ∀ j, j < i → r[i - 1 - j]? = some (f j) := fun j hj => by
      have := h j (by omega)
      have e : i + 1 - 1 - j = (i - 1 - j) + 1 := by omega
      rw [e, List.getElem?_cons_succ] at this
      exact this
    unfold chkL at hc
    split at hc
    · rename_i hl
      rw [Bool.and_eq_true] at hc
      rcases Nat.lt_or_ge j i with h' | h'
      · exact chkL_ok i r f hr hc.2 j h' hb
      · have : j = i := by omega
        subst this
        rw [← hasB_iff]; exact hc.1
    · rename_i hl
      rcases Nat.lt_or_ge j i with h' | h'
      · exact chkL_ok i r f hr hc j h' hb
      · have : j = i := by omega
        subst this
        rw [hasB_iff, h0, hb] at hl; cases hl

theorem stA_ok : ∀ (r : List Oper) (i : Nat) (rev : List (Nat × Nat)) (D L : Nat) (lks : List Nat) (l : List (Oper × Nat)), ops.toList.drop i = r → i ≤ ops.size → RevOK ops i rev →
    (∀ j o d, j < i → ops[j]? = some o → o.dst = some d → D.testBit d = true) → (∀ j o t, j < i → ops[j]? = some o → (lookB ops o).testBit t = true → L.testBit t = true) → (∀ j o, j < i → ops[j]? = some o → lks[i - 1 - j]? = some (lookB ops o)) → (∀ j k, j < i → k < i → PairOK ops j k) →
    stA ops i r rev D L lks = some l → (∀ j k, j < ops.size → k < ops.size → PairOK ops j k) ∧ l.length = r.length ∧ ∀ k o m, l[k]? = some (o, m) → ops[i + k]? = some o ∧ (∀ b, m.testBit b = true → Must ops (i + k) b) ∧ ∀ e ∈ o.after, Region.binds .any e = true → e.on < i + k
  | [], i, rev, D, L, lks, l, hd, hi, hr, hD, hL, hK, hp, h => by
    simp only [stA, Option.some.injEq] at h
    subst h
    have : ops.size ≤ i := by simpa using List.drop_eq_nil_iff.1 hd
    have e : i = ops.size := by omega
    subst e
    exact ⟨hp, rfl, fun k o m hk => by simp at hk⟩
  | o :: r, i, rev, D, L, lks, l, hd, hi, hr, hD, hL, hK, hp, h => by
    have hlt : i < ops.toList.length := by
      rcases Nat.lt_or_ge i ops.toList.length with h' | h'
      · exact h'
      · rw [List.drop_eq_nil_of_le h'] at hd; cases hd
    have hcons := List.drop_eq_getElem_cons hlt
    rw [hd] at hcons
    simp only [List.cons.injEq] at hcons
    obtain ⟨ho, hd'⟩ := hcons
    have ho' : ops[i]? = some o := by rw [ho]; simp
    have hsz : i < ops.size := by simpa using hlt
    unfold stA at h
    have hed := fun m' a' => edgeM_ok ho' hr o.after.toList 0 0 m' a' (fun e he => Array.mem_toList_iff.1 he) (fun b hb => by simp at hb) (fun t ht => by simp at ht)
    generalize edgeM i rev o.after.toList 0 0 = q at h hed
    cases q with
    | none => cases h
    | some q =>
    obtain ⟨m, a⟩ := q
    obtain ⟨hm, ha, hsc⟩ := hed m a rfl
    have hsc : ∀ e ∈ o.after, Region.binds .any e = true → e.on < i := fun e he => hsc e (Array.mem_toList_iff.2 he)
    simp only at h
    split at h
    · cases h
    · rename_i hsub
      -- what it looks at
      have look : ∀ j o' t, j < i → ops[j]? = some o' → (lookB ops o).testBit t = true → o'.dst = some t → Must ops i j := by
        intro j o' t hj hoj ht hdj
        have : (Nat.land (lookB ops o) D).testBit t = true := by
          show ((lookB ops o) &&& D).testBit t = true
          rw [Nat.testBit_and, ht, hD j o' t hj hoj hdj]; rfl
        obtain ⟨b, o2, q1, q2, q3, q4⟩ := ha t (subB_bit hsub this)
        by_cases hbj : b = j
        · subst hbj; exact q4
        · exact absurd hdj (((hp b j q1 hj) o2 o' q2 hoj hbj).1 t q3)
      have rv : ∀ (a' : Nat), (∀ t, a'.testBit t = true → a.testBit t = true ∨ o.dst = some t) → RevOK ops (i + 1) ((Nat.lor m (bitN i), a') :: rev) := by
        intro a' ha'
        refine ⟨by simp [hr.len], fun k hk b hb => ?_, fun k hk t ht => ?_⟩
        · cases k with
          | zero =>
            simp only [nthP, lor_iff, bitN_iff, Bool.or_eq_true, decide_eq_true_eq] at hb
            have e : i + 1 - 1 - 0 = i := by omega
            rw [e]
            rcases hb with hb | rfl
            · exact hm b hb
            · exact .refl _ _
          | succ k =>
            have := hr.mask k (by omega) b hb
            have e : i + 1 - 1 - (k + 1) = i - 1 - k := by omega
            rw [e]
            exact this
        · cases k with
          | zero =>
            have e : i + 1 - 1 - 0 = i := by omega
            rw [e]
            rcases ha' t ht with h | h
            · obtain ⟨b, o2, q1, q2, q3, q4⟩ := ha t h
              exact ⟨b, o2, by omega, q2, q3, q4⟩
            · exact ⟨i, o, by omega, ho', h, .refl _ _⟩
          | succ k =>
            obtain ⟨b, o2, q1, q2, q3, q4⟩ := hr.avail k (by omega) t ht
            have e : i + 1 - 1 - (k + 1) = i - 1 - k := by omega
            rw [e]
            exact ⟨b, o2, by omega, q2, q3, q4⟩
      have hL' : ∀ j o' t, j < i + 1 → ops[j]? = some o' → (lookB ops o').testBit t = true → (Nat.lor L (lookB ops o)).testBit t = true := by
        intro j o' t hj hoj ht
        rw [lor_iff, Bool.or_eq_true]
        rcases Nat.lt_or_ge j i with h' | h'
        · exact .inl (hL j o' t h' hoj ht)
        · have : j = i := by omega
          subst this
          rw [ho'] at hoj
          simp only [Option.some.injEq] at hoj
          subst hoj
          exact .inr ht
      have hK' : ∀ j o', j < i + 1 → ops[j]? = some o' → (lookB ops o :: lks)[i + 1 - 1 - j]? = some (lookB ops o') := by
        intro j o' hj hoj
        rcases Nat.lt_or_ge j i with h' | h'
        · have e : i + 1 - 1 - j = (i - 1 - j) + 1 := by omega
          rw [e, List.getElem?_cons_succ]
          exact hK j o' h' hoj
        · have : j = i := by omega
          subst this
          rw [ho'] at hoj
          simp only [Option.some.injEq] at hoj
          subst hoj
          have e : j + 1 - 1 - j = 0 := by omega
          rw [e]; rfl
      have fin : ∀ {lr : Option (List (Oper × Nat))} {l1 : List (Oper × Nat)}, consO (o, m) lr = some l1 → (∀ l2, lr = some l2 → (∀ j k, j < ops.size → k < ops.size → PairOK ops j k) ∧ l2.length = r.length ∧ ∀ k o m, l2[k]? = some (o, m) → ops[i + 1 + k]? = some o ∧ (∀ b, m.testBit b = true → Must ops (i + 1 + k) b) ∧ ∀ e ∈ o.after, Region.binds .any e = true → e.on < i + 1 + k) →
          (∀ j k, j < ops.size → k < ops.size → PairOK ops j k) ∧ l1.length = (o :: r).length ∧ ∀ k o m, l1[k]? = some (o, m) → ops[i + k]? = some o ∧ (∀ b, m.testBit b = true → Must ops (i + k) b) ∧ ∀ e ∈ o.after, Region.binds .any e = true → e.on < i + k := by
        intro lr l1 h1 h2
        cases lr with
        | none => cases h1
        | some l2 =>
          simp only [consO, Option.some.injEq] at h1
          subst h1
          obtain ⟨q1, q2, q3⟩ := h2 l2 rfl
          refine ⟨q1, by simp [q2], fun k o2 m2 hk => ?_⟩
          cases k with
          | zero =>
            simp only [List.getElem?_cons_zero, Option.some.injEq, Prod.mk.injEq] at hk
            obtain ⟨rfl, rfl⟩ := hk
            exact ⟨ho', hm, hsc⟩
          | succ k =>
            simp only [List.getElem?_cons_succ] at hk
            have := q3 k o2 m2 hk
            have e : i + 1 + k = i + (k + 1) := by omega
            rw [e] at this
            exact this
      split at h
      · rename_i hdst
        refine fin h fun l2 hl2 => stA_ok r (i + 1) _ D _ _ l2 hd'.symm (by omega) (rv a fun t ht => .inl ht) (fun j o' d hj hoj hdj => ?_) hL' hK' (fun j k hj hk => ?_) hl2
        · rcases Nat.lt_or_ge j i with h' | h'
          · exact hD j o' d h' hoj hdj
          · have : j = i := by omega
            subst this
            rw [ho'] at hoj; simp only [Option.some.injEq] at hoj; subst hoj
            rw [hdst] at hdj; cases hdj
        · rcases Nat.lt_or_ge j i with h1 | h1
          · rcases Nat.lt_or_ge k i with h2 | h2
            · exact hp j k h1 h2
            · have : k = i := by omega
              subst this
              intro o1 o2 e1 e2 hne
              rw [ho'] at e2; simp only [Option.some.injEq] at e2; subst e2
              exact ⟨fun d _ hh => (by rw [hdst] at hh; cases hh), fun t _ hh => (by rw [hdst] at hh; cases hh)⟩
          · have : j = i := by omega
            subst this
            intro o1 o2 e1 e2 hne
            rw [ho'] at e1; simp only [Option.some.injEq] at e1; subst e1
            have hk : k < j := by omega
            exact ⟨fun d hh => (by rw [hdst] at hh; cases hh), fun t ht hh => .inl ⟨hk, look k o2 t hk e2 ht hh⟩⟩
      · rename_i d hdst
        split at h
        · cases h
        · rename_i hno
          rw [Bool.or_eq_false_iff, hasB_iff] at hno
          have hlk : ∀ j o1, j < i → ops[j]? = some o1 → (lookB ops o1).testBit d = true → Must ops i j := by
            intro j o1 hj hoj ht
            have hLb := hL j o1 d hj hoj ht
            have h2 := hno.2
            rw [hasB_iff, hLb, Bool.true_and, Bool.not_eq_false'] at h2
            refine hm j (chkL_ok i lks (fun q => match ops[q]? with | some o => lookB ops o | none => 0) (fun q hq => ?_) h2 j hj (by simp only [hoj]; exact ht))
            obtain ⟨oq, hoq⟩ : ∃ oq, ops[q]? = some oq := ⟨_, Array.getElem?_eq_getElem (by omega)⟩
            rw [hK q oq hq hoq]
            simp only [hoq]
          refine fin h fun l2 hl2 => stA_ok r (i + 1) _ _ _ _ l2 hd'.symm (by omega) (rv _ fun t ht => ?_) (fun j o' d' hj hoj hdj => ?_) hL' hK' (fun j k hj hk => ?_) hl2
          · rw [lor_iff, bitN_iff, Bool.or_eq_true, decide_eq_true_eq] at ht
            rcases ht with h | rfl
            · exact .inl h
            · exact .inr hdst
          · rw [lor_iff, bitN_iff, Bool.or_eq_true, decide_eq_true_eq]
            rcases Nat.lt_or_ge j i with h' | h'
            · exact .inl (hD j o' d' h' hoj hdj)
            · have : j = i := by omega
              subst this
              rw [ho'] at hoj; simp only [Option.some.injEq] at hoj; subst hoj
              rw [hdst] at hdj
              exact .inr (Option.some.inj hdj)
          · rcases Nat.lt_or_ge j i with h1 | h1
            · rcases Nat.lt_or_ge k i with h2 | h2
              · exact hp j k h1 h2
              · have : k = i := by omega
                subst this
                intro o1 o2 e1 e2 hne
                rw [ho'] at e2; simp only [Option.some.injEq] at e2; subst e2
                refine ⟨fun d' hh hh2 => ?_, fun t ht hh => ?_⟩
                · rw [hdst] at hh2; simp only [Option.some.injEq] at hh2; subst hh2
                  have := hD j o1 d h1 e1 hh
                  rw [hno.1] at this; cases this
                · rw [hdst] at hh; simp only [Option.some.injEq] at hh; subst hh
                  exact .inr ⟨h1, hlk j o1 h1 e1 ht⟩
            · have : j = i := by omega
              subst this
              intro o1 o2 e1 e2 hne
              rw [ho'] at e1; simp only [Option.some.injEq] at e1; subst e1
              have hk : k < j := by omega
              refine ⟨fun d' hh hh2 => ?_, fun t ht hh => .inl ⟨hk, look k o2 t hk e2 ht hh⟩⟩
              rw [hdst] at hh; simp only [Option.some.injEq] at hh; subst hh
              have := hD k o2 d hk e2 hh2
              rw [hno.1] at this; cases this

/-- Changes memory, as far as the checks know. -/
def isEff (l : List (Oper × DrK)) (i : Nat) : Prop := ∃ o, l[i]? = some (o, DrK.eff)

theorem stE_get {P : Program} {ow : Bool} : ∀ (l : List (Oper × Nat)) (i X k : Nat) (o : Oper) (m kd : Nat) (e : Bool), (stE P ow i X l)[k]? = some (o, m, kd, e) → l[k]? = some (o, m) ∧ (kd = 0 → kindO P ow o = 0)
  | [], i, X, k, o, m, kd, e, h => by simp [stE] at h
  | (o0, m0) :: r, i, X, k, o, m, kd, e, h => by
    unfold stE at h
    cases k with
    | zero =>
      split at h
      · simp only [List.getElem?_cons_zero, Option.some.injEq, Prod.mk.injEq] at h ⊢
        obtain ⟨rfl, rfl, rfl, rfl⟩ := h
        exact ⟨⟨rfl, rfl⟩, fun h => by cases h⟩
      · simp only [List.getElem?_cons_zero, Option.some.injEq, Prod.mk.injEq] at h ⊢
        obtain ⟨rfl, rfl, rfl, rfl⟩ := h
        exact ⟨⟨rfl, rfl⟩, fun h => by cases h⟩
      · simp only [List.getElem?_cons_zero, Option.some.injEq, Prod.mk.injEq] at h ⊢
        obtain ⟨rfl, rfl, rfl, rfl⟩ := h
        exact ⟨⟨rfl, rfl⟩, fun h => h⟩
    | succ k =>
      split at h
      all_goals (simp only [List.getElem?_cons_succ] at h ⊢; exact stE_get r _ _ k o m kd e h)

theorem stE_len {P : Program} {ow : Bool} : ∀ (l : List (Oper × Nat)) (i X : Nat), (stE P ow i X l).length = l.length
  | [], i, X => rfl
  | (o0, m0) :: r, i, X => by
    unfold stE
    split
    all_goals (simp only [List.length_cons, stE_len r])

theorem loOf_ok (x : Nat) : loOf x = 0 ∨ 0 < loOf x ∧ x.testBit (loOf x - 1) = true := by
  unfold loOf
  split
  · rename_i h
    rw [hasB_iff] at h
    exact .inr ⟨Nat.succ_pos _, h⟩
  · exact .inl rfl

theorem nextE_ok (i : Nat) : ∀ (l : List (Oper × Nat × Nat × Bool)) (j : Nat), j + l.length ≤ nextE i l j ∨ ∃ (k : Nat) (o : Oper) (m kd : Nat), l[k]? = some (o, m, kd, true) ∧ nextE i l j = j + k ∧ m.testBit i = true
  | [], j => .inl (by simp [nextE])
  | (o, m, kd, e) :: r, j => by
    unfold nextE
    split
    · rename_i h
      rw [Bool.and_eq_true, hasB_iff] at h
      obtain ⟨rfl, h⟩ := h
      exact .inr ⟨0, o, m, kd, rfl, rfl, h⟩
    · rcases nextE_ok i r (j + 1) with h | ⟨k, o', m', kd', h1, h2, h3⟩
      · exact .inl (by simp only [List.length_cons]; omega)
      · exact .inr ⟨k + 1, o', m', kd', by simpa using h1, by omega, h3⟩

theorem firstE_ok (i : Nat) : ∀ (l : List (Oper × Nat × Nat × Bool)), firstE i l = true → (∀ (k : Nat) (o : Oper) (m kd : Nat), l[k]? ≠ some (o, m, kd, true)) ∨ ∃ (k : Nat) (o : Oper) (m kd : Nat), l[k]? = some (o, m, kd, true) ∧ m.testBit i = true ∧ ∀ (k' : Nat) (o : Oper) (m kd : Nat), k' < k → l[k']? ≠ some (o, m, kd, true)
  | [], _ => .inl fun k o m kd => by simp
  | (o, m, kd, e) :: r, h => by
    unfold firstE at h
    split at h
    · rw [hasB_iff] at h
      exact .inr ⟨0, o, m, kd, rfl, h, fun k' _ _ _ hk => absurd hk (by omega)⟩
    · rcases firstE_ok i r h with h | ⟨k, o', m', kd', h1, h2, h3⟩
      · refine .inl fun k o' m' kd' => ?_
        cases k with
        | zero => simp
        | succ k => simpa using h k o' m' kd'
      · refine .inr ⟨k + 1, o', m', kd', by simpa using h1, h2, fun k' o2 m2 kd2 hk => ?_⟩
        cases k' with
        | zero => simp
        | succ k' => simpa using h3 k' o2 m2 kd2 (by omega)

/-- What stC makes of its entries. -/
def StCOK (ops : Array Oper) (P : Program) (ow : Bool) (n : Nat) (r : List (Oper × Nat × Nat × Bool)) (i E : Nat) (l : List (Oper × DrK)) : Prop :=
    l.length = r.length ∧ (∀ (k : Nat) (o : Oper) (dk : DrK), l[k]? = some (o, dk) → ∃ (m kd : Nat) (e : Bool), r[k]? = some (o, m, kd, e)) ∧ (∀ k : Nat, (∃ (o : Oper) (m kd : Nat), r[k]? = some (o, m, kd, true)) ↔ isEff l k) ∧
    (∀ k b : Nat, isEff l k → (E.testBit b = true ∨ ∃ k', k' < k ∧ isEff l k' ∧ b = i + k') → Must ops (i + k) b) ∧
    (∀ (k : Nat) (o : Oper), l[k]? = some (o, DrK.fix) → (∀ b : Nat, (E.testBit b = true ∨ ∃ k', k' < k ∧ isEff l k' ∧ b = i + k') → Must ops (i + k) b) ∧ ∀ k', k < k' → isEff l k' → Must ops (i + k') (i + k)) ∧
    (∀ (k : Nat) (o : Oper), l[k]? = some (o, DrK.pure) → kindO P ow o = 0) ∧
    (∀ (k : Nat) (o : Oper) (lo hi : Nat), l[k]? = some (o, DrK.flo lo hi) → (lo = 0 ∨ 0 < lo ∧ (E.testBit (lo - 1) = true ∨ ∃ k', k' < k ∧ isEff l k' ∧ lo - 1 = i + k') ∧ Must ops (i + k) (lo - 1)) ∧ (n ≤ hi ∨ ∃ k', isEff l k' ∧ hi = i + k' ∧ Must ops hi (i + k)))

theorem stC_ok {P : Program} {ow : Bool} {n : Nat} : ∀ (r : List (Oper × Nat × Nat × Bool)) (i E : Nat) (l : List (Oper × DrK)), i + r.length = n → (∀ (k : Nat) (o : Oper) (m kd : Nat) (e : Bool) (b : Nat), r[k]? = some (o, m, kd, e) → m.testBit b = true → Must ops (i + k) b) → (∀ (k : Nat) (o : Oper) (m : Nat) (e : Bool), r[k]? = some (o, m, 0, e) → kindO P ow o = 0) →
    stC P ow i E r = some l → StCOK ops P ow n r i E l
  | [], i, E, l, hn, hm, hp, h => by
    simp only [stC, Option.some.injEq] at h
    subst h
    exact ⟨rfl, fun k o dk h => by simp at h, fun k => ⟨fun ⟨o, m, kd, h⟩ => by simp at h, fun ⟨o, h⟩ => by simp at h⟩, fun k b ⟨o, h⟩ => by simp at h, fun k o h => by simp at h, fun k o h => by simp at h, fun k o lo hi h => by simp at h⟩
  | (o, m, kd, e) :: r, i, E, l, hn, hm, hp, h => by
    have hmr : ∀ (k : Nat) (o : Oper) (m kd : Nat) (e : Bool) (b : Nat), r[k]? = some (o, m, kd, e) → m.testBit b = true → Must ops (i + 1 + k) b := fun k o m kd e b hk hb => by
      have := hm (k + 1) o m kd e b (by simpa using hk) hb
      have e : i + (k + 1) = i + 1 + k := by omega
      rw [e] at this
      exact this
    have hm0 : ∀ b, m.testBit b = true → Must ops i b := fun b hb => hm 0 o m kd e b rfl hb
    have hpr : ∀ (k : Nat) (o : Oper) (m : Nat) (e : Bool), r[k]? = some (o, m, 0, e) → kindO P ow o = 0 := fun k o m e hk => hp (k + 1) o m e (by simpa using hk)
    have sub : ∀ {x : Oper × DrK} {E' : Nat} {lr : Option (List (Oper × DrK))}, consO x lr = some l → ∃ l2, lr = some l2 ∧ l = x :: l2 := by
      intro x E' lr h1
      cases lr with
      | none => cases h1
      | some l2 => simp only [consO, Option.some.injEq] at h1; exact ⟨l2, rfl, h1.symm⟩
    have eS : ∀ {x : Oper × DrK} {l2 : List (Oper × DrK)} {k : Nat}, isEff (x :: l2) (k + 1) ↔ isEff l2 k := fun {x l2 k} => by simp [isEff]
    have eidx : ∀ k, i + (k + 1) = i + 1 + k := fun k => by omega
    have e0 : ∀ {x : Oper × DrK} {l2 : List (Oper × DrK)}, isEff (x :: l2) 0 ↔ x.2 = .eff := fun {x l2} => by
      obtain ⟨x1, x2⟩ := x
      simp [isEff]
    -- the bits ahead, from one entry to the next
    have bits : ∀ {x : Oper × DrK} {l2 : List (Oper × DrK)} {E' : Nat} {k b : Nat}, (∀ b, E.testBit b = true → E'.testBit b = true) → (x.2 = .eff → E'.testBit i = true) → (E.testBit b = true ∨ ∃ k', k' < k + 1 ∧ isEff (x :: l2) k' ∧ b = i + k') → (E'.testBit b = true ∨ ∃ k', k' < k ∧ isEff l2 k' ∧ b = i + 1 + k') := by
      intro x l2 E' k b hE1 hE2 h
      rcases h with h | ⟨k', hk, he, rfl⟩
      · exact .inl (hE1 b h)
      · cases k' with
        | zero => exact .inl (hE2 (e0.1 he))
        | succ k' => exact .inr ⟨k', by omega, eS.1 he, by omega⟩
    have back : ∀ {x : Oper × DrK} {l2 : List (Oper × DrK)} {E' : Nat} {k b : Nat}, (∀ b, E'.testBit b = true → E.testBit b = true ∨ x.2 = .eff ∧ b = i) → (E'.testBit b = true ∨ ∃ k', k' < k ∧ isEff l2 k' ∧ b = i + 1 + k') → (E.testBit b = true ∨ ∃ k', k' < k + 1 ∧ isEff (x :: l2) k' ∧ b = i + k') := by
      intro x l2 E' k b hE h
      rcases h with h | ⟨k', hk, he, rfl⟩
      · rcases hE b h with h | ⟨hx, hbi⟩
        · exact .inl h
        · exact .inr ⟨0, by omega, e0.2 hx, hbi⟩
      · exact .inr ⟨k' + 1, by omega, eS.2 he, by omega⟩
    have main : ∀ (dk : DrK) (E' : Nat) (l2 : List (Oper × DrK)), l = (o, dk) :: l2 → stC P ow (i + 1) E' r = some l2 → (∀ b, E.testBit b = true → E'.testBit b = true) → (dk = .eff → E'.testBit i = true) → (∀ b, E'.testBit b = true → E.testBit b = true ∨ dk = .eff ∧ b = i) → (e = true ↔ dk = .eff) →
        (dk = .eff → ∀ b, E.testBit b = true → Must ops i b) → (dk = .fix → ∀ b, E.testBit b = true → Must ops i b) → (dk = .fix → firstE i r = true) → (dk = .pure → kindO P ow o = 0) → (∀ lo hi, dk = .flo lo hi → lo = loOf (Nat.land m E) ∧ hi = nextE i r (i + 1)) → StCOK ops P ow n ((o, m, kd, e) :: r) i E l := by
      intro dk E' l2 hl hl2 hE1 hE2 hE3 hee h1 h2 h3 h4 h5
      obtain ⟨q1, q2, q3, q4, q5, q6, q7⟩ := stC_ok r (i + 1) E' l2 (show i + 1 + r.length = n by simp only [List.length_cons] at hn; omega) hmr hpr hl2
      have i0 : i + 0 = i := rfl
      have none0 : ∀ {b : Nat}, (E.testBit b = true ∨ ∃ k', k' < 0 ∧ isEff l k' ∧ b = i + k') → E.testBit b = true := fun h => h.resolve_right fun ⟨k', hk, _⟩ => by omega
      subst hl
      refine ⟨by simp [q1], fun k o' dk' hk => ?_, fun k => ?_, fun k b hk hb => ?_, fun k o' hk => ?_, fun k o' hk => ?_, fun k o' lo hi hk => ?_⟩
      · cases k with
        | zero =>
          simp only [List.getElem?_cons_zero, Option.some.injEq, Prod.mk.injEq] at hk
          obtain ⟨rfl, rfl⟩ := hk
          exact ⟨m, kd, e, rfl⟩
        | succ k => exact q2 k o' dk' (by simpa using hk)
      · cases k with
        | zero =>
          rw [e0, ← hee]
          constructor
          · rintro ⟨o', m', kd', hk⟩
            simp only [List.getElem?_cons_zero, Option.some.injEq, Prod.mk.injEq] at hk
            exact hk.2.2.2
          · rintro rfl; exact ⟨o, m, kd, rfl⟩
        | succ k =>
          rw [eS, ← q3 k]
          simp
      · cases k with
        | zero => exact h1 (e0.1 hk) b (none0 hb)
        | succ k =>
          rw [eidx]
          exact q4 k b (eS.1 hk) (bits hE1 hE2 hb)
      · cases k with
        | zero =>
          simp only [List.getElem?_cons_zero, Option.some.injEq, Prod.mk.injEq] at hk
          obtain ⟨rfl, rfl⟩ := hk
          refine ⟨fun b hb => h2 rfl b (none0 hb), fun k' hlt he => ?_⟩
          cases k' with
          | zero => omega
          | succ k' =>
            have he := eS.1 he
            rw [eidx, i0]
            rcases firstE_ok i r (h3 rfl) with hn | ⟨k1, o1, m1, kd1, r1, r2, r3⟩
            · obtain ⟨o2, m2, kd2, hh⟩ := (q3 k').2 he
              exact absurd hh (hn k' o2 m2 kd2)
            · have hk1 : isEff l2 k1 := (q3 k1).1 ⟨o1, m1, kd1, r1⟩
              have hM1 : Must ops (i + 1 + k1) i := hmr k1 o1 m1 kd1 true i r1 r2
              rcases Nat.lt_trichotomy k' k1 with hlt | rfl | hgt
              · obtain ⟨o2, m2, kd2, hh⟩ := (q3 k').2 he
                exact absurd hh (r3 k' o2 m2 kd2 hlt)
              · exact hM1
              · exact (q4 k' (i + 1 + k1) he (.inr ⟨k1, hgt, hk1, rfl⟩)).trans hM1
        | succ k =>
          obtain ⟨r1, r2⟩ := q5 k o' (by simpa using hk)
          rw [eidx]
          refine ⟨fun b hb => r1 b (bits hE1 hE2 hb), fun k' hlt he => ?_⟩
          cases k' with
          | zero => omega
          | succ k' => rw [eidx]; exact r2 k' (by omega) (eS.1 he)
      · cases k with
        | zero =>
          simp only [List.getElem?_cons_zero, Option.some.injEq, Prod.mk.injEq] at hk
          obtain ⟨rfl, rfl⟩ := hk
          exact h4 rfl
        | succ k => exact q6 k o' (by simpa using hk)
      · cases k with
        | zero =>
          simp only [List.getElem?_cons_zero, Option.some.injEq, Prod.mk.injEq] at hk
          obtain ⟨rfl, rfl⟩ := hk
          obtain ⟨rfl, rfl⟩ := h5 lo hi rfl
          constructor
          · rcases loOf_ok (Nat.land m E) with h | ⟨h, hb⟩
            · exact .inl h
            · have hb : (m &&& E).testBit _ = true := hb
              rw [Nat.testBit_and, Bool.and_eq_true] at hb
              exact .inr ⟨h, .inl hb.2, hm0 _ hb.1⟩
          · rcases nextE_ok i r (i + 1) with h | ⟨k', o2, m2, kd2, r1, r2, r3⟩
            · exact .inl (by simp only [List.length_cons] at hn; omega)
            · refine .inr ⟨k' + 1, eS.2 ((q3 k').1 ⟨o2, m2, kd2, r1⟩), by omega, ?_⟩
              rw [r2]
              exact hmr k' o2 m2 kd2 true i r1 r3
        | succ k =>
          obtain ⟨r1, r2⟩ := q7 k o' lo hi (by simpa using hk)
          rw [eidx]
          constructor
          · rcases r1 with r1 | ⟨r1, r3, r4⟩
            · exact .inl r1
            · exact .inr ⟨r1, back hE3 r3, r4⟩
          · rcases r2 with r2 | ⟨k', r2, r3, r4⟩
            · exact .inl r2
            · exact .inr ⟨k' + 1, eS.2 r2, by omega, r4⟩
    unfold stC at h
    split at h
    · split at h
      · rename_i hs
        obtain ⟨l2, hl2, hl⟩ := sub (E' := 0) h
        refine main .eff _ l2 hl hl2 (fun b hb => by rw [lor_iff, hb]; rfl) (fun _ => by rw [lor_iff, bitN_iff]; simp) (fun b hb => ?_) (by simp) (fun _ b hb => hm0 b (subB_bit hs hb)) (fun h => by cases h) (fun h => by cases h) (fun h => by cases h) (fun lo hi h => by cases h)
        rw [lor_iff, bitN_iff, Bool.or_eq_true, decide_eq_true_eq] at hb
        exact hb.imp id fun h => ⟨rfl, h.symm⟩
      · cases h
    · split at h
      · obtain ⟨l2, hl2, hl⟩ := sub (E' := 0) h
        exact main .pure _ l2 hl hl2 (fun b hb => hb) (fun h => by cases h) (fun b hb => .inl hb) (by simp) (fun h => by cases h) (fun h => by cases h) (fun h => by cases h) (fun _ => hp 0 o m _ rfl) (fun lo hi h => by cases h)
      · split at h
        · rename_i hs
          rw [Bool.and_eq_true] at hs
          obtain ⟨l2, hl2, hl⟩ := sub (E' := 0) h
          exact main .fix _ l2 hl hl2 (fun b hb => hb) (fun h => by cases h) (fun b hb => .inl hb) (by simp) (fun h => by cases h) (fun _ b hb => hm0 b (subB_bit hs.1 hb)) (fun _ => hs.2) (fun h => by cases h) (fun lo hi h => by cases h)
        · obtain ⟨l2, hl2, hl⟩ := sub (E' := 0) h
          exact main (.flo _ _) _ l2 hl hl2 (fun b hb => hb) (fun h => by cases h) (fun b hb => .inl hb) (by simp) (fun h => by cases h) (fun h => by cases h) (fun h => by cases h) (fun h => by cases h) (fun lo hi h => by cases h; exact ⟨rfl, rfl⟩)

/-- What the checks say, all together. -/
structure Static (P : Program) (ow : Bool) (ops : Array Oper) (l : List (Oper × DrK)) : Prop where
  len : l.length = ops.size
  op : ∀ (i : Nat) (o : Oper) (dk : DrK), l[i]? = some (o, dk) → ops[i]? = some o
  pair : ∀ i j, i < ops.size → j < ops.size → PairOK ops i j
  sched : ∀ (i : Nat) (o : Oper) (e : Edge), ops[i]? = some o → e ∈ o.after → Region.binds .any e = true → e.on < i
  eff : ∀ i j, i < j → isEff l i → isEff l j → Must ops j i
  fix : ∀ (i : Nat) (o : Oper), l[i]? = some (o, DrK.fix) → ∀ j, isEff l j → (j < i → Must ops i j) ∧ (i < j → Must ops j i)
  pure : ∀ (i : Nat) (o : Oper), l[i]? = some (o, DrK.pure) → kindO P ow o = 0
  flo : ∀ (i : Nat) (o : Oper) (lo hi : Nat), l[i]? = some (o, DrK.flo lo hi) → (lo = 0 ∨ 0 < lo ∧ isEff l (lo - 1) ∧ Must ops i (lo - 1)) ∧ (ops.size ≤ hi ∨ isEff l hi ∧ Must ops hi i)

theorem statD_ok {P : Program} {ow : Bool} {l : List (Oper × DrK)} (h : statD P ow ops = some l) : Static P ow ops l := by
  unfold statD at h
  split at h
  · rename_i la ha
    obtain ⟨p1, p2, p3⟩ := stA_ok ops.toList 0 [] 0 0 [] la rfl (Nat.zero_le _) ⟨rfl, fun k hk => by omega, fun k hk => by omega⟩ (fun j o d hj => by omega) (fun j o t hj => by omega) (fun j o hj => by omega) (fun j k hj => by omega) ha
    have p2 : la.length = ops.size := by rw [p2]; simp
    obtain ⟨q1, q2, q3, q4, q5, q6, q7⟩ := stC_ok (ops := ops) (P := P) (ow := ow) (n := ops.size) (stE P ow 0 0 la) 0 0 l (by rw [stE_len, p2]; omega) (fun k o m kd e b hk hb => (p3 k o m (stE_get la 0 0 k o m kd e hk).1).2.1 b hb)
      (fun k o m e hk => (stE_get la 0 0 k o m 0 e hk).2 rfl) h
    rw [stE_len] at q1
    refine ⟨by omega, fun i o dk hi => ?_, p1, fun i o e ho he hb => ?_, fun i j hij hi hj => ?_, fun i o hi j hj => ⟨fun hlt => ?_, fun hlt => ?_⟩, q6, fun i o lo hi hk => ?_⟩
    · obtain ⟨m, kd, e, hk⟩ := q2 i o dk hi
      have := (p3 i o m (stE_get la 0 0 i o m kd e hk).1).1
      rw [Nat.zero_add] at this
      exact this
    · have hi : i < la.length := by rw [p2]; exact (Array.getElem?_eq_some_iff.1 ho).1
      obtain ⟨⟨o1, m1⟩, h1⟩ : ∃ x, la[i]? = some x := ⟨_, List.getElem?_eq_getElem hi⟩
      obtain ⟨r1, _, r3⟩ := p3 i o1 m1 h1
      rw [Nat.zero_add] at r1 r3
      rw [ho] at r1
      simp only [Option.some.injEq] at r1
      subst r1
      exact r3 e he hb
    · have := q4 j i hj (.inr ⟨i, hij, hi, (Nat.zero_add i).symm⟩)
      rw [Nat.zero_add] at this
      exact this
    · have := (q5 i o hi).1 j (.inr ⟨j, hlt, hj, (Nat.zero_add j).symm⟩)
      rw [Nat.zero_add] at this
      exact this
    · have := (q5 i o hi).2 j hlt hj
      rw [Nat.zero_add, Nat.zero_add] at this
      exact this
    · obtain ⟨r1, r2⟩ := q7 i o lo hi hk
      rw [Nat.zero_add] at r1 r2
      constructor
      · rcases r1 with r1 | ⟨r1, r3, r4⟩
        · exact .inl r1
        · refine .inr ⟨r1, ?_, r4⟩
          rcases r3 with r3 | ⟨k', _, r5, r6⟩
          · simp at r3
          · rw [r6, Nat.zero_add]; exact r5
      · rcases r2 with r2 | ⟨k', r2, r3, r4⟩
        · exact .inl r2
        · rw [Nat.zero_add] at r3
          subst r3
          exact .inr ⟨r2, r4⟩
  · cases h

end
end Go.Fw

namespace Go.Fw
set_option linter.unusedSimpArgs false
set_option linter.unusedVariables false
open Go.RowKit

/-- A pointer against nil. -/
def nilX (P : Program) (look : Operand → AVal) (o : Oper) : Option AVal :=
  match o.op with
  | .binOp op t x y _ => (match nilCmp P op t (look x) (look y) with | some (n, r) => (match n with | 0 => none | _ + 1 => some (.lit (.bool r))) | none => none)
  | _ => none

noncomputable def purE (P : Program) (t : Tr) (o : Oper) : Option AVal :=
  match evalQ P (lookT t) [] o with
  | .val v => some v
  | .ifb b v => (match b with | true => some v | false => none)
  | .bad => (match nilX P (lookT t) o with | some v => some v | none => pureX P (lookT t) o)
  | _ => none

/-- What needs no memory. -/
noncomputable def pureV (P : Program) (t : Tr) (o : Oper) : Option AVal :=
  match o.op with
  | .pick c x y => pickT t c x y
  | .slice _ _ _ _ _ => (match preT P (lookT t) [] o with | some v => some v | none => purE P t o)
  | .defer _ => none
  | _ => purE P t o

/-- What leaves memory as it is. -/
noncomputable def readV (P : Program) (low : LowF) (t : Tr) (objs : Objs) (o : Oper) : Option AVal :=
  match evalQ P (lookT t) objs o with
  | .val v => some v
  | .ifb b v => (match b with | true => some v | false => none)
  | .call f args => low f args objs
  | .bad => (match bXr P (lookT t) objs o with | some v => some v | none => pureX P (lookT t) o)
  | _ => none

def chkR (lo hi : Nat) (f : Objs → Bool) : List (Nat × Objs) → Bool
  | [] => true
  | (p, o) :: r => match Nat.ble lo p && Nat.ble p hi with | true => f o && chkR lo hi f r | false => chkR lo hi f r

def finR (Bs : List (Nat × Objs)) : List (Nat × Nat × (Objs → Bool)) → Bool
  | [] => true
  | (lo, hi, f) :: r => chkR lo hi f Bs && finR Bs r

noncomputable def reRead (P : Program) (low : LowF) (t : Tr) (o : Oper) (v : AVal) (ob : Objs) : Bool :=
  match readV P low t ob o with
  | some u => subA 40 u v
  | none => false

noncomputable def putO (nt : Nat) (t : Tr) (op : Oper) (r : Option AVal) (o : Objs) (z : R2) (f : AVal → Tr → Objs → R2) : R2 :=
  match r with
  | some v => thenO (f v) (putT nt t op.dst v o)
  | none => z

noncomputable def runD (P : Program) (call : CallF) (low : LowF) (ow : Bool) (nt : Nat) (Y : Option YT) (ops : Array Oper) : List (Oper × DrK) → Nat → Tr → Objs → List (Nat × Objs) → List (Nat × Nat × (Objs → Bool)) → R2
  | [], _, t, o, Bs, Rd => (match finR Bs Rd with | true => .ok t o | false => .bad ⟨.ready 60, [], none⟩)
  | (op, k) :: rest, i, t, o, Bs, Rd =>
    match gdT ops t op.guard with
    | none => badT t op
    | some b =>
      match b with
      | false => thenO (fun t' o' => runD P call low ow nt Y ops rest (i + 1) t' o' (match k with | .eff => (i + 1, o') :: Bs | _ => Bs) Rd) (putT nt t op.dst (.lit undef) o)
      | true =>
        match k with
        | .eff => thenO (fun t' o' => runD P call low ow nt Y ops rest (i + 1) t' o' ((i + 1, o') :: Bs) Rd) (putS nt t op.dst (stepV P call ow Y t o op))
        | .pure => putO nt t op (pureV P t op) o (badT t op) fun _ t' o' => runD P call low ow nt Y ops rest (i + 1) t' o' Bs Rd
        | .fix => putO nt t op (readV P low t o op) o (badT t op) fun _ t' o' => runD P call low ow nt Y ops rest (i + 1) t' o' Bs Rd
        | .flo lo hi => putO nt t op (readV P low t o op) o (badT t op) fun v t' o' => runD P call low ow nt Y ops rest (i + 1) t' o' Bs ((lo, hi, reRead P low t op v) :: Rd)

/-- A region that draws. -/
noncomputable def drawT (P : Program) (call : CallF) (low : LowF) (ow : Bool) (nt : Nat) (Y : Option YT) (ops : Array Oper) (t : Tr) (o : Objs) : R2 :=
  match P.follows .mixedOrders with
  | true => (match statD P ow ops with | some l => runD P call low ow nt Y ops l 0 t o [(0, o)] [] | none => .bad ⟨.ready 61, [], none⟩)
  | false => .bad ⟨.ready 62, [], none⟩

section
variable {P : Program} {call : CallF} {low : LowF} {ow : Bool} {nt : Nat} {F : Fence} {Y : Option YT} {ops : Array Oper}

theorem kind_pure {o : Oper} (h : kindO P ow o = 0) : effKind o.op = false ∧ loadKind o.op = false := by
  obtain ⟨dst, op, type, pos, after, guard⟩ := o
  cases op <;> simp_all [kindO, effKind, loadKind]
  case call c =>
    obtain ⟨f, aS, ts⟩ := c
    cases f with
    | builtin b => cases b <;> simp_all
    | _ => simp_all

theorem nilX_bX {look : Operand → AVal} {o : Oper} {v : AVal} (h : nilX P look o = some v) (objs : Objs) : bX P look objs o = some (v, objs) := by
  unfold nilX at h
  split at h
  · rename_i op t x y u hop
    unfold bX
    simp only [hop]
    split at h
    · rename_i n r hn
      simp only [hn]
      split at h
      · cases h
      · simp only [Option.some.injEq] at h
        subst h
        rfl
    · cases h
  · cases h

def noCall : CallF := fun _ _ _ => none
theorem noCall_good : GoodCall P noCall := fun _ _ _ _ _ h => by cases h

theorem purE_gives (hF : OpLift F P) {K0 : Ctx} {t : Tr} {o : Oper} {v : AVal} (hk : kindO P ow o = 0) (hd : ∀ c, o.op ≠ .defer c) (h : purE P t o = some v) (objs : Objs) : GivesV P F K0 (lookT t) objs o v objs := by
  obtain ⟨k1, k2⟩ := kind_pure hk
  have hev : evalQ P (lookT t) objs o = evalQ P (lookT t) [] o := by rw [evalQ_eq, evalQ_eq]; exact evalOp_objs o k1 k2 _ _
  unfold purE at h
  rw [← hev] at h
  have ev : evalV P noCall none t objs o = .ok v objs → GivesV P F K0 (lookT t) objs o v objs := evalV_sound noCall_good hF trivial hd
  split at h
  · rename_i u he
    simp only [Option.some.injEq] at h
    subst h
    exact ev (by simp only [evalV, ansV_eq, he])
  · rename_i b u he
    split at h
    · simp only [Option.some.injEq] at h
      subst h
      exact ev (by simp only [evalV, ansV_eq, he])
    · cases h
  · rename_i he
    split at h
    · rename_i u hn
      simp only [Option.some.injEq] at h
      subst h
      exact ev (by simp only [evalV, ansV_eq, he, restV, nilX_bX hn objs, orV_eq])
    · exact .of_does hF hd fun K a w hm hl => pureX_sound hm hl h
  · cases h

theorem pureV_gives (hF : OpLift F P) {K0 : Ctx} {t : Tr} {o : Oper} {v : AVal} (hk : kindO P ow o = 0) (h : pureV P t o = some v) (objs : Objs) : GivesV P F K0 (lookT t) objs o v objs := by
  unfold pureV at h
  split at h
  · rename_i c x y hop
    exact .of_does hF (fun c e => by rw [hop] at e; cases e) fun K a w hm hl => pick_does hop h hm hl
  · rename_i ty x lo hi mx hop
    have hd : ∀ c, o.op ≠ .defer c := fun c e => by rw [hop] at e; cases e
    split at h
    · rename_i u hp
      simp only [Option.some.injEq] at h
      subst h
      refine .of_does hF hd fun K a w hm hl => preT_sound (objs := objs) hm hl ?_
      rw [← hp]
      simp only [preT, hop]
    · exact purE_gives hF hk hd h objs
  · cases h
  · rename_i h1 h2 h3
    exact purE_gives hF hk (fun c e => h3 c e) h objs

def lowC (low : LowF) : CallF := fun f args objs => match low f args objs with | some r => some (r, objs) | none => none

theorem lowC_good (h : GoodLow P low) : GoodCall P (lowC low) := fun f args objs r o' hr => by
  unfold lowC at hr
  split at hr
  · rename_i r1 h1
    simp only [Option.some.injEq, Prod.mk.injEq] at hr
    obtain ⟨rfl, rfl⟩ := hr
    exact h f args objs _ h1
  · cases hr

theorem bXr_objs {look : Operand → AVal} {objs : Objs} {o : Oper} {v : AVal} (h : bXr P look objs o = some v) {K : Ctx} {w : World} {ρ : Operand → Value} (hm : MemSat K objs w) (hl : ∀ x ∈ o.op.operands, Rep K (look x) (ρ x)) : Does P (execOp ρ o) w K objs v :=
  evalX_at hm hl fun hk => (bXr_sound h).2 hk

theorem readV_gives (hlow : GoodLow P low) (hF : OpLift F P) {K0 : Ctx} {t : Tr} {o : Oper} {v : AVal} {objs : Objs} (h : readV P low t objs o = some v) : GivesV P F K0 (lookT t) objs o v objs := by
  have hd : ∀ c, o.op ≠ .defer c := by
    intro c e
    obtain ⟨dst, op, type, pos, after, guard⟩ := o
    simp only at e
    subst e
    unfold readV at h
    rw [evalQ_eq] at h
    simp [evalOp, bXr, pureX] at h
  have ev : evalV P (lowC low) none t objs o = .ok v objs → GivesV P F K0 (lookT t) objs o v objs := evalV_sound (lowC_good hlow) hF trivial hd
  unfold readV at h
  split at h
  · rename_i u he
    simp only [Option.some.injEq] at h
    subst h
    exact ev (by simp only [evalV, ansV_eq, he])
  · rename_i b u he
    split at h
    · simp only [Option.some.injEq] at h
      subst h
      exact ev (by simp only [evalV, ansV_eq, he])
    · cases h
  · rename_i f args he
    exact ev (by simp only [evalV, ansV_eq, he, lowC, h, orV_eq])
  · rename_i he
    split at h
    · rename_i u hn
      simp only [Option.some.injEq] at h
      subst h
      exact .of_does hF hd fun K a w hm hl => bXr_objs hn hm hl
    · exact .of_does hF hd fun K a w hm hl => pureX_sound hm hl h
  · cases h

/-- One step of a run in the order of the text. -/
def RawStep (P : Program) (call : CallF) (low : LowF) (ow : Bool) (nt : Nat) (Y : Option YT) (ops : Array Oper) (s s1 : Tr × Objs) (Bs : List (Nat × Objs)) (Rd : List (Nat × Nat × (Objs → Bool))) (j : Nat) (op : Oper) (dk : DrK) : Prop :=
  ∃ (gb : Bool) (v : AVal), gdT ops s.1 op.guard = some gb ∧ putT nt s.1 op.dst v s1.2 = .ok s1.1 s1.2 ∧ (dk ≠ .eff → s1.2 = s.2) ∧ (dk = .eff → (j + 1, s1.2) ∈ Bs) ∧
    (gb = false → s1.2 = s.2 ∧ v = .lit undef) ∧
    (gb = true → match dk with
      | .eff => stepV P call ow Y s.1 s.2 op = .ok v s1.2
      | .pure => pureV P s.1 op = some v
      | .fix => readV P low s.1 s.2 op = some v
      | .flo lo hi => readV P low s.1 s.2 op = some v ∧ (lo, hi, reRead P low s.1 op v) ∈ Rd)

theorem putT_objs {t t1 : Tr} {d : Option Tmp} {v : AVal} {o o1 : Objs} (h : putT nt t d v o = .ok t1 o1) : o1 = o ∧ putT nt t d v o1 = .ok t1 o1 := by
  have : o1 = o := by
    rw [putT_eq] at h
    split at h
    · simp only [R2.ok.injEq] at h; exact h.2.symm
    · split at h
      · simp only [R2.ok.injEq] at h; exact h.2.symm
      · cases h
  subst this
  exact ⟨rfl, h⟩

theorem runD_tr : ∀ (l : List (Oper × DrK)) (i : Nat) (t : Tr) (o : Objs) (Bs : List (Nat × Objs)) (Rd : List (Nat × Nat × (Objs → Bool))) (t' : Tr) (o' : Objs), runD P call low ow nt Y ops l i t o Bs Rd = .ok t' o' →
    ∃ (tr : Nat → Tr × Objs) (BsF : List (Nat × Objs)) (RdF : List (Nat × Nat × (Objs → Bool))), tr i = (t, o) ∧ tr (i + l.length) = (t', o') ∧ finR BsF RdF = true ∧ (∀ x ∈ Bs, x ∈ BsF) ∧ (∀ x ∈ Rd, x ∈ RdF) ∧
      ∀ (k : Nat) (op : Oper) (dk : DrK), l[k]? = some (op, dk) → RawStep P call low ow nt Y ops (tr (i + k)) (tr (i + k + 1)) BsF RdF (i + k) op dk
  | [], i, t, o, Bs, Rd, t', o', h => by
    unfold runD at h
    split at h
    · rename_i hf
      simp only [R2.ok.injEq] at h
      obtain ⟨rfl, rfl⟩ := h
      exact ⟨fun _ => (t, o), Bs, Rd, rfl, rfl, hf, fun x hx => hx, fun x hx => hx, fun k op dk hk => by simp at hk⟩
    · cases h
  | (op, k) :: rest, i, t, o, Bs, Rd, t', o', h => by
    have go : ∀ (t1 : Tr) (o1 : Objs) (Bs1 : List (Nat × Objs)) (Rd1 : List (Nat × Nat × (Objs → Bool))) (gb : Bool) (v : AVal), runD P call low ow nt Y ops rest (i + 1) t1 o1 Bs1 Rd1 = .ok t' o' → (∀ x ∈ Bs, x ∈ Bs1) → (∀ x ∈ Rd, x ∈ Rd1) →
        gdT ops t op.guard = some gb → putT nt t op.dst v o1 = .ok t1 o1 → (k ≠ .eff → o1 = o) → (k = .eff → (i + 1, o1) ∈ Bs1) → (gb = false → o1 = o ∧ v = .lit undef) →
        (gb = true → match k with | .eff => stepV P call ow Y t o op = .ok v o1 | .pure => pureV P t op = some v | .fix => readV P low t o op = some v | .flo lo hi => readV P low t o op = some v ∧ (lo, hi, reRead P low t op v) ∈ Rd1) →
        ∃ (tr : Nat → Tr × Objs) (BsF : List (Nat × Objs)) (RdF : List (Nat × Nat × (Objs → Bool))), tr i = (t, o) ∧ tr (i + ((op, k) :: rest).length) = (t', o') ∧ finR BsF RdF = true ∧ (∀ x ∈ Bs, x ∈ BsF) ∧ (∀ x ∈ Rd, x ∈ RdF) ∧
          ∀ (k' : Nat) (op' : Oper) (dk : DrK), ((op, k) :: rest)[k']? = some (op', dk) → RawStep P call low ow nt Y ops (tr (i + k')) (tr (i + k' + 1)) BsF RdF (i + k') op' dk := by
      intro t1 o1 Bs1 Rd1 gb v hrun hB hR hg hput h1 h2 h3 h4
      obtain ⟨tr, BsF, RdF, q1, q2, q3, q4, q5, q6⟩ := runD_tr rest (i + 1) t1 o1 Bs1 Rd1 t' o' hrun
      obtain ⟨tr', ht0, ht1⟩ : ∃ tr' : Nat → Tr × Objs, tr' i = (t, o) ∧ ∀ m, i < m → tr' m = tr m := ⟨fun m => if m ≤ i then (t, o) else tr m, if_pos (Nat.le_refl _), fun m hm => if_neg (by omega)⟩
      refine ⟨tr', BsF, RdF, ht0, ?_, q3, fun x hx => q4 x (hB x hx), fun x hx => q5 x (hR x hx), fun k' op' dk hk => ?_⟩
      · rw [ht1 _ (by simp only [List.length_cons]; omega), ← q2]
        congr 1
        simp only [List.length_cons]
        omega
      · cases k' with
        | zero =>
          simp only [List.getElem?_cons_zero, Option.some.injEq, Prod.mk.injEq] at hk
          obtain ⟨rfl, rfl⟩ := hk
          rw [Nat.add_zero, ht0, ht1 _ (Nat.lt_succ_self _), q1]
          refine ⟨gb, v, hg, hput, h1, fun he => q4 _ (h2 he), h3, fun hb => ?_⟩
          have := h4 hb
          cases k with
          | eff => exact this
          | pure => exact this
          | fix => exact this
          | flo lo hi => exact ⟨this.1, q5 _ this.2⟩
        | succ k' =>
          have hs := q6 k' op' dk (by simpa using hk)
          have e : i + 1 + k' = i + (k' + 1) := by omega
          rw [e] at hs
          rw [ht1 _ (by omega), ht1 _ (by omega)]
          exact hs
    have thenGo : ∀ {f : Tr → Objs → R2} {r : R2}, thenO f r = .ok t' o' → ∃ t1 o1, r = .ok t1 o1 ∧ f t1 o1 = .ok t' o' := by
      intro f r h
      cases r with
      | bad y => cases h
      | ok t1 o1 => exact ⟨t1, o1, rfl, h⟩
    have putGo : ∀ {r : Option AVal} {z : R2} {f : AVal → Tr → Objs → R2}, (∀ t1 o1, z ≠ .ok t1 o1) → putO nt t op r o z f = .ok t' o' → ∃ v t1 o1, r = some v ∧ putT nt t op.dst v o = .ok t1 o1 ∧ f v t1 o1 = .ok t' o' := by
      intro r z f hz h
      cases r with
      | none => exact absurd h (hz _ _)
      | some v =>
        obtain ⟨t1, o1, h1, h2⟩ := thenGo h
        exact ⟨v, t1, o1, rfl, h1, h2⟩
    have hbad : ∀ t1 o1, badT t op ≠ .ok t1 o1 := fun t1 o1 h => by cases h
    unfold runD at h
    split at h
    · cases h
    · rename_i b hg
      split at h
      · obtain ⟨t1, o1, h1, h2⟩ := thenGo h
        obtain ⟨rfl, hp⟩ := putT_objs h1
        refine go t1 _ _ _ false _ h2 (fun x hx => ?_) (fun x hx => hx) hg hp (fun _ => rfl) (fun he => ?_) (fun _ => ⟨rfl, rfl⟩) (fun h => by cases h)
        · split
          · exact List.mem_cons_of_mem _ hx
          · exact hx
        · subst he
          exact List.mem_cons_self ..
      · split at h
        · obtain ⟨t1, o1, h1, h2⟩ := thenGo h
          rw [putS_eq] at h1
          split at h1
          · rename_i v o2 hv
            obtain ⟨rfl, hp⟩ := putT_objs h1
            exact go t1 _ _ _ true _ h2 (fun x hx => List.mem_cons_of_mem _ hx) (fun x hx => hx) hg hp (fun hne => absurd rfl hne) (fun _ => List.mem_cons_self ..) (fun h => by cases h) (fun _ => hv)
          · cases h1
        · obtain ⟨v, t1, o1, hv, h1, h2⟩ := putGo hbad h
          obtain ⟨rfl, hp⟩ := putT_objs h1
          exact go t1 _ _ _ true v h2 (fun x hx => hx) (fun x hx => hx) hg hp (fun _ => rfl) (fun h => by cases h) (fun h => by cases h) (fun _ => hv)
        · obtain ⟨v, t1, o1, hv, h1, h2⟩ := putGo hbad h
          obtain ⟨rfl, hp⟩ := putT_objs h1
          exact go t1 _ _ _ true v h2 (fun x hx => hx) (fun x hx => hx) hg hp (fun _ => rfl) (fun h => by cases h) (fun h => by cases h) (fun _ => hv)
        · obtain ⟨v, t1, o1, hv, h1, h2⟩ := putGo hbad h
          obtain ⟨rfl, hp⟩ := putT_objs h1
          exact go t1 _ _ _ true v h2 (fun x hx => hx) (fun x hx => List.mem_cons_of_mem _ hx) hg hp (fun _ => rfl) (fun h => by cases h) (fun h => by cases h) (fun _ => ⟨hv, List.mem_cons_self ..⟩)

theorem chkR_mem {lo hi : Nat} {f : Objs → Bool} : ∀ {Bs : List (Nat × Objs)}, chkR lo hi f Bs = true → ∀ p o, (p, o) ∈ Bs → lo ≤ p → p ≤ hi → f o = true
  | (q, o1) :: r, h, p, o, hm, h1, h2 => by
    unfold chkR at h
    split at h
    · rw [Bool.and_eq_true] at h
      rcases List.mem_cons.1 hm with e | hm'
      · simp only [Prod.mk.injEq] at e
        rw [e.2]; exact h.1
      · exact chkR_mem h.2 p o hm' h1 h2
    · rename_i hb
      rcases List.mem_cons.1 hm with e | hm'
      · simp only [Prod.mk.injEq] at e
        rw [← e.1] at hb
        have : (Nat.ble lo p && Nat.ble p hi) = true := by simp [h1, h2]
        rw [this] at hb; cases hb
      · exact chkR_mem h p o hm' h1 h2

theorem finR_mem {Bs : List (Nat × Objs)} : ∀ {Rd : List (Nat × Nat × (Objs → Bool))}, finR Bs Rd = true → ∀ lo hi f, (lo, hi, f) ∈ Rd → chkR lo hi f Bs = true
  | (lo', hi', f') :: r, h, lo, hi, f, hm => by
    simp only [finR, Bool.and_eq_true] at h
    rcases List.mem_cons.1 hm with e | hm'
    · cases e; exact h.1
    · exact finR_mem h.2 lo hi f hm'

end
end Go.Fw

namespace Go.Fw
set_option linter.unusedSimpArgs false
set_option linter.unusedVariables false
open Go.RowKit

/-- A run in the order of the text. -/
structure TraceD (P : Program) (F : Fence) (K0 : Ctx) (nt : Nat) (ops : Array Oper) (l : List (Oper × DrK)) (tr : Nat → Tr × Objs) : Prop where
  step : ∀ (i : Nat) (o : Oper) (dk : DrK), l[i]? = some (o, dk) → ∃ (gb : Bool) (v : AVal), gdT ops (tr i).1 o.guard = some gb ∧ putT nt (tr i).1 o.dst v (tr (i + 1)).2 = .ok (tr (i + 1)).1 (tr (i + 1)).2 ∧ (dk ≠ .eff → (tr (i + 1)).2 = (tr i).2) ∧
    (gb = false → (tr (i + 1)).2 = (tr i).2 ∧ v = .lit undef) ∧
    (gb = true → (dk = .eff → GivesV P F K0 (lookT (tr i).1) (tr i).2 o v (tr (i + 1)).2) ∧ (dk = .fix → GivesV P F K0 (lookT (tr i).1) (tr i).2 o v (tr i).2) ∧ (dk = .pure → ∀ ob, GivesV P F K0 (lookT (tr i).1) ob o v ob) ∧
      (∀ lo hi, dk = .flo lo hi → ∀ p, (p = 0 ∨ ∃ q, p = q + 1 ∧ isEff l q) → lo ≤ p → p ≤ hi → GivesV P F K0 (lookT (tr i).1) (tr p).2 o v (tr p).2))

/-- What the checks say of the places of values. -/
structure StatB (ops : Array Oper) (l : List (Oper × DrK)) : Prop where
  len : l.length = ops.size
  op : ∀ (i : Nat) (o : Oper) (dk : DrK), l[i]? = some (o, dk) → ops[i]? = some o
  pair : ∀ i j, i < ops.size → j < ops.size → PairOK ops i j

theorem Static.b {P : Program} {ow : Bool} {ops : Array Oper} {l : List (Oper × DrK)} (h : Static P ow ops l) : StatB ops l := ⟨h.len, h.op, h.pair⟩

section
variable {P : Program} {call : CallF} {low : LowF} {ow : Bool} {nt : Nat} {F : Fence} {Y : Option YT} {ops : Array Oper} {l : List (Oper × DrK)} {tr : Nat → Tr × Objs} {K0 : Ctx}

theorem trace_of (hc : GoodCall P call) (hlow : GoodLow P low) (hF : OpLift F P) (hY : YGood P F K0 Y) (hst : Static P ow ops l) {Bs : List (Nat × Objs)} {Rd : List (Nat × Nat × (Objs → Bool))} (hfin : finR Bs Rd = true) (h0 : (0, (tr 0).2) ∈ Bs)
    (h : ∀ (k : Nat) (op : Oper) (dk : DrK), l[k]? = some (op, dk) → RawStep P call low ow nt Y ops (tr k) (tr (k + 1)) Bs Rd k op dk) : TraceD P F K0 nt ops l tr := by
  refine ⟨fun i o dk hl => ?_⟩
  obtain ⟨gb, v, h1, h2, h3, _, h5, h6⟩ := h i o dk hl
  refine ⟨gb, v, h1, h2, h3, h5, fun hb => ?_⟩
  have h6 := h6 hb
  refine ⟨fun e => ?_, fun e => ?_, fun e ob => ?_, fun lo hi e p hp q1 q2 => ?_⟩
  · subst e; exact stepV_sound hc hF hY h6
  · subst e; exact readV_gives hlow hF h6
  · subst e; exact pureV_gives hF (hst.pure i o hl) h6 ob
  · subst e
    have hmem : (p, (tr p).2) ∈ Bs := by
      rcases hp with rfl | ⟨q, rfl, o', hq⟩
      · exact h0
      · obtain ⟨_, _, _, _, _, r4, _⟩ := h q o' .eff hq
        exact r4 rfl
    have hr := chkR_mem (finR_mem hfin lo hi _ h6.2) p _ hmem q1 q2
    unfold reRead at hr
    split at hr
    · rename_i u hu
      exact (readV_gives hlow hF hu).sub (subA_sound _ _ _ hr)
    · cases hr

theorem TraceD.get (ht : TraceD P F K0 nt ops l tr) (hst : StatB ops l) {t : Nat} {a : Nat} : ∀ b, a ≤ b → b ≤ ops.size → (∀ j o, a ≤ j → j < b → ops[j]? = some o → o.dst ≠ some t) → (tr b).1.get t = (tr a).1.get t := by
  intro b
  induction b with
  | zero => intro h _ _; have : a = 0 := by omega
            subst this; rfl
  | succ b ih =>
    intro h hb hn
    by_cases e : a = b + 1
    · subst e; rfl
    · have hlt : b < l.length := by rw [hst.len]; omega
      obtain ⟨⟨o, dk⟩, hl⟩ : ∃ x, l[b]? = some x := ⟨_, List.getElem?_eq_getElem hlt⟩
      obtain ⟨gb, v, _, hp, _⟩ := ht.step b o dk hl
      have ho := hst.op b o dk hl
      have hne := hn b o (by omega) (by omega) ho
      rw [← ih (by omega) (by omega) fun j o h1 h2 => hn j o h1 (by omega)]
      rw [putT_eq] at hp
      split at hp
      · simp only [R2.ok.injEq] at hp
        rw [← hp.1]
      · rename_i d hd
        split at hp
        · simp only [R2.ok.injEq] at hp
          rw [← hp.1]
          exact (Tr.get_put v (tr b).1 d t).1 (fun e => hne (by rw [hd, e]))
        · cases hp

theorem TraceD.objs (ht : TraceD P F K0 nt ops l tr) (hst : StatB ops l) {a : Nat} : ∀ b, a ≤ b → b ≤ ops.size → (∀ j, a ≤ j → j < b → ¬ isEff l j) → (tr b).2 = (tr a).2 := by
  intro b
  induction b with
  | zero => intro h _ _; have : a = 0 := by omega
            subst this; rfl
  | succ b ih =>
    intro h hb hn
    by_cases e : a = b + 1
    · subst e; rfl
    · have hlt : b < l.length := by rw [hst.len]; omega
      obtain ⟨⟨o, dk⟩, hl⟩ : ∃ x, l[b]? = some x := ⟨_, List.getElem?_eq_getElem hlt⟩
      obtain ⟨gb, v, _, _, hobj, _⟩ := ht.step b o dk hl
      rw [hobj (fun e => hn b (by omega) (by omega) ⟨o, by rw [hl, e]⟩)]
      exact ih (by omega) (by omega) fun j h1 h2 => hn j h1 (by omega)

/-- A real state in the middle of a region: the operations of S have run. -/
structure DInv2 (nt : Nat) (ops : Array Oper) (l : List (Oper × DrK)) (tr : Nat → Tr × Objs) (K0 : Ctx) (S : Nat → Bool) (a : Act) (w : World) : Prop where
  closed : Closed ops S
  size : a.tmps.size = nt
  mem : ∃ (K : Ctx) (p : Nat), K0.le K ∧ Marks K a.defers ∧ p ≤ ops.size ∧ (p = 0 ∨ ∃ q, p = q + 1 ∧ isEff l q) ∧ MemSat K (tr p).2 w ∧ (∀ j, isEff l j → (S j = true ↔ j < p)) ∧
    (∀ j o d, ops[j]? = some o → o.dst = some d → S j = true → Rep K ((tr ops.size).1.get d) (a.tmps.getD d undef)) ∧
    (∀ t, (∀ j o, ops[j]? = some o → o.dst = some t → S j = false) → Rep K ((tr 0).1.get t) (a.tmps.getD t undef))

theorem isEff_lt (hst : StatB ops l) {j : Nat} (h : isEff l j) : j < ops.size := by
  obtain ⟨o, ho⟩ := h
  have := (List.getElem?_eq_some_iff.1 ho).1
  rw [hst.len] at this
  exact this

theorem DInv2.step (ht : TraceD P F K0 nt ops l tr) (hst : StatB ops l) (hF : OpLift F P) {S : Nat → Bool} {a : Act} {w : World} {i : Nat} {o : Oper} {Q : Exit → Act → World → Prop} {next : Act → World → Prop} (h : DInv2 nt ops l tr K0 S a w)
    (ho : ops[i]? = some o) (hSi : S i = false) (hready : ∀ e ∈ o.after, Region.binds .any e = true → S e.on = true)
    (hord : (isEff l i ∨ l[i]? = some (o, DrK.fix)) → ∀ j, isEff l j → (j < i → S j = true) ∧ (i < j → S j = false)) (hflo : ∀ lo hi, l[i]? = some (o, DrK.flo lo hi) → (lo = 0 ∨ 0 < lo ∧ isEff l (lo - 1) ∧ Must ops i (lo - 1)) ∧ (ops.size ≤ hi ∨ isEff l hi ∧ Must ops hi i)) (hn : ∀ a w, DInv2 nt ops l tr K0 (fun k => S k || Nat.beq k i) a w → next a w) :
    if Region.wanted o (yielded ops a.tmps) then o.wpIn F 0 P a w next Q else (∀ f, o.about P w a.eval = some f → F.fn f) ∧ next (a.put o.dst undef) w := by
  have hi : i < ops.size := (Array.getElem?_eq_some_iff.1 ho).1
  obtain ⟨K, p, hK, hmk, hp, hpos, hm, heff, hin, hout⟩ := h.mem
  obtain ⟨⟨o1, dk⟩, hl⟩ : ∃ x, l[i]? = some x := ⟨_, List.getElem?_eq_getElem (by rw [hst.len]; exact hi)⟩
  have e1 := hst.op i o1 dk hl
  rw [ho] at e1
  simp only [Option.some.injEq] at e1
  subst e1
  obtain ⟨gb, v, hg, hput, hobj, hgf, hgt⟩ := ht.step i o dk hl
  have hS' : Closed ops (fun k => S k || Nat.beq k i) := by
    intro k o' e hk ho' he hb
    simp only [Bool.or_eq_true] at hk ⊢
    rcases hk with hk | hk
    · exact .inl (h.closed k o' e hk ho' he hb)
    · have := Nat.eq_of_beq_eq_true hk
      subst this
      rw [ho] at ho'
      simp only [Option.some.injEq] at ho'
      subst ho'
      exact .inl (hready e he hb)
  have before : ∀ j, Must ops i j → j ≠ i → S j = true := fun j hj hne => by
    have := hj _ hS' (by simp)
    simp only [Bool.or_eq_true] at this
    exact this.resolve_right fun hb => hne (Nat.eq_of_beq_eq_true hb)
  have after' : ∀ j, Must ops j i → S j = false := fun j hj => by
    cases hS : S j with
    | false => rfl
    | true => have := hj S h.closed hS; rw [hSi] at this; cases this
  -- what is told of the slots that it looks at
  have look : ∀ t, (lookB ops o).testBit t = true → Rep K ((tr i).1.get t) (a.tmps.getD t undef) := by
    intro t htl
    by_cases hw : ∃ j o', j < i ∧ ops[j]? = some o' ∧ o'.dst = some t
    · obtain ⟨j, o', hj, hoj, hdj⟩ := hw
      have hM : Must ops i j := (((hst.pair i j hi (by omega)) o o' ho hoj (by omega)).2 t htl hdj).elim (fun h => h.2) (fun h => by omega)
      have hSj := before j hM (by omega)
      rw [← ht.get hst (a := i) (t := t) ops.size (by omega) (Nat.le_refl _) fun k o2 h1 h2 hk hd => ?_]
      · exact hin j o' t hoj hdj hSj
      · exact ((hst.pair j k (by omega) h2) o' o2 hoj hk (by omega)).1 t hdj hd
    · rw [ht.get hst (a := 0) (t := t) i (Nat.zero_le _) (by omega) fun k o2 _ h2 hk hd => hw ⟨k, o2, h2, hk, hd⟩]
      refine hout t fun j o' hoj hdj => ?_
      rcases Nat.lt_trichotomy j i with hlt | rfl | hgt
      · exact absurd ⟨j, o', hlt, hoj, hdj⟩ hw
      · exact hSi
      · have hj : j < ops.size := (Array.getElem?_eq_some_iff.1 hoj).1
        exact (((hst.pair i j hi hj) o o' ho hoj (by omega)).2 t htl hdj).elim (fun h => by omega) (fun h => after' j h.2)
  have opnd : ∀ x ∈ o.op.operands, Rep K (lookT (tr i).1 x) (a.eval x) := by
    intro x hx
    cases x with
    | tmp t => exact look t (lookB_op hx)
    | const v => exact .lit v
    | global g => exact .any _
    | func f => exact .fn (.func f) [] [] [] [] rfl rfl (fun i x v h => by simp at h) (fun i x v h => by simp at h)
  -- the guard
  have hwant : Region.wanted o (yielded ops a.tmps) = gb := by
    rw [gdT_eq] at hg
    unfold Region.wanted
    split at hg
    · rename_i e
      simp only [Option.some.injEq] at hg
      simp only [e, hg]
    · rename_i g e
      simp only [e]
      unfold guardT at hg
      split at hg
      · rename_i o' ho'
        split at hg
        · rename_i d hd
          have hs := look d (lookB_gd e ho' hd)
          split at hg
          · rename_i b' hb
            rw [hb] at hs
            have hv := rep_lit hs
            have hv : a.tmps[d]? = some (.bool b') := by
              rcases Nat.lt_or_ge d a.tmps.size with h' | h'
              · rw [Array.getElem?_eq_getElem h']; simpa [h'] using hv
              · simp [Array.getElem?_eq_none h', undef] at hv
            simp only [Option.some.injEq] at hg
            subst hg
            simp only [yielded, ho', hd, Option.bind_some, hv]
            cases b' <;> cases g.2 <;> rfl
          · rename_i vs hb
            rw [hb] at hs
            have hv := rep_lit hs
            simp only [Option.some.injEq] at hg
            subst hg
            simp only [yielded, ho', hd, Option.bind_some]
            rcases Nat.lt_or_ge d a.tmps.size with h' | h'
            · have hv : a.tmps[d]? = some (.tuple vs) := by rw [Array.getElem?_eq_getElem h']; simpa [h'] using hv
              simp only [hv]; rfl
            · simp only [Array.getElem?_eq_none h']; rfl
          · cases hg
        · cases hg
      · cases hg
  -- what is told behind it
  have slots : ∀ (K' : Ctx) (u : Value) (w' : World) (p' : Nat), K.le K' → p' ≤ ops.size → (p' = 0 ∨ ∃ q, p' = q + 1 ∧ isEff l q) → MemSat K' (tr p').2 w' → (∀ j, isEff l j → ((S j || Nat.beq j i) = true ↔ j < p')) → Rep K' v u →
      DInv2 nt ops l tr K0 (fun k => S k || Nat.beq k i) (a.put o.dst u) w' := by
    intro K' u w' p' hle hp' hpos' hm' heff' hr
    have hsz : (a.put o.dst u).tmps.size = nt := by
      cases hd : o.dst with
      | none => exact h.size
      | some d => simpa [Act.put] using h.size
    have hdf : (a.put o.dst u).defers = a.defers := by cases hd : o.dst <;> simp [Act.put]
    have keep : ∀ t, o.dst ≠ some t → (a.put o.dst u).tmps.getD t undef = a.tmps.getD t undef := by
      intro t hne
      cases hd : o.dst with
      | none => rfl
      | some d =>
        have : d ≠ t := fun e => hne (by rw [hd, e])
        simp [Act.put, Array.getElem?_setIfInBounds_ne this]
    have atD : ∀ d, o.dst = some d → Rep K' ((tr ops.size).1.get d) ((a.put o.dst u).tmps.getD d undef) := by
      intro d hd
      rw [ht.get hst (a := i + 1) (t := d) ops.size (by omega) (Nat.le_refl _) fun k o2 h1 h2 hk hd2 => ((hst.pair i k hi h2) o o2 ho hk (by omega)).1 d hd hd2]
      rw [putT_eq] at hput
      rw [hd] at hput
      simp only at hput
      split at hput
      · rename_i hlt
        simp only [R2.ok.injEq] at hput
        rw [← hput.1]
        have hlt : d < a.tmps.size := by rw [h.size]; simpa using hlt
        have e : (a.put o.dst u).tmps.getD d undef = u := by simp [Act.put, hd, hlt]
        rw [e]
        rcases (Tr.get_put v (tr i).1 d d).2 with e2 | e2
        · rw [e2]; exact hr
        · rw [e2]; exact .any _
      · cases hput
    refine ⟨hS', hsz, K', p', hK.trans hle, by rw [hdf]; exact hmk.mono hle, hp', hpos', hm', heff', fun j o' d hoj hdj hSj => ?_, fun t htn => ?_⟩
    · by_cases hd : o.dst = some d
      · exact atD d hd
      · rw [keep d hd]
        simp only [Bool.or_eq_true] at hSj
        rcases hSj with hSj | hSj
        · exact (hin j o' d hoj hdj hSj).mono hle
        · have := Nat.eq_of_beq_eq_true hSj
          subst this
          rw [ho] at hoj
          simp only [Option.some.injEq] at hoj
          subst hoj
          exact absurd hdj hd
    · have hne : o.dst ≠ some t := fun e => by
        have := htn i o ho e
        simp at this
      rw [keep t hne]
      refine (hout t fun j o' hoj hdj => ?_).mono hle
      have := htn j o' hoj hdj
      simp only [Bool.or_eq_false_iff] at this
      exact this.1
  -- memory is what it is in the text's order, where nothing that writes may come between
  have here : (∀ j, isEff l j → (j < i → S j = true) ∧ (i < j → S j = false)) → (isEff l i → (tr p).2 = (tr i).2) ∧ (¬ isEff l i → (tr p).2 = (tr i).2) := by
    intro hall
    have no : (∀ j, i ≤ j → j < p → ¬ isEff l j) ∧ (∀ j, p ≤ j → j < i → ¬ isEff l j) := by
      refine ⟨fun j h1 h2 he => ?_, fun j h1 h2 he => ?_⟩
      · have hS := (heff j he).2 h2
        rcases Nat.lt_or_ge i j with h' | h'
        · rw [(hall j he).2 h'] at hS; cases hS
        · have : j = i := by omega
          subst this
          rw [hSi] at hS; cases hS
      · have := (heff j he).1 ((hall j he).1 h2)
        omega
    have e : (tr p).2 = (tr i).2 := by
      rcases Nat.le_total p i with hle | hle
      · exact (ht.objs hst i hle (by omega) no.2).symm
      · exact ht.objs hst p hle hp no.1
    exact ⟨fun _ => e, fun _ => e⟩
  -- an operation that does not write leaves the place
  have stay : ¬ isEff l i → ∀ j, isEff l j → ((S j || Nat.beq j i) = true ↔ j < p) := by
    intro hne j hj
    rw [← heff j hj, Bool.or_eq_true]
    refine ⟨fun h => h.resolve_right fun hb => hne ?_, .inl⟩
    rw [← Nat.eq_of_beq_eq_true hb]; exact hj
  have effAll : isEff l i → ∀ j, isEff l j → (j < i → S j = true) ∧ (i < j → S j = false) := fun he => hord (.inl he)
  have move : isEff l i → ∀ j, isEff l j → ((S j || Nat.beq j i) = true ↔ j < i + 1) := by
    intro he j hj
    rw [Bool.or_eq_true]
    constructor
    · rintro (hS | hb)
      · rcases Nat.lt_or_ge i j with h' | h'
        · rw [(effAll he j hj).2 h'] at hS; cases hS
        · omega
      · have := Nat.eq_of_beq_eq_true hb; omega
    · intro hlt
      by_cases e : j = i
      · subst e; exact .inr (Nat.beq_refl _)
      · exact .inl ((effAll he j hj).1 (by omega))
  have effI : dk = .eff → isEff l i := fun e => ⟨o, by rw [hl, e]⟩
  have notI : dk ≠ .eff → ¬ isEff l i := fun hne ⟨o', h'⟩ => hne (by rw [hl] at h'; simp only [Option.some.injEq, Prod.mk.injEq] at h'; exact h'.2)
  cases gb with
  | false =>
    rw [if_neg (by rw [hwant]; simp)]
    obtain ⟨q1, rfl⟩ := hgf rfl
    refine ⟨fun f _ => hF.fn f, hn _ _ ?_⟩
    by_cases hk : dk = .eff
    · have he := effI hk
      have hm2 : MemSat K (tr (i + 1)).2 w := by rw [q1, ← (here (effAll he)).1 he]; exact hm
      exact slots K undef w (i + 1) (.refl K) (by omega) (.inr ⟨i, rfl, he⟩) hm2 (move he) (.lit undef)
    · exact slots K undef w p (.refl K) hp hpos hm (stay (notI hk)) (.lit undef)
  | true =>
    rw [if_pos hwant]
    obtain ⟨g1, g2, g3, g4⟩ := hgt rfl
    have fin : dk ≠ .eff → GivesV P F K0 (lookT (tr i).1) (tr p).2 o v (tr p).2 → o.wpIn F 0 P a w next Q := fun hne hgv =>
      hgv K a w next Q hK hm opnd fun u w' K' h1 h2 h3 => hn _ _ (slots K' u w' p h1 hp hpos h2 (stay (notI hne)) h3)
    cases dk with
    | eff =>
      have he := effI rfl
      have hm2 : MemSat K (tr i).2 w := by rw [← (here (effAll he)).1 he]; exact hm
      exact g1 rfl K a w next Q hK hm2 opnd fun u w' K' h1 h2 h3 => hn _ _ (slots K' u w' (i + 1) h1 (by omega) (.inr ⟨i, rfl, he⟩) h2 (move he) h3)
    | pure => exact fin (by simp) (g3 rfl _)
    | fix =>
      refine fin (by simp) ?_
      rw [(here (hord (.inr hl))).2 (notI (by simp))]
      exact g2 rfl
    | flo lo hi =>
      refine fin (by simp) (g4 lo hi rfl p hpos ?_ ?_)
      · rcases (hflo lo hi hl).1 with rfl | ⟨h1, h2, h3⟩
        · exact Nat.zero_le _
        · have := (heff _ h2).1 (before _ h3 fun e => notI (by simp) (by rw [← e]; exact h2))
          omega
      · rcases (hflo lo hi hl).2 with h1 | ⟨h1, h2⟩
        · omega
        · rcases Nat.lt_or_ge hi p with h' | h'
          · have := (heff _ h1).2 h'
            rw [after' hi h2] at this; cases this
          · exact h'

theorem DInv2.done (ht : TraceD P F K0 nt ops l tr) (hst : StatB ops l) {S : Nat → Bool} {a : Act} {w : World} (h : DInv2 nt ops l tr K0 S a w) (hall : ∀ i, i < ops.size → S i = true) : ∃ K, K0.le K ∧ SatT nt K (tr ops.size).1 (tr ops.size).2 a w := by
  obtain ⟨K, p, hK, hmk, hp, hpos, hm, heff, hin, hout⟩ := h.mem
  refine ⟨K, hK, ?_, fun t => ?_, h.size, hmk⟩
  · rw [ht.objs hst (a := p) ops.size hp (Nat.le_refl _) fun j h1 h2 he => ?_]
    · exact hm
    · have := (heff j he).1 (hall j h2)
      omega
  · by_cases hw : ∃ (j : Nat) (o : Oper), ops[j]? = some o ∧ o.dst = some t
    · obtain ⟨j, o, hj, hd⟩ := hw
      exact hin j o t hj hd (hall j (Array.getElem?_eq_some_iff.1 hj).1)
    · rw [ht.get hst (a := 0) (t := t) ops.size (Nat.zero_le _) (Nat.le_refl _) fun k o2 _ _ hk hd => hw ⟨k, o2, hk, hd⟩]
      exact hout t fun j o hj hd => absurd ⟨j, o, hj, hd⟩ hw

theorem hord_of (hst : Static P ow ops l) {S : Nat → Bool} {a : Act} {w : World} {i : Nat} {o : Oper} (h : DInv2 nt ops l tr K0 S a w) (ho : ops[i]? = some o) (hSi : S i = false) (hready : ∀ e ∈ o.after, Region.binds .any e = true → S e.on = true)
    (hx : isEff l i ∨ l[i]? = some (o, DrK.fix)) (j : Nat) (hj : isEff l j) : (j < i → S j = true) ∧ (i < j → S j = false) := by
  have hS' : Closed ops (fun k => S k || Nat.beq k i) := by
    intro k o' e hk ho' he hb
    simp only [Bool.or_eq_true] at hk ⊢
    rcases hk with hk | hk
    · exact .inl (h.closed k o' e hk ho' he hb)
    · have := Nat.eq_of_beq_eq_true hk
      subst this
      rw [ho] at ho'
      simp only [Option.some.injEq] at ho'
      subst ho'
      exact .inl (hready e he hb)
  have before : ∀ j, Must ops i j → j ≠ i → S j = true := fun j hj hne => by
    have := hj _ hS' (by simp)
    simp only [Bool.or_eq_true] at this
    exact this.resolve_right fun hb => hne (Nat.eq_of_beq_eq_true hb)
  have after' : ∀ j, Must ops j i → S j = false := fun j hj => by
    cases hS : S j with
    | false => rfl
    | true => have := hj S h.closed hS; rw [hSi] at this; cases this
  rcases hx with hx | hx
  · exact ⟨fun hlt => before j (hst.eff j i hlt hj hx) (by omega), fun hlt => after' j (hst.eff i j hlt hx hj)⟩
  · exact ⟨fun hlt => before j ((hst.fix i o hx j hj).1 hlt) (by omega), fun hlt => after' j ((hst.fix i o hx j hj).2 hlt)⟩

theorem val_run (ht : TraceD P F K0 nt ops l tr) (hst : Static P ow ops l) (hF : OpLift F P) {Q : Exit → Act → World → Prop} (hQ : ∀ K a w, K0.le K → SatT nt K (tr ops.size).1 (tr ops.size).2 a w → Q .normal a w) :
    ∀ (L : List Nat) (listed : Array Bool) (a : Act) (w : World), listed.size = ops.size → Val ops listed L → DInv2 nt ops l tr K0 (fun k => listed.getD k false) a w → wpOpsIn F 0 P ops Q L a w
  | [], listed, a, w, hsz, hv, h => by
    have hr : Region.ready .any ops listed = [] := hv
    have hall : ∀ i, i < ops.size → listed.getD i false = true := by
      intro i
      induction i using Nat.strongRecOn with
      | _ i ih =>
        intro hi
        cases hl : listed.getD i false with
        | true => rfl
        | false =>
          obtain ⟨o, ho⟩ : ∃ o, ops[i]? = some o := ⟨_, Array.getElem?_eq_getElem hi⟩
          have : i ∈ Region.ready .any ops listed := by
            rw [mem_ready]
            refine ⟨?_, o, ho, fun e he hb => ih e.on (hst.sched i o e ho he hb) (by have := hst.sched i o e ho he hb; omega)⟩
            simp only [Array.getD_eq_getD_getElem?] at hl ⊢
            rw [Array.getElem?_eq_getElem (by omega)] at hl ⊢
            exact hl
          rw [hr] at this
          cases this
    obtain ⟨K, hK, hs⟩ := h.done ht hst.b hall
    exact hQ K a w hK hs
  | i :: rest, listed, a, w, hsz, hv, h => by
    obtain ⟨hi, hv⟩ := hv
    obtain ⟨h0, o, ho, hall⟩ := mem_ready.1 hi
    have hlt := (Array.getElem?_eq_some_iff.1 ho).1
    have hSi : listed.getD i false = false := by
      simp only [Array.getD_eq_getD_getElem?] at h0 ⊢
      rw [Array.getElem?_eq_getElem (by omega)] at h0 ⊢
      exact h0
    have hset : (fun k => (listed.setIfInBounds i true).getD k false) = fun k => listed.getD k false || Nat.beq k i := by
      funext k
      by_cases hk : k = i
      · subst hk
        simp [hsz, hlt]
      · have hb : Nat.beq k i = false := by
          cases hb : Nat.beq k i with
          | false => rfl
          | true => exact absurd (Nat.eq_of_beq_eq_true hb) hk
        rw [hb, Bool.or_false]
        simp [Array.getElem?_setIfInBounds_ne (Ne.symm hk)]
    unfold wpOpsIn
    simp only [ho]
    refine h.step ht hst.b hF ho hSi hall (hord_of hst h ho hSi hall) (fun lo hi hl => hst.flo i o lo hi hl) fun a' w' hd => val_run ht hst hF hQ rest _ a' w' (by simp [hsz]) hv ?_
    rw [hset]; exact hd

theorem drawT_sound (hc : GoodCall P call) (hlow : GoodLow P low) (hF : OpLift F P) (hY : YGood P F K0 Y) {id : Nat} {t t' : Tr} {o o' : Objs} {K : Ctx} {a : Act} {w : World} {Q : Exit → Act → World → Prop} (hle : K0.le K) (h : SatT nt K t o a w)
    (hr : drawT P call low ow nt Y ops t o = .ok t' o') (hQ : ∀ K a w, K0.le K → SatT nt K t' o' a w → Q .normal a w) : (Code.region id ops true).wpIn F 0 P Q a w := by
  unfold drawT at hr
  split at hr
  · rename_i hmix
    split at hr
    · rename_i l hl
      have hst := statD_ok hl
      obtain ⟨tr, BsF, RdF, q1, q2, q3, q4, q5, q6⟩ := runD_tr l 0 t o _ _ t' o' hr
      have ht : TraceD P F K0 nt ops l tr := trace_of hc hlow hF hY hst q3 (q4 _ (by rw [q1]; exact List.mem_cons_self ..)) fun k op dk hk => by
        have := q6 k op dk hk
        rw [Nat.zero_add] at this
        exact this
      rw [Nat.zero_add, hst.len] at q2
      refine wpIn_region_draw fun tt => ?_
      simp only [Region.schedule, hmix, Bool.true_or, if_true]
      refine val_run ht hst hF (Q := Q) (fun K a w hK hs => hQ K a w hK (by rw [q2] at hs; exact hs)) _ _ a _ (by simp) (lin_val ops.size tt _ (by simp) (Nat.le_trans (List.length_filter_le _ _) (by simp))) ?_
      have hf : ∀ k, (Array.replicate ops.size false).getD k false = false := fun k => by
        simp only [Array.getD_eq_getD_getElem?, Array.getElem?_replicate]
        split <;> rfl
      refine ⟨(fun i o e hi => by simp only [hf] at hi; cases hi), h.size, K, 0, hle, h.defers, Nat.zero_le _, .inl rfl, by rw [q1]; exact h.mem.drawn _, fun j _ => by simp only [hf]; simp, (fun j o d _ _ hS => by simp only [hf] at hS; cases hS), fun t _ => by rw [q1]; exact h.slot t⟩
    · cases hr
  · cases hr

end
end Go.Fw

namespace Go.Fw
set_option linter.unusedSimpArgs false
set_option linter.unusedVariables false
open Go.RowKit

/-- A block set aside. -/
def Ctx.aside (K : Ctx) (b : Nat) (x : Obj) : Ctx := { K with B := fun b' => if b' = b then some x else K.B b' }

theorem le_aside {K : Ctx} {b : Nat} {x : Obj} (h : K.B b = none) : K.le (K.aside b x) :=
  ⟨fun _ _ _ h => h, fun _ _ _ _ => rfl, fun _ _ _ _ => rfl, Nat.le_refl _, fun _ _ => Nat.le_refl _, rfl, fun b' y hy => by
    show (if b' = b then _ else _) = _
    rw [if_neg (by rintro rfl; rw [h] at hy; cases hy)]
    exact hy, fun _ _ _ _ => rfl⟩

/-- A block let into memory again. -/
def Ctx.unaside (K : Ctx) (b : Nat) : Ctx := { K with B := fun b' => if b' = b then none else K.B b' }

section
variable {K K0 : Ctx} {o : Objs} {w : World}

theorem MemSat.noM (h : MemSat K o w) (i : Nat) : K.M w.heap.size i = none := by
  cases hM : K.M w.heap.size i with
  | none => rfl
  | some u => exact absurd (h.M_lt hM) (by omega)

theorem MemSat.asideAlloc (h : MemSat K o w) (c : Array Value) (t : TypeId) : K.B w.heap.size = none ∧ MemSat (K.aside w.heap.size (.cells c t)) o (w.alloc (.cells c t)) := by
  have hB : K.B w.heap.size = none := h.below.fresh (Nat.le_refl _)
  have hle := le_aside (x := .cells c t) hB
  refine ⟨hB, h.len, h.ver, fun q p hp => ?_, fun q p hp hl hC => ?_, h.dis, fun b i u hu => ?_, ?_⟩
  · refine (h.obj q p hp).mono hle (h.olt hp) (by rw [h.ver q p hp]; exact Nat.le_refl _) (fun hl hC => ?_)
    exact Below.heap_alloc _ _ _ (h.lo q p hp hl hC).2.1
  · obtain ⟨g1, g2, g3⟩ := h.lo q p hp hl hC
    have g2' : K.ρ q p.1 < w.heap.size := g2
    refine ⟨?_, by show K.ρ q p.1 < (w.heap.push _).size; rw [Array.size_push]; omega, g3⟩
    show (if K.ρ q p.1 = w.heap.size then _ else _) = _
    rw [if_neg (by omega)]
    exact g1
  · have hlt := h.M_lt (b := b) (i := i) hu
    have := h.mem b i u hu
    exact ⟨(World.cell?_alloc_old w _ _ (Nat.ne_of_lt hlt)).trans this.1, this.2⟩
  · have p := h.below.alloc (L := K) rfl rfl (.cells c t)
    refine ⟨p.os, p.tape, p.output, p.size, fun b x hx => ?_⟩
    have hx : (if b = w.heap.size then some (Obj.cells c t) else K.B b) = some x := hx
    by_cases e : b = w.heap.size
    · rw [if_pos e] at hx
      injection hx with hx
      rw [← hx, e]
      show (w.heap.push _)[w.heap.size]? = _
      rw [Array.getElem?_push, if_pos rfl]
    · rw [if_neg e] at hx
      exact p.block b x hx

theorem le_unaside {b c : Nat} (hK : K0.le K) (h0 : K0.B b = none) : K0.le ((K.unaside b).newObj b c) := by
  have h1 : K0.le (K.unaside b) := ⟨hK.M, hK.ρ, hK.C, hK.n, hK.vs, hK.w0, fun b' x hx => by
    show (if b' = b then none else K.B b') = some x
    rw [if_neg (by rintro rfl; rw [h0] at hx; cases hx)]
    exact hK.B b' x hx, hK.M0⟩
  exact h1.trans (le_newObj _ _ _)

theorem leR_unaside (K : Ctx) (b c : Nat) : K.leR ((K.unaside b).newObj b c) := by
  have h := (le_newObj (K.unaside b) b c).r
  exact ⟨fun b i u hu => h.M b i u hu, fun o v ho hv => h.ρ o v ho hv, fun o v ho hv => h.C o v ho hv, h.n, fun o ho => h.vs o ho⟩

theorem MemSat.unaside (h : MemSat K o w) {b : Nat} {c : Array Value} {t : TypeId} (hB : K.B b = some (.cells c t)) (hM : ∀ i, K.M b i = none) (h1 : ∀ u ∈ c.toList, u.oneCell' = true) :
    MemSat ((K.unaside b).newObj b 1) (o ++ [(0, .row t c.size [c.toList.map .lit])]) w := by
  have hb : w.heap[b]? = some (.cells c t) := h.below.block _ _ hB
  have hlt : b < w.heap.size := (Array.getElem?_eq_some_iff.1 hb).1
  have hleR := leR_unaside K b 1
  have cases_o : ∀ (q : Nat) (p : Nat × AObj), (o ++ [(0, AObj.row t c.size [c.toList.map AVal.lit])])[q]? = some p → (o[q]? = some p ∧ q < K.n) ∨ (q = K.n ∧ p = (0, .row t c.size [c.toList.map .lit])) := by
    intro q p hp
    rcases Nat.lt_trichotomy q K.n with hlt | heq | hgt
    · left
      rw [List.getElem?_append_left (by rw [h.len]; exact hlt)] at hp
      exact ⟨hp, hlt⟩
    · right
      subst heq
      rw [List.getElem?_append_right (by rw [h.len]; exact Nat.le_refl _), h.len, Nat.sub_self] at hp
      exact ⟨rfl, by simpa using hp.symm⟩
    · rw [List.getElem?_eq_none (by simp [h.len]; omega)] at hp
      cases hp
  have nn : ∀ q, q < K.n → q ≠ (K.unaside b).n := fun q hq e => by have e : q = K.n := e; omega
  have e1 : ∀ q v, q < K.n → ((K.unaside b).newObj b 1).C q v = K.C q v := fun q v hq => if_neg (nn q hq)
  have e2 : ∀ q v, q < K.n → ((K.unaside b).newObj b 1).ρ q v = K.ρ q v := fun q v hq => if_neg (nn q hq)
  have e3 : ∀ v, ((K.unaside b).newObj b 1).ρ K.n v = b := fun v => by simp [Ctx.newObj, Ctx.unaside]
  have ne : ∀ q p, o[q]? = some p → p.2.live = true → K.C q p.1 ≠ 0 → K.ρ q p.1 ≠ b := fun q p hp hl hC e => by
    have := (h.lo q p hp hl hC).1
    rw [e, hB] at this; cases this
  refine ⟨by simp [Ctx.newObj, Ctx.unaside, h.len], fun q p hp => ?_, fun q p hp => ?_, fun q p hp hl hC => ?_, fun q q' p p' hp hp' hl hl' hC hC' hne => ?_, h.mem, ⟨h.below.os, h.below.tape, h.below.output, h.below.size, fun b' x hx => ?_⟩⟩
  · rcases cases_o q p hp with ⟨hp, hlt⟩ | ⟨rfl, rfl⟩
    · have e : ((K.unaside b).newObj b 1).vs q = K.vs q := if_neg (nn q hlt)
      rw [e]; exact h.ver q p hp
    · simp [Ctx.newObj, Ctx.unaside]
  · rcases cases_o q p hp with ⟨hp, hlt⟩ | ⟨rfl, rfl⟩
    · exact ObjSat.monoR hleR hlt (by rw [h.ver q p hp]; exact Nat.le_refl _) (h.obj q p hp) fun _ _ => rfl
    · refine ⟨fun e he => ?_, by simp [Ctx.newObj, Ctx.unaside], fun _ => ⟨c, ?_, by simp [Ctx.newObj, Ctx.unaside], h1, fun i j e x he hx => ?_⟩⟩
      · simp only [List.mem_singleton] at he; subst he; simp
      · refine RowAt.plain ?_
        rw [e3]; exact hb
      · cases i with
        | zero =>
          simp only [List.getElem?_cons_zero, Option.some.injEq] at he
          subst he
          simp only [List.getElem?_map, Array.getElem?_toList] at hx
          cases hc : c[j]? with
          | none => rw [hc] at hx; cases hx
          | some u =>
            rw [hc] at hx
            simp only [Option.map_some, Option.some.injEq] at hx
            subst hx
            exact ⟨u, by simpa using hc, .lit u⟩
        | succ i => simp at he
  · rcases cases_o q p hp with ⟨hp, hlt'⟩ | ⟨rfl, rfl⟩
    · rw [e1 _ _ hlt'] at hC
      obtain ⟨g1, g2, g3⟩ := h.lo q p hp hl hC
      rw [e2 _ _ hlt']
      refine ⟨?_, g2, g3⟩
      show (if K.ρ q p.1 = b then none else K.B (K.ρ q p.1)) = none
      split
      · rfl
      · exact g1
    · show _ ∧ _ ∧ ∀ i, K.M (((K.unaside b).newObj b 1).ρ K.n 0) i = none
      rw [e3]
      refine ⟨?_, hlt, hM⟩
      show (if b = b then none else K.B b) = none
      rw [if_pos rfl]
  · rcases cases_o q p hp with ⟨hp, hlt1⟩ | ⟨rfl, rfl⟩ <;> rcases cases_o q' p' hp' with ⟨hp', hlt2⟩ | ⟨rfl, rfl⟩
    · rw [e2 _ _ hlt1, e2 _ _ hlt2]
      rw [e1 _ _ hlt1] at hC
      rw [e1 _ _ hlt2] at hC'
      exact h.dis q q' p p' hp hp' hl hl' hC hC' hne
    · rw [e2 _ _ hlt1, e3]
      rw [e1 _ _ hlt1] at hC
      exact ne q p hp hl hC
    · rw [e2 _ _ hlt2, e3]
      rw [e1 _ _ hlt2] at hC'
      exact (ne q' p' hp' hl' hC').symm
    · exact absurd rfl hne
  · have hx : (if b' = b then none else K.B b') = some x := hx
    split at hx
    · cases hx
    · exact h.below.block b' x hx

end
end Go.Fw
