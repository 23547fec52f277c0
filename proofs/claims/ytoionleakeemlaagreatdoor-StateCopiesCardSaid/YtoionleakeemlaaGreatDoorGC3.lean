/-
  A region that draws its order, walked in some ways that together are all; a function's text proved part by part. No condition.
-/
import Derived.Test.YtoionleakeemlaaGreatDoorGC2
namespace Go.Fw
open Go.RowKit

/-- One more edge: the operation i stands ahead. -/
def edgeTo (i : Nat) (o : Oper) : Oper := { o with after := (⟨i, .data⟩ :: o.after.toList).toArray }
def addL (i : Nat) : Nat → List Oper → List Oper
  | _, [] => []
  | 0, o :: r => edgeTo i o :: r
  | j + 1, o :: r => o :: addL i j r

def tr2 (p k : Nat) : Nat := bif Nat.beq k p then p + 1 else bif Nat.beq k (p + 1) then p else k
def reE (p : Nat) (o : Oper) : Oper := { o with after := (o.after.toList.map fun e => ⟨tr2 p e.on, e.ground⟩).toArray, guard := (match o.guard with | some g => some (tr2 p g.1, g.2) | none => none) }
def swapL : Nat → List Oper → List Oper
  | 0, a :: b :: r => b :: a :: r
  | p + 1, a :: r => a :: swapL p r
  | _, l => l

/-- p ahead of p + 1; and the other way around, the two exchanged. -/
def way1 (p : Nat) (ops : Array Oper) : Array Oper := (addL p (p + 1) ops.toList).toArray
def way2 (p : Nat) (ops : Array Oper) : Array Oper := (swapL p ((addL (p + 1) p ops.toList).map (reE p))).toArray

theorem addL_get (i : Nat) : ∀ (j : Nat) (l : List Oper) (k : Nat), (addL i j l)[k]? = if k = j then (l[k]?).map (edgeTo i) else l[k]?
  | _, [], k => by simp [addL]
  | 0, o :: r, 0 => by simp [addL]
  | 0, o :: r, k + 1 => by simp [addL]
  | j + 1, o :: r, 0 => by simp [addL]
  | j + 1, o :: r, k + 1 => by
    simp only [addL, List.getElem?_cons_succ, addL_get i j r k, Nat.add_right_cancel_iff]

theorem addL_len (i : Nat) : ∀ (j : Nat) (l : List Oper), (addL i j l).length = l.length
  | _, [] => by simp [addL]
  | 0, o :: r => by simp [addL]
  | j + 1, o :: r => by simp [addL, addL_len i j r]

theorem tr2_tr2 (p k : Nat) : tr2 p (tr2 p k) = k := by
  unfold tr2
  cases h1 : Nat.beq k p with
  | true =>
    have := Nat.eq_of_beq_eq_true h1
    subst this
    have h2 : Nat.beq (k + 1) k = false := by cases h : Nat.beq (k + 1) k with | false => rfl | true => exact absurd (Nat.eq_of_beq_eq_true h) (by omega)
    simp [h2]
  | false =>
    cases h2 : Nat.beq k (p + 1) with
    | true =>
      have := Nat.eq_of_beq_eq_true h2
      subst this
      simp
    | false => simp [h1, h2]

theorem tr2_lt {p k n : Nat} (hp : p + 1 < n) : tr2 p k < n ↔ k < n := by
  unfold tr2
  cases h1 : Nat.beq k p with
  | true => have := Nat.eq_of_beq_eq_true h1; simp only [cond_true]; omega
  | false =>
    cases h2 : Nat.beq k (p + 1) with
    | true => have := Nat.eq_of_beq_eq_true h2; simp only [cond_true, cond_false]; omega
    | false => simp

theorem swapL_len : ∀ (p : Nat) (l : List Oper), (swapL p l).length = l.length
  | 0, [] => rfl
  | 0, [a] => rfl
  | 0, a :: b :: r => rfl
  | p + 1, [] => rfl
  | p + 1, a :: r => by simp [swapL, swapL_len p r]

theorem swapL_get : ∀ (p : Nat) (l : List Oper) (k : Nat), p + 1 < l.length → (swapL p l)[tr2 p k]? = l[k]?
  | 0, [], _, h => absurd h (by simp)
  | 0, [a], _, h => absurd h (by simp)
  | 0, a :: b :: r, 0, _ => rfl
  | 0, a :: b :: r, 1, _ => rfl
  | 0, a :: b :: r, k + 2, _ => rfl
  | p + 1, [], _, h => absurd h (by simp)
  | p + 1, a :: r, 0, _ => rfl
  | p + 1, a :: r, k + 1, h => by
    have ih := swapL_get p r k (by simpa using h)
    have e : tr2 (p + 1) (k + 1) = tr2 p k + 1 := by
      show (bif Nat.beq k p then p + 1 + 1 else bif Nat.beq k (p + 1) then p + 1 else k + 1) = (bif Nat.beq k p then p + 1 else bif Nat.beq k (p + 1) then p else k) + 1
      cases Nat.beq k p <;> cases Nat.beq k (p + 1) <;> rfl
    rw [e]
    simpa [swapL] using ih

section
variable {P : Program} {md : Region.Mode} {Q : Exit → Act → World → Prop}

/-- Operations that are the same but for the edges. -/
structure SameOps (σ : Nat → Nat) (ops ops' : Array Oper) : Prop where
  get : ∀ k, ∃ f : Oper → Array Edge, ops'[σ k]? = (ops[k]?).map fun o => { o with after := f o, guard := (match o.guard with | some g => some (σ g.1, g.2) | none => none) }

theorem SameOps.yielded {σ : Nat → Nat} {ops ops' : Array Oper} (h : SameOps σ ops ops') (tmps : Array Value) (k : Nat) : yielded ops' tmps (σ k) = yielded ops tmps k := by
  obtain ⟨f, e⟩ := h.get k
  unfold Go.yielded
  rw [e]
  cases ops[k]? <;> rfl

theorem SameOps.wpOp {σ : Nat → Nat} {ops ops' : Array Oper} (h : SameOps σ ops ops') {k : Nat} {K : Act → World → Prop} {a : Act} {w : World} : wpOp P ops' Q (σ k) K a w ↔ wpOp P ops Q k K a w := by
  obtain ⟨f, e⟩ := h.get k
  unfold Go.wpOp
  rw [e]
  cases ho : ops[k]? with
  | none => exact Iff.rfl
  | some o =>
    have hw : Region.wanted ({ o with after := f o, guard := (match o.guard with | some g => some (σ g.1, g.2) | none => none) } : Oper) (Go.yielded ops' a.tmps) = Region.wanted o (Go.yielded ops a.tmps) := by
      unfold Region.wanted
      cases hg : o.guard with
      | none => rfl
      | some g =>
        simp only
        rw [h.yielded]
    simp only [Option.map_some]
    rw [hw]
    exact Iff.rfl

/-- Operations that call nothing. -/
def plainOp : Op → Bool
  | .move _ | .assign _ | .alloc _ | .box .. | .build .. | .buildSlice .. | .load .. | .store .. | .binOp .. | .fieldAddr .. | .field .. | .indexAddr .. | .index .. => true
  | _ => false

theorem plain_run {ρ : Operand → Value} {o : Oper} {w w' : World} {x : Next} (hp : plainOp o.op = true) (h : (execOp ρ o).run P w = .ok x w') : (∃ v, x = .value v) ∨ x = .skip := by
  have val : ∀ m : Sem Value, (do pure (Next.value (← m)) : Sem Next).run P w = .ok x w' → ∃ v, x = .value v := by
    intro m hm
    simp only [Sem.run_bind] at hm
    cases hr : m.run P w with
    | ok u w1 =>
      rw [hr] at hm
      simp only [Result.andThen_ok, Sem.run_pure] at hm
      injection hm with h1 _
      exact ⟨u, h1.symm⟩
    | halt e w1 => rw [hr] at hm; cases hm
  obtain ⟨dst, op, type, pos, after, guard⟩ := o
  cases op <;> simp only [plainOp] at hp <;> first | (cases hp; done) | skip
  case store t a y =>
    right
    simp only [execOp, Sem.run_bind] at h
    cases hr : (Instr.storeAt t (ρ a) (ρ y)).run P w with
    | ok u w1 =>
      rw [hr] at h
      simp only [Result.andThen_ok, Sem.run_pure] at h
      injection h with h1 _
      exact h1.symm
    | halt e w1 => rw [hr] at h; cases h
  case move y => simp only [execOp, Sem.run_pure] at h; injection h with h1 _; exact .inl ⟨_, h1.symm⟩
  case assign y => simp only [execOp, Sem.run_pure] at h; injection h with h1 _; exact .inl ⟨_, h1.symm⟩
  all_goals exact .inl (val _ h)

theorem wpOp_and {ops : Array Oper} {k : Nat} {K1 K2 K : Act → World → Prop} {a : Act} {w : World} (hp : ∀ o, ops[k]? = some o → plainOp o.op = true) (h : ∀ a w, K1 a w → K2 a w → K a w) (h1 : wpOp P ops Q k K1 a w) (h2 : wpOp P ops Q k K2 a w) : wpOp P ops Q k K a w := by
  unfold Go.wpOp at *
  cases ho : ops[k]? with
  | none => simp only [ho] at h1 h2 ⊢; exact h _ _ h1 h2
  | some o =>
    simp only [ho] at h1 h2 ⊢
    split
    · rename_i hw
      rw [if_pos hw] at h1 h2
      rcases h1 with h1 | h1
      · rcases h2 with h2 | h2
        · left
          unfold Oper.wp at *
          cases hr : (execOp a.eval o).run P w with
          | ok x w' =>
            rw [hr] at h1 h2
            rcases plain_run (hp o ho) hr with ⟨v, rfl⟩ | rfl
            · exact h _ _ h1 h2
            · exact h _ _ h1 h2
          | halt x w' =>
            rw [hr] at h1
            cases x <;> exact h1
        · exact .inr h2
      · exact .inr h1
    · rename_i hw
      rw [if_neg hw] at h1 h2
      exact h _ _ h1 h2

theorem wpOp_mono {ops : Array Oper} {k : Nat} {K K' : Act → World → Prop} {a : Act} {w : World} (h : ∀ a w, K a w → K' a w) (h1 : wpOp P ops Q k K a w) : wpOp P ops Q k K' a w := by
  unfold Go.wpOp at *
  cases ho : ops[k]? with
  | none => simp only [ho] at h1 ⊢; exact h _ _ h1
  | some o =>
    simp only [ho] at h1 ⊢
    split
    · rename_i hw
      rw [if_pos hw] at h1
      exact h1.imp (Oper.wp_mono h) id
    · rename_i hw
      rw [if_neg hw] at h1
      exact h _ _ h1

/-! one more edge -/

theorem way_same (i j : Nat) (ops : Array Oper) : SameOps id ops (addL i j ops.toList).toArray := by
  refine ⟨fun k => ?_⟩
  simp only [id, List.getElem?_toArray, addL_get, Array.getElem?_toList]
  by_cases h : k = j
  · refine ⟨fun o => (⟨i, .data⟩ :: o.after.toList).toArray, ?_⟩
    rw [if_pos h]
    cases ops[k]? with
    | none => rfl
    | some o => cases o; simp only [Option.map_some, edgeTo]; congr 2; cases ‹Option Tag› <;> rfl
  · refine ⟨fun o => o.after, ?_⟩
    rw [if_neg h]
    cases ops[k]? with
    | none => rfl
    | some o => cases o; simp only [Option.map_some]; congr 2; cases ‹Option Tag› <;> rfl

theorem way_ready {i j : Nat} {ops : Array Oper} {listed : Array Bool} {k : Nat} : k ∈ Region.ready md (addL i j ops.toList).toArray listed ↔ k ∈ Region.ready md ops listed ∧ (k = j → listed.getD i false = true) := by
  rw [mem_ready, mem_ready]
  simp only [List.getElem?_toArray, addL_get, Array.getElem?_toList]
  by_cases h : k = j
  · subst h
    simp only [if_true]
    cases ops[k]? with
    | none => simp
    | some o =>
      constructor
      · rintro ⟨h1, o', ho, h2⟩
        simp only [Option.map_some, Option.some.injEq] at ho
        subst ho
        refine ⟨⟨h1, o, rfl, fun e he hb => h2 e (by simp [edgeTo]; exact .inr he) hb⟩, fun _ => h2 ⟨i, .data⟩ (by simp [edgeTo]) rfl⟩
      · rintro ⟨⟨h1, o', ho, h2⟩, h3⟩
        simp only [Option.some.injEq] at ho
        subst ho
        refine ⟨h1, _, rfl, fun e he hb => ?_⟩
        simp only [edgeTo, List.mem_toArray, List.mem_cons, Array.mem_toList_iff] at he
        rcases he with rfl | he
        · simpa using h3
        · exact h2 e he hb
  · simp only [if_neg h]
    exact ⟨fun q => ⟨q, fun e => absurd e h⟩, fun q => q.1⟩

theorem getD_set {l : Array Bool} {i k : Nat} (h : l.getD i true = false) : (l.setIfInBounds i true).getD k false = (l.getD k false || decide (k = i)) := by
  have hi : i < l.size := by
    rcases Nat.lt_or_ge i l.size with h' | h'
    · exact h'
    · simp [Array.getElem?_eq_none h'] at h
  by_cases hk : k = i
  · subst hk
    simp [hi]
  · simp [Array.getElem?_setIfInBounds_ne (Ne.symm hk), hk]

/-- The edge is met: nothing is asked by it any more. -/
theorem way_met {i j : Nat} {ops : Array Oper} : ∀ (fuel : Nat) (listed : Array Bool) (a : Act) (w : World), listed.getD i false = true → wpAny P md (addL i j ops.toList).toArray Q fuel listed a w → wpAny P md ops Q fuel listed a w := by
  intro fuel
  have hr : ∀ listed : Array Bool, listed.getD i false = true → Region.ready md ops listed = [] → Region.ready md (addL i j ops.toList).toArray listed = [] := by
    intro listed hl h
    rw [List.eq_nil_iff_forall_not_mem] at h ⊢
    exact fun k hk => h k (way_ready.1 hk).1
  induction fuel with
  | zero =>
    intro listed a w hl h
    refine ⟨?_, h.2⟩
    have h1 := h.1
    rw [List.eq_nil_iff_forall_not_mem] at h1 ⊢
    exact fun k hk => h1 k (way_ready.2 ⟨hk, fun _ => hl⟩)
  | succ fuel ih =>
    intro listed a w hl h
    refine ⟨fun hn => h.1 (hr listed hl hn), fun k hk => ?_⟩
    have h2 := h.2 k (way_ready.2 ⟨hk, fun _ => hl⟩)
    have h3 := (way_same i j ops).wpOp.1 h2
    refine wpOp_mono (fun a w hx => ih _ a w ?_ hx) h3
    rw [getD_set (mem_ready.1 hk).1, hl]
    rfl

/-- Whatever the order: one of the two stands ahead. -/
theorem way_split {i j : Nat} {ops : Array Oper} (hp : ∀ (k : Nat) (o : Oper), ops[k]? = some o → plainOp o.op = true) (hne : i ≠ j) : ∀ (fuel : Nat) (listed : Array Bool) (a : Act) (w : World),
    wpAny P md (addL i j ops.toList).toArray Q fuel listed a w → wpAny P md (addL j i ops.toList).toArray Q fuel listed a w → wpAny P md ops Q fuel listed a w := by
  intro fuel
  induction fuel with
  | zero =>
    intro listed a w h1 h2
    refine ⟨?_, h1.2⟩
    have q1 := h1.1
    have q2 := h2.1
    rw [List.eq_nil_iff_forall_not_mem] at q1 q2 ⊢
    intro k hk
    by_cases hkj : k = j
    · exact q2 k (way_ready.2 ⟨hk, fun e => absurd (e.symm.trans hkj) hne⟩)
    · exact q1 k (way_ready.2 ⟨hk, fun e => absurd e hkj⟩)
  | succ fuel ih =>
    intro listed a w h1 h2
    refine ⟨fun hn => h1.1 ?_, fun k hk => ?_⟩
    · rw [List.eq_nil_iff_forall_not_mem] at hn ⊢
      exact fun k hk => hn k (way_ready.1 hk).1
    · have hl := (mem_ready.1 hk).1
      by_cases hkj : k = j
      · subst hkj
        have q2 := (way_same k i ops).wpOp.1 (h2.2 k (way_ready.2 ⟨hk, fun e => absurd e.symm hne⟩))
        refine wpOp_mono (fun a w hx => way_met _ _ a w ?_ hx) q2
        rw [getD_set hl]
        simp
      · by_cases hki : k = i
        · subst hki
          have q1 := (way_same k j ops).wpOp.1 (h1.2 k (way_ready.2 ⟨hk, fun e => absurd e hkj⟩))
          refine wpOp_mono (fun a w hx => way_met _ _ a w ?_ hx) q1
          rw [getD_set hl]
          simp
        · have q1 := (way_same i j ops).wpOp.1 (h1.2 k (way_ready.2 ⟨hk, fun e => absurd e hkj⟩))
          have q2 := (way_same j i ops).wpOp.1 (h2.2 k (way_ready.2 ⟨hk, fun e => absurd e hki⟩))
          exact wpOp_and (hp k) (fun a w x1 x2 => ih _ a w x1 x2) q1 q2

/-! two exchanged -/

theorem swap_same {p : Nat} {ops : Array Oper} (h : p + 1 < ops.size) : SameOps (tr2 p) ops (swapL p (ops.toList.map (reE p))).toArray := by
  refine ⟨fun k => ⟨fun o => (o.after.toList.map fun e => ⟨tr2 p e.on, e.ground⟩).toArray, ?_⟩⟩
  rw [List.getElem?_toArray, swapL_get p _ k (by simpa using h), List.getElem?_map, Array.getElem?_toList]
  rfl

theorem swap_ready {p : Nat} {ops : Array Oper} (h : p + 1 < ops.size) {listed listed' : Array Bool} (hsz : listed.size = ops.size) (hsz' : listed'.size = ops.size) (hl : ∀ k, listed'.getD (tr2 p k) false = listed.getD k false) {k : Nat} :
    tr2 p k ∈ Region.ready md (swapL p (ops.toList.map (reE p))).toArray listed' ↔ k ∈ Region.ready md ops listed := by
  obtain ⟨f, e⟩ := (swap_same h).get k
  have hg : (swapL p (ops.toList.map (reE p))).toArray[tr2 p k]? = (ops[k]?).map (reE p) := by
    rw [List.getElem?_toArray, swapL_get p _ k (by simpa using h), List.getElem?_map, Array.getElem?_toList]
  have ht : listed'.getD (tr2 p k) true = listed.getD k true := by
    have := hl k
    rcases Nat.lt_or_ge k ops.size with hk | hk
    · have hk' := (tr2_lt h).2 hk
      simp only [Array.getD_eq_getD_getElem?] at this ⊢
      rw [Array.getElem?_eq_getElem (by omega), Array.getElem?_eq_getElem (by omega)] at this ⊢
      exact this
    · have hk' : ¬ tr2 p k < ops.size := fun q => absurd ((tr2_lt h).1 q) (by omega)
      simp only [Array.getD_eq_getD_getElem?]
      rw [Array.getElem?_eq_none (by omega), Array.getElem?_eq_none (by omega)]
  rw [mem_ready, mem_ready, hg, ht]
  cases ops[k]? with
  | none => simp
  | some o =>
    simp only [Option.map_some, Option.some.injEq, exists_eq_left']
    refine and_congr_right fun _ => ⟨fun q e he hb => ?_, fun q e he hb => ?_⟩
    · have := q ⟨tr2 p e.on, e.ground⟩ (by simp only [reE, List.mem_toArray, List.mem_map]; exact ⟨e, Array.mem_toList_iff.2 he, rfl⟩) hb
      rw [← hl e.on]
      exact this
    · simp only [reE, List.mem_toArray, List.mem_map] at he
      obtain ⟨e', he', rfl⟩ := he
      rw [hl]
      exact q e' (Array.mem_toList_iff.1 he') hb

theorem swap_any {p : Nat} {ops : Array Oper} (h : p + 1 < ops.size) : ∀ (fuel : Nat) (listed listed' : Array Bool) (a : Act) (w : World), listed.size = ops.size → listed'.size = ops.size → (∀ k, listed'.getD (tr2 p k) false = listed.getD k false) →
    wpAny P md (swapL p (ops.toList.map (reE p))).toArray Q fuel listed' a w → wpAny P md ops Q fuel listed a w := by
  intro fuel
  have empty : ∀ listed listed' : Array Bool, listed.size = ops.size → listed'.size = ops.size → (∀ k, listed'.getD (tr2 p k) false = listed.getD k false) → (Region.ready md (swapL p (ops.toList.map (reE p))).toArray listed' = [] ↔ Region.ready md ops listed = []) := by
    intro listed listed' h1 h2 hl
    rw [List.eq_nil_iff_forall_not_mem, List.eq_nil_iff_forall_not_mem]
    refine ⟨fun q k hk => q _ ((swap_ready h h1 h2 hl).2 hk), fun q k hk => ?_⟩
    rw [← tr2_tr2 p k] at hk
    exact q _ ((swap_ready h h1 h2 hl).1 hk)
  induction fuel with
  | zero =>
    intro listed listed' a w h1 h2 hl hx
    exact ⟨(empty _ _ h1 h2 hl).1 hx.1, hx.2⟩
  | succ fuel ih =>
    intro listed listed' a w h1 h2 hl hx
    refine ⟨fun hn => hx.1 ((empty _ _ h1 h2 hl).2 hn), fun k hk => ?_⟩
    have hk' := (swap_ready (md := md) h h1 h2 hl).2 hk
    have q := (swap_same h).wpOp.1 (hx.2 _ hk')
    refine wpOp_mono (fun a w hy => ih _ _ a w (by simp [h1]) (by simp [h2]) (fun m => ?_) hy) q
    rw [getD_set (mem_ready.1 hk).1, getD_set (mem_ready.1 hk').1, hl m]
    congr 1
    refine decide_eq_decide.2 ⟨fun e => ?_, fun e => by rw [e]⟩
    rw [← tr2_tr2 p m, e, tr2_tr2]

end

section
variable {P : Program} {nt : Nat} {slots : List (Nat × AVal)}
end
end Go.Fw
namespace Go.Fw
open Go.RowKit

section
variable {P : Program} {Q : Exit → Act → World → Prop} {nt : Nat}

/-- An order in which a region's operations may run. -/
def Val (ops : Array Oper) : Array Bool → List Nat → Prop
  | listed, [] => Region.ready .any ops listed = []
  | listed, i :: r => i ∈ Region.ready .any ops listed ∧ Val ops (listed.setIfInBounds i true) r

theorem any_val {ops : Array Oper} : ∀ (L : List Nat) (fuel : Nat) (listed : Array Bool) (a : Act) (w : World), wpAny P .any ops Q fuel listed a w → Val ops listed L → wpOps P ops Q L a w
  | [], 0, listed, a, w, h, _ => by simpa [wpOps] using h.2
  | [], fuel + 1, listed, a, w, h, hv => by simpa [wpOps] using h.1 hv
  | i :: r, 0, listed, a, w, h, hv => by have := hv.1; rw [h.1] at this; cases this
  | i :: r, fuel + 1, listed, a, w, h, hv => by
    rw [wpOps_cons]
    exact Go.wpOp_mono (fun a w hx => any_val r fuel _ a w hx hv.2) (h.2 i hv.1)

theorem lin_val {ops : Array Oper} : ∀ (fuel t : Nat) (listed : Array Bool), listed.size = ops.size → ((List.range ops.size).filter fun i => !listed.getD i false).length ≤ fuel → Val ops listed (Region.linearise.go .any ops fuel t listed []) := by
  intro fuel
  induction fuel with
  | zero =>
    intro t listed hsz hc
    show Region.ready .any ops listed = []
    rw [List.eq_nil_iff_forall_not_mem]
    intro i hi
    obtain ⟨h0, o, ho, _⟩ := mem_ready.1 hi
    have hlt := (Array.getElem?_eq_some_iff.1 ho).1
    have hSi : listed.getD i false = false := by
      simp only [Array.getD_eq_getD_getElem?] at h0 ⊢
      rw [Array.getElem?_eq_getElem (by omega)] at h0 ⊢
      exact h0
    have := List.length_pos_of_mem (List.mem_filter.2 ⟨List.mem_range.2 hlt, by rw [hSi]; rfl⟩ : i ∈ (List.range ops.size).filter fun i => !listed.getD i false)
    omega
  | succ fuel ih =>
    intro t listed hsz hc
    simp only [Region.linearise.go]
    change Val ops listed (match (Region.ready .any ops listed)[t % (Region.ready .any ops listed).length]? with
      | some i => Region.linearise.go .any ops fuel (t / (Region.ready .any ops listed).length) (listed.setIfInBounds i true) [i]
      | none => [].reverse)
    cases hi : (Region.ready .any ops listed)[t % (Region.ready .any ops listed).length]? with
    | none =>
      have hnil : Region.ready .any ops listed = [] := by
        cases hr : Region.ready .any ops listed with
        | nil => rfl
        | cons x xs =>
          rw [hr] at hi
          have hlt : t % (x :: xs).length < (x :: xs).length := Nat.mod_lt _ (by simp)
          simp at hi
          simp at hlt
          omega
      exact hnil
    | some i =>
      have hmem := List.mem_of_getElem? hi
      simp only []
      rw [linearise_go_acc, List.reverse_singleton, List.singleton_append]
      refine ⟨hmem, ih _ _ (by simp [hsz]) ?_⟩
      obtain ⟨h0, o, ho, _⟩ := mem_ready.1 hmem
      have hlt := (Array.getElem?_eq_some_iff.1 ho).1
      have hSi : listed.getD i false = false := by
        simp only [Array.getD_eq_getD_getElem?] at h0 ⊢
        rw [Array.getElem?_eq_getElem (by omega)] at h0 ⊢
        exact h0
      have hsub : ((List.range ops.size).filter fun k => !(listed.setIfInBounds i true).getD k false) = ((List.range ops.size).filter fun k => !listed.getD k false).filter fun k => !Nat.beq k i := by
        rw [List.filter_filter]
        congr 1
        funext k
        rw [getD_set h0, Bool.not_or, Bool.and_comm]
        congr 1
        cases hb : Nat.beq k i with
        | true => rw [decide_eq_true (Nat.eq_of_beq_eq_true hb)]
        | false => rw [decide_eq_false (fun e => by subst e; rw [Nat.beq_refl] at hb; cases hb)]
      rw [hsub]
      have hm2 : i ∈ (List.range ops.size).filter fun k => !listed.getD k false := List.mem_filter.2 ⟨List.mem_range.2 hlt, by rw [hSi]; rfl⟩
      have hlen : (((List.range ops.size).filter fun k => !listed.getD k false).filter fun k => !Nat.beq k i).length < ((List.range ops.size).filter fun k => !listed.getD k false).length :=
        List.length_filter_lt_length_iff_exists.2 ⟨i, hm2, by simp⟩
      omega

theorem val_met {i j : Nat} {ops : Array Oper} : ∀ (L : List Nat) (listed : Array Bool), listed.getD i false = true → Val ops listed L → Val (addL i j ops.toList).toArray listed L
  | [], listed, hl, h => by
    show Region.ready .any _ listed = []
    have h' : Region.ready .any ops listed = [] := h
    rw [List.eq_nil_iff_forall_not_mem] at h' ⊢
    exact fun k hk => h' k (way_ready.1 hk).1
  | k :: r, listed, hl, h => by
    refine ⟨way_ready.2 ⟨h.1, fun _ => hl⟩, val_met r _ ?_ h.2⟩
    rw [getD_set (mem_ready.1 h.1).1, hl]
    rfl

theorem val_split {i j : Nat} {ops : Array Oper} (hne : i ≠ j) : ∀ (L : List Nat) (listed : Array Bool), Val ops listed L → Val (addL i j ops.toList).toArray listed L ∨ Val (addL j i ops.toList).toArray listed L
  | [], listed, h => by
    left
    show Region.ready .any _ listed = []
    have h' : Region.ready .any ops listed = [] := h
    rw [List.eq_nil_iff_forall_not_mem] at h' ⊢
    exact fun k hk => h' k (way_ready.1 hk).1
  | k :: r, listed, h => by
    have hl := (mem_ready.1 h.1).1
    by_cases hkj : k = j
    · subst hkj
      right
      refine ⟨way_ready.2 ⟨h.1, fun e => absurd e.symm hne⟩, val_met r _ ?_ h.2⟩
      rw [getD_set hl]
      simp
    · by_cases hki : k = i
      · subst hki
        left
        refine ⟨way_ready.2 ⟨h.1, fun e => absurd e hkj⟩, val_met r _ ?_ h.2⟩
        rw [getD_set hl]
        simp
      · rcases val_split hne r _ h.2 with q | q
        · exact .inl ⟨way_ready.2 ⟨h.1, fun e => absurd e hkj⟩, q⟩
        · exact .inr ⟨way_ready.2 ⟨h.1, fun e => absurd e hki⟩, q⟩

theorem ops_same {i j : Nat} {ops : Array Oper} : ∀ (L : List Nat) (a : Act) (w : World), wpOps P (addL i j ops.toList).toArray Q L a w → wpOps P ops Q L a w
  | [], a, w, h => by simpa [wpOps] using h
  | k :: r, a, w, h => by
    rw [wpOps_cons] at h ⊢
    have h3 := (way_same i j ops).wpOp.1 h
    exact Go.wpOp_mono (fun a w hx => ops_same r a w hx) h3

/-- All orders are well. -/
def ValO (P : Program) (Q : Exit → Act → World → Prop) (ops : Array Oper) (a : Act) (w : World) : Prop := ∀ L, Val ops (Array.replicate ops.size false) L → wpOps P ops Q L a w
def AnyO (P : Program) (Q : Exit → Act → World → Prop) (ops : Array Oper) (a : Act) (w : World) : Prop := wpAny P .any ops Q ops.size (Array.replicate ops.size false) a w

theorem ValO.of_any {ops : Array Oper} {a : Act} {w : World} (h : AnyO P Q ops a w) : ValO P Q ops a w := fun L hv => any_val L _ _ a w h hv

theorem addL_size (i j : Nat) (ops : Array Oper) : (addL i j ops.toList).toArray.size = ops.size := by simp [addL_len]

theorem ValO.split {i j : Nat} {ops : Array Oper} {a : Act} {w : World} (hne : i ≠ j) (h1 : ValO P Q (addL i j ops.toList).toArray a w) (h2 : ValO P Q (addL j i ops.toList).toArray a w) : ValO P Q ops a w := fun L hv => by
  rcases val_split hne L _ hv with q | q
  · exact ops_same L a w (h1 L (by rw [addL_size]; exact q))
  · exact ops_same L a w (h2 L (by rw [addL_size]; exact q))

def swapO (p : Nat) (ops : Array Oper) : Array Oper := (swapL p (ops.toList.map (reE p))).toArray
theorem swapO_size (p : Nat) (ops : Array Oper) : (swapO p ops).size = ops.size := by simp [swapO, swapL_len]
theorem AnyO.swap {p : Nat} {ops : Array Oper} {a : Act} {w : World} (h : p + 1 < ops.size) (hx : AnyO P Q (swapO p ops) a w) : AnyO P Q ops a w := by
  have hf : ∀ n k : Nat, (Array.replicate n false).getD k false = false := fun n k => by
    simp only [Array.getD_eq_getD_getElem?, Array.getElem?_replicate]
    split <;> rfl
  unfold AnyO at hx
  rw [swapO_size] at hx
  exact swap_any h ops.size _ _ a w (by simp) (by simp) (fun k => by rw [hf, hf]) hx

/-- The operation at c + n moves to c. -/
def bubble : Nat → Nat → Array Oper → Array Oper
  | 0, _, ops => ops
  | n + 1, c, ops => bubble n c (swapO (c + n) ops)
theorem AnyO.bubble {c : Nat} {a : Act} {w : World} : ∀ {n : Nat} {ops : Array Oper}, c + n < ops.size → AnyO P Q (bubble n c ops) a w → AnyO P Q ops a w
  | 0, _, _, h => h
  | n + 1, ops, hlt, h => AnyO.swap (p := c + n) (by omega) (AnyO.bubble (n := n) (by rw [swapO_size]; omega) h)

/-- The places that the operation f may take among the calls of a chain: behind all of these first. -/
def floatW (f : Nat) : List Nat → Array Oper → List (Array Oper)
  | [], ops => [ops]
  | c :: cs, ops => floatW f cs (addL c f ops.toList).toArray ++ [bubble (f - c) c (addL f c ops.toList).toArray]

theorem float_any {f : Nat} {a : Act} {w : World} : ∀ {cs : List Nat} {ops : Array Oper}, f < ops.size → (cs.all fun c => Nat.blt c f) = true → (∀ o ∈ floatW f cs ops, AnyO P Q o a w) → ValO P Q ops a w
  | [], ops, _, _, h => .of_any (h ops (by simp [floatW]))
  | c :: cs, ops, hf, hc, h => by
    simp only [List.all_cons, Bool.and_eq_true, Nat.blt_eq] at hc
    refine ValO.split (i := f) (j := c) (by omega) ?_ ?_
    · refine .of_any (AnyO.bubble (c := c) (n := f - c) (by rw [addL_size]; omega) (h _ ?_))
      simp [floatW]
    · refine float_any (by rw [addL_size]; exact hf) hc.2 fun o ho => h o ?_
      simp [floatW, ho]

theorem any_cdraw {ops : Array Oper} {K0 Kc : Ctx} {slots : List (Nat × AVal)} {objs : Objs} {K : Loc → Objs → Prop} {a : Act} {w : World} (h : cdraw P nt ops slots objs K) (hK : K0.le Kc) (hs : Sat nt Kc ⟨slots, objs⟩ a w)
    (hQ : ∀ (ops' : Array Oper) (K' : Ctx) (rs : RSt) (a' : Act) (w' : World), K0.le K' → RSat nt ops' slots K' rs a' w' → K rs.loc rs.objs → Q .normal a' w') : AnyO P Q ops a { w with drawn := w.drawn + 1 } := by
  obtain ⟨_, hck, tr, ht, ho, hk⟩ := cdraw_draw h
  have hf : ∀ n k : Nat, (Array.replicate n false).getD k false = false := fun n k => by
    simp only [Array.getD_eq_getD_getElem?, Array.getElem?_replicate]
    split <;> rfl
  refine wpAny_trace (K0 := K0) ht hck (fun K' a w hl hr => hQ _ K' _ a w hl hr hk) ops.size _ a _ (by simp) (Nat.le_trans (List.length_filter_le _ _) (by simp)) ?_
  exact ⟨(fun i o e hi => by simp only [hf] at hi; cases hi), hs.size, Kc, 0, hK, hs.defers, Nat.zero_le _, (by rw [ho]; exact hs.mem.drawn _), (fun j _ => by simp only [hf]; simp), (fun j o d tg v _ _ hS => by simp only [hf] at hS; cases hS), fun t _ => hs.slot t⟩
end
end Go.Fw

namespace Go.Fw
open Go.RowKit
section
variable {P : Program} {nt n0 : Nat}
/-- What holds behind a text, whatever the world is. -/
def SWP (P : Program) (nt n0 : Nat) (c : Code) (Q : CQ) (s : List (Nat × AVal)) (o : Objs) : Prop := ∀ (K0 K : Ctx) (a : Act) (w : World), K0.n = n0 → K0.le K → Sat nt K ⟨s, o⟩ a w → c.wp P (Post nt K0 fun e s => Q e s.slots s.objs) a w
theorem SWP.of_cwp {keep : Nat → Bool} {c : Code} {Q : CQ} {s : List (Nat × AVal)} {o : Objs} (h : cwp P nt n0 keep c Q s o) : SWP P nt n0 c Q s o := fun K0 K a w hn hle hs => awp_sound c _ _ K0 K a w hn hle hs (cwp_awp c _ _ _ h)
theorem SWP.seq {x y : Code} {Q : CQ} {s : List (Nat × AVal)} {o : Objs} (h : SWP P nt n0 x (fun e s o => match e with | .normal => SWP P nt n0 y Q s o | e => Q e s o) s o) : SWP P nt n0 (.seq x y) Q s o := by
  intro K0 K a w hn hle hs
  refine wp_seq (wp_mono (h K0 K a w hn hle hs) ?_)
  rintro e a' w' ⟨e', K', s', rfl, hle', hs', hq⟩
  cases e' with
  | normal => exact hq K0 K' a' w' hn hle' hs'
  | exit id => exact ⟨.exit id, K', s', rfl, hle', hs', hq⟩
  | goto l => exact ⟨.goto l, K', s', rfl, hle', hs', hq⟩
  | ret => exact ⟨.ret, K', s', rfl, hle', hs', hq⟩
theorem SWP.weak {c : Code} {Q : CQ} {s s' : List (Nat × AVal)} {o o' : Objs} (hw : Weaker nt n0 ⟨s, o⟩ ⟨s', o'⟩) (h : SWP P nt n0 c Q s' o') : SWP P nt n0 c Q s o := by
  intro K0 K a w hn hle hs
  obtain ⟨K', hle', hs'⟩ := hw K0 K a w hn hle hs
  exact h K0 K' a w hn hle' hs'
theorem SWP.seq_mid {x y : Code} {Q : CQ} {s : List (Nat × AVal)} {o : Objs} (s1 : List (Nat × AVal)) (o1 : Objs) (hy : SWP P nt n0 y Q s1 o1) (hx : SWP P nt n0 x (fun e s o => match e with | .normal => Weaker nt n0 ⟨s, o⟩ ⟨s1, o1⟩ | e => Q e s o) s o) : SWP P nt n0 (.seq x y) Q s o := by
  refine SWP.seq fun K0 K a w hn hle hs => ?_
  refine wp_mono (hx K0 K a w hn hle hs) ?_
  rintro e a' w' ⟨e', K', s', rfl, hle', hs', hq⟩
  cases e' with
  | normal => exact ⟨.normal, K', s', rfl, hle', hs', SWP.weak hq hy⟩
  | exit id => exact ⟨.exit id, K', s', rfl, hle', hs', hq⟩
  | goto l => exact ⟨.goto l, K', s', rfl, hle', hs', hq⟩
  | ret => exact ⟨.ret, K', s', rfl, hle', hs', hq⟩
theorem SWP.draw {keep : Nat → Bool} {id : Nat} {ops : Array Oper} {Q : CQ} {s : List (Nat × AVal)} {o : Objs} {W : List (Array Oper)} (hm : P.follows .mixedOrders = true)
    (hv : ∀ (Q : Exit → Act → World → Prop) (a : Act) (w : World), (∀ x ∈ W, AnyO P Q x a w) → ValO P Q ops a w) (h : ∀ x ∈ W, cdraw P nt x s o fun loc o => cmerge keep s loc fun s => Q .normal s o) : SWP P nt n0 (.region id ops true) Q s o := by
  intro K0 K a w hn hle hs
  have q : ValO P (Post nt K0 fun e s => Q e s.slots s.objs) ops a { w with drawn := w.drawn + 1 } := hv _ _ _ fun x hx => any_cdraw (h x hx) hle hs fun ops' K' rs a' w' hl hr hk => ⟨.normal, K', _, rfl, hl, mergeL_sound keep hr, cmerge_iff.1 hk⟩
  exact wp_region_draw fun t => by
    simp only [Region.schedule, hm, Bool.true_or, if_true]
    exact q _ (lin_val ops.size t _ (by simp) (Nat.le_trans (List.length_filter_le _ _) (by simp)))
theorem ACalls.of_swp {f : FuncId} {fn : Func} {c : Code} {args : List AVal} {objs : Objs} {R : AVal → Objs → Prop} (hf : P.funcs[f]? = some fn) (hb : fn.body = some c) (hlen : Nat.ble args.length fn.ntmps = true)
    (h : SWP P fn.ntmps objs.length c (CRet P fn objs.length R) (initSlots 0 args) objs) : ACalls P f args objs R := by
  intro K w vs hm hreps
  refine callsIn_wide.1 (callsIn_of_wp_marks (n := 0) hf hb trivial (wpIn_wide.2 ?_))
  have hsat := Sat.enter (nt := fn.ntmps) hm.begin (Reps.monoR (leR_with K K.B w) hreps) (Nat.le_of_ble_eq_true hlen)
  refine wp_mono (h { K with w0 := w } { K with w0 := w } _ w hm.len.symm (.refl _) hsat) ?_
  rintro e a' w' ⟨e', K', s', rfl, hle, hs', hq⟩
  have leave : Leaves P fn objs.length R s' → LeavesInM Fence.wide 0 P fn a'.tmps (fun e w' => ∃ (v : Value) (r : AVal) (objs' : Objs) (K' : Ctx), e = .returned v ∧ K.le K' ∧ MemSat K' objs' w' ∧ Rep K' r v ∧ R r objs') a'.defers .returning w' := fun hl =>
    leave_body hm.below (.refl _) rfl rfl hm.len.symm hle hs' hl fun v r objs' K' w' h1 h2 h3 h4 => ⟨v, r, objs', K', rfl, h1, h2, h3, h4⟩
  cases e' with
  | normal => simp only [CRet, forceA_iff] at hq; exact leave hq
  | ret => simp only [CRet, forceA_iff] at hq; exact leave hq
  | exit id => exact hq.elim
  | goto l => exact hq.elim
end
def addO (i j : Nat) (ops : Array Oper) : Array Oper := (addL i j ops.toList).toArray
/-- Two allocations (at places 4 and 5) that float over a call (at place 3). -/
def ways2 (ops : Array Oper) : List (Array Oper) :=
  [addO 4 5 (addO 3 5 (addO 3 4 ops)), bubble 1 4 (addO 5 4 (addO 3 5 (addO 3 4 ops))), bubble 1 3 (addO 3 5 (addO 4 3 ops)), bubble 2 3 (addO 5 3 (addO 3 4 ops)), bubble 1 4 (bubble 1 3 (addO 4 5 (addO 5 3 (addO 4 3 ops)))), bubble 1 4 (bubble 2 3 (addO 5 4 (addO 5 3 (addO 4 3 ops))))]
theorem ways2_all {P : Program} {ops : Array Oper} (h6 : 6 ≤ ops.size) (Q : Exit → Act → World → Prop) (a : Act) (w : World) (h : ∀ x ∈ ways2 ops, AnyO P Q x a w) : ValO P Q ops a w := by
  refine ValO.split (i := 4) (j := 3) (by omega) (ValO.split (i := 5) (j := 3) (by omega) (ValO.split (i := 4) (j := 5) (by omega) ?_ ?_) ?_) (ValO.split (i := 5) (j := 3) (by omega) ?_ (ValO.split (i := 4) (j := 5) (by omega) ?_ ?_))
  · exact .of_any (AnyO.bubble (n := 1) (c := 3) (by simp only [List.size_toArray, addL_len, Array.length_toList]; omega) (AnyO.bubble (n := 1) (c := 4) (by simp only [bubble, swapO_size, List.size_toArray, addL_len, Array.length_toList]; omega) (h _ (by simp [ways2, addO]))))
  · exact .of_any (AnyO.bubble (n := 2) (c := 3) (by simp only [List.size_toArray, addL_len, Array.length_toList]; omega) (AnyO.bubble (n := 1) (c := 4) (by simp only [bubble, swapO_size, List.size_toArray, addL_len, Array.length_toList]; omega) (h _ (by simp [ways2, addO]))))
  · exact .of_any (AnyO.bubble (n := 1) (c := 3) (by simp only [List.size_toArray, addL_len, Array.length_toList]; omega) (h _ (by simp [ways2, addO])))
  · exact .of_any (AnyO.bubble (n := 2) (c := 3) (by simp only [List.size_toArray, addL_len, Array.length_toList]; omega) (h _ (by simp [ways2, addO])))
  · exact .of_any (h _ (by simp [ways2, addO]))
  · exact .of_any (AnyO.bubble (n := 1) (c := 4) (by simp only [List.size_toArray, addL_len, Array.length_toList]; omega) (h _ (by simp [ways2, addO])))
end Go.Fw
