/-
  Regions that draw their order, first part: what depends on what; a trace in the order of the text.
-/
import Derived.Test.YtlgfgcadoocgoaaFwK
namespace Go.Fw
set_option linter.unusedSimpArgs false
set_option linter.unusedVariables false
open Go.RowKit

abbrev Loc := List (Nat × Option Tag × AVal)
abbrev Gs := List (Tag × Bool)

/-- What an operation looks at: its operands. -/
theorem evalOp_congr {P : Program} {look look' : Operand → AVal} {objs : Objs} (o : Oper) (h : ∀ x ∈ o.op.operands, look x = look' x) : evalOp P look objs o = evalOp P look' objs o := by
  obtain ⟨dst, op, type, pos, after, guard⟩ := o
  have pairs : ∀ ps : Array (Nat × Operand), (∀ x ∈ (ps.toList.map (·.2)).toArray, look x = look' x) → (ps.toList.map fun p => (p.1, look p.2)) = (ps.toList.map fun p => (p.1, look' p.2)) := fun ps hp =>
    List.map_congr_left fun p hm => by rw [hp p.2 (by simpa using ⟨p.1, Array.mem_toList_iff.1 hm⟩)]
  have maps : ∀ xs : Array Operand, (∀ x ∈ xs, look x = look' x) → xs.toList.map look = xs.toList.map look' := fun xs hx => List.map_congr_left fun x hm => hx x (Array.mem_toList_iff.1 hm)
  cases op <;> simp only [evalOp] <;> simp only [Op.operands] at h <;> (try rfl)
  case move x => rw [h x (by simp)]
  case assign x => rw [h x (by simp)]
  case box t x => rw [h x (by simp)]
  case build t ps => rw [pairs ps h]
  case buildSlice t n ps => rw [pairs ps h]
  case load t a => rw [h a (by simp)]
  case store t a x => rw [h a (by simp), h x (by simp)]
  case nilCheck x => rw [h x (by simp)]
  case binOp op t x y yt => rw [h x (by simp), h y (by simp)]
  case unOp op t x => rw [h x (by simp)]
  case convert s d x => rw [h x (by simp)]
  case makeFunc f a b => rw [maps a (fun x hx => h x (by simp [hx])), maps b (fun x hx => h x (by simp [hx]))]
  case makeSlice t l c => rw [h l (by simp), h c (by simp)]
  case slice t x lo hi mx =>
    have hx := h x (by simp)
    have hlo : lo.map look = lo.map look' := by cases lo with | none => rfl | some y => simp only [Option.map_some]; rw [h y (by simp)]
    have hhi : hi.map look = hi.map look' := by cases hi with | none => rfl | some y => simp only [Option.map_some]; rw [h y (by simp)]
    have hmx : mx.map look = mx.map look' := by cases mx with | none => rfl | some y => simp only [Option.map_some]; rw [h y (by simp)]
    rw [hx, hlo, hhi, hmx]
  case fieldAddr t x f => rw [h x (by simp)]
  case field t x f => rw [h x (by simp)]
  case indexAddr t x i => rw [h x (by simp), h i (by simp)]
  case extract x i => rw [h x (by simp)]
  case call c =>
    obtain ⟨callee, args, argTypes⟩ := c
    have hargs := maps args (fun x hx => h x (by simp [Call.operands, hx]))
    have harg : ∀ x, x ∈ args.toList → look x = look' x := fun x hx => h x (by simp [Call.operands, Array.mem_toList_iff.1 hx])
    simp only
    split
    · split
      · rename_i x t ha ht; rw [harg x (by simp [ha])]
      · rfl
    · split
      · rename_i x y t u ha ht; rw [harg x (by simp [ha]), harg y (by simp [ha])]
      · rfl
    · rw [hargs]
    · rw [hargs]
    · rename_i f; rw [hargs, h f (by simp [Call.operands])]
    · rfl

/-- Operations that look at objects or change them. -/
def effKind : Op → Bool
  | .alloc _ => true
  | .box _ _ => true
  | .store .. => true
  | .makeSlice .. => true
  | .call c => match c.callee with | .builtin .append => true | _ => false
  | _ => false

def callKind : Op → Bool
  | .call c => match c.callee with | .builtin _ => false | _ => true
  | _ => false

def loadKind : Op → Bool
  | .load .. => true
  | _ => false

/-- All others answer the same whatever the objects. -/
theorem evalOp_objs {P : Program} {look : Operand → AVal} (o : Oper) (h1 : effKind o.op = false) (h2 : loadKind o.op = false) (a b : Objs) : evalOp P look a o = evalOp P look b o := by
  obtain ⟨dst, op, type, pos, after, guard⟩ := o
  cases op <;> simp only [evalOp] <;> (try (simp [effKind] at h1; done)) <;> (try (simp [loadKind] at h2; done))
  case call c =>
    obtain ⟨callee, args, argTypes⟩ := c
    cases callee with
    | value f => rfl
    | invoke r m => rfl
    | builtin b => cases b <;> first | rfl | (simp [effKind] at h1)

/-- Which operations come before which, as bits. -/
def maskOf (o : Oper) (acc : List Nat) : Nat := o.after.toList.foldl (fun s e => bif Region.binds .any e then s ||| (1 <<< e.on) ||| acc.getD e.on 0 else s) 0

def masksGo : List Oper → List Nat → List Nat
  | [], acc => acc
  | o :: r, acc => masksGo r (acc ++ [maskOf o acc])

def masks (ops : Array Oper) : List Nat := masksGo ops.toList []

def bit (ms : List Nat) (i j : Nat) : Bool := (ms.getD i 0).testBit j

/-- A set of operations that holds, with each, what must come before it. -/
def Closed (ops : Array Oper) (S : Nat → Bool) : Prop := ∀ (i : Nat) (o : Oper) (e : Edge), S i = true → ops[i]? = some o → e ∈ o.after → Region.binds .any e = true → S e.on = true

theorem foldl_bit {S : Nat → Bool} {acc : List Nat} (hacc : ∀ i j, S i = true → (acc.getD i 0).testBit j = true → S j = true) : ∀ (l : List Edge) (s : Nat), (∀ e ∈ l, Region.binds .any e = true → S e.on = true) → (∀ j, s.testBit j = true → S j = true) →
    ∀ j, (l.foldl (fun s e => bif Region.binds .any e then s ||| (1 <<< e.on) ||| acc.getD e.on 0 else s) s).testBit j = true → S j = true
  | [], s, _, hs, j, h => hs j h
  | e :: l, s, hl, hs, j, h => by
    simp only [List.foldl_cons] at h
    refine foldl_bit hacc l _ (fun e' he' => hl e' (by simp [he'])) ?_ j h
    intro j hj
    cases hb : Region.binds .any e with
    | false => rw [hb] at hj; exact hs j hj
    | true =>
      rw [hb] at hj
      simp only [cond_true, Nat.testBit_or, Bool.or_eq_true, Nat.one_shiftLeft, Nat.testBit_two_pow] at hj
      have hS := hl e (by simp) hb
      rcases hj with (hj | hj) | hj
      · exact hs j hj
      · simp only [decide_eq_true_eq] at hj; rw [← hj]; exact hS
      · exact hacc _ j hS hj

theorem masksGo_spec {ops : Array Oper} {S : Nat → Bool} (hS : Closed ops S) : ∀ (l : List Oper) (acc : List Nat), ops.toList = ops.toList.take acc.length ++ l → acc.length + l.length = ops.size →
    (∀ i j, S i = true → (acc.getD i 0).testBit j = true → S j = true) → ∀ i j, S i = true → ((masksGo l acc).getD i 0).testBit j = true → S j = true
  | [], acc, _, _, hacc, i, j, hi, h => hacc i j hi h
  | o :: r, acc, hl, hn, hacc, i, j, hi, h => by
    simp only [masksGo] at h
    have ho : ops[acc.length]? = some o := by
      have hmin : min acc.length ops.size = acc.length := by simp at hn; omega
      rw [← Array.getElem?_toList, hl, List.getElem?_append_right (by simp [hmin])]
      simp [hmin]
    refine masksGo_spec hS r (acc ++ [maskOf o acc]) ?_ (by simp at hn ⊢; omega) ?_ i j hi h
    · have e : ops.toList.take (acc.length + 1) = ops.toList.take acc.length ++ [o] := by
        rw [List.take_add_one]
        rw [Array.getElem?_toList, ho]
        rfl
      rw [List.length_append, List.length_singleton, e, List.append_assoc]
      simpa using hl
    · intro i j hi hb
      rcases Nat.lt_trichotomy i acc.length with h' | h' | h'
      · rw [List.getD_eq_getElem?_getD, List.getElem?_append_left h', ← List.getD_eq_getElem?_getD] at hb; exact hacc i j hi hb
      · subst h'
        rw [List.getD_eq_getElem?_getD, List.getElem?_append_right (Nat.le_refl _)] at hb
        simp only [Nat.sub_self, List.getElem?_cons_zero, Option.getD_some] at hb
        refine foldl_bit hacc o.after.toList 0 (fun e he hbd => hS _ o e hi ho (Array.mem_toList_iff.1 he) hbd) (fun j hj => by simp at hj) j hb
      · rw [List.getD_eq_getElem?_getD, List.getElem?_eq_none (by simp; omega)] at hb; simp at hb

theorem bit_closed {ops : Array Oper} {S : Nat → Bool} (hS : Closed ops S) {i j : Nat} (hi : S i = true) (h : bit (masks ops) i j = true) : S j = true :=
  masksGo_spec hS ops.toList [] (by simp) (by simp) (fun i j _ h => by simp at h) i j hi h

/-- What must come before an operation whose own conditions are met. -/
theorem bit_ready {ops : Array Oper} {S : Nat → Bool} (hS : Closed ops S) {i j : Nat} {o : Oper} (ho : ops[i]? = some o) (hi : ∀ e ∈ o.after, Region.binds .any e = true → S e.on = true) (hne : S i = false → True) (h : bit (masks ops) i j = true) : S j = true ∨ j = i := by
  have hS' : Closed ops (fun k => S k || Nat.beq k i) := by
    intro k o' e hk ho' he hb
    simp only [Bool.or_eq_true] at hk ⊢
    rcases hk with hk | hk
    · exact .inl (hS k o' e hk ho' he hb)
    · have := Nat.eq_of_beq_eq_true hk
      subst this
      rw [ho] at ho'
      simp only [Option.some.injEq] at ho'
      subst ho'
      exact .inl (hi e he hb)
  have := bit_closed hS' (i := i) (j := j) (by simp) h
  simp only [Bool.or_eq_true] at this
  exact this.imp id Nat.eq_of_beq_eq_true

def ordered (ms : List Nat) (i j : Nat) : Bool := bit ms i j || bit ms j i

/-- Effects: operations that change objects; and calls that are ordered against all of these. -/
def effAt (ops : Array Oper) (ms : List Nat) (i : Nat) : Bool :=
  match ops[i]? with
  | some o => effKind o.op || (callKind o.op && (List.range ops.size).all fun j => Nat.beq j i || (match ops[j]? with | some o' => !(effKind o'.op || callKind o'.op) || ordered ms i j | none => true))
  | none => false

def okPos (ops : Array Oper) (ms : List Nat) (i p : Nat) : Bool :=
  (List.range ops.size).all fun j => !effAt ops ms j || ((!bit ms i j || Nat.blt j p) && (!bit ms j i || Nat.ble p j))

def looks (ops : Array Oper) (o : Oper) : List Tmp := o.looksAt ops

/-- The checks on a region that draws its order. -/
def drawCheck (ops : Array Oper) (ms : List Nat) : Bool :=
  ((List.range ops.size).all fun i => match ops[i]? with | some o => o.after.toList.all fun e => !Region.binds .any e || Nat.blt e.on i | none => true) &&
  ((List.range ops.size).all fun i => (List.range ops.size).all fun j => !(Nat.blt i j && effAt ops ms i && effAt ops ms j) || bit ms j i) &&
  ((List.range ops.size).all fun i => match ops[i]? with
    | some o => (looks ops o).all fun t => (List.range ops.size).all fun j => match ops[j]? with
      | some o' => (match o'.dst with | some d => !Nat.beq d t || Nat.beq i j || (bif Nat.blt j i then bit ms i j else bit ms j i) | none => true)
      | none => true
    | none => true)

/-- What one operation gives, in the order of the text. -/
def OpGives (P : Program) (ops : Array Oper) (slots : List (Nat × AVal)) (o : Oper) (cur : Option Tag) (gb : Bool) (loc : Loc) (G : Gs) (objs : Objs) (v : AVal) (objs' : Objs) : Prop :=
  match o.op with
  | .pick c x y => pickA ops slots ⟨loc, G, objs⟩ cur c x y = some v ∧ objs' = objs
  | _ =>
    match evalOp P (lookR ops slots loc cur) objs o with
    | .bad => False
    | .val u => u = v ∧ objs' = objs
    | .ifb b u => (gb = true → b = true) ∧ u = v ∧ objs' = objs
    | .eff b u o2 => cur = none ∧ b = true ∧ u = v ∧ objs' = o2
    | .upd u o2 => cur = none ∧ u = v ∧ objs' = o2
    | .call f args => (gb = true → ACalls P f args objs fun r o2 => r = v ∧ o2 = objs') ∧ (cur ≠ none → objs' = objs)

def GuardOK (ops : Array Oper) (rs : RSt) (o : Oper) (gb : Bool) (rs1 : RSt) : Prop :=
  match o.guard with
  | none => gb = true ∧ rs1 = rs
  | some g => gOf ops rs g = some (gb, rs1)

/-- A run in the order of the text. -/
structure Trace (P : Program) (nt : Nat) (ops : Array Oper) (slots : List (Nat × AVal)) (tr : Nat → RSt) : Prop where
  loc0 : (tr 0).loc = []
  G0 : (tr 0).G = []
  step : ∀ (i : Nat) (o : Oper), ops[i]? = some o → ∃ (gb : Bool) (rs1 : RSt) (v : AVal), GuardOK ops (tr i) o gb rs1 ∧ putR nt { rs1 with objs := (tr (i + 1)).objs } o.guard o.dst v = some (tr (i + 1)) ∧
    (effAt ops (masks ops) i = true → OpGives P ops slots o o.guard gb rs1.loc rs1.G (tr i).objs v (tr (i + 1)).objs) ∧
    (effAt ops (masks ops) i = false → (tr (i + 1)).objs = (tr i).objs ∧ ∀ p, p ≤ ops.size → okPos ops (masks ops) i p = true → OpGives P ops slots o o.guard gb rs1.loc rs1.G (tr p).objs v (tr p).objs)

/-- What a guard's value says of the value that it tests. -/
def GRel (ops : Array Oper) (rs : RSt) (g : Tag) (b : Bool) : Prop :=
  ∃ o d bb, ops[g.1]? = some o ∧ o.dst = some d ∧ findL rs.loc d = some (o.guard, .lit (.bool bb)) ∧
    (o.guard = none → b = (bif g.2 then bb else !bb)) ∧ (∀ h, o.guard = some h → ∃ hb, findG rs.G h = some hb ∧ b = (hb && (bif g.2 then bb else !bb)))

section
variable {P : Program} {nt : Nat} {ops : Array Oper} {slots : List (Nat × AVal)} {tr : Nat → RSt}

theorem gOf_step {rs rs1 : RSt} {g : Tag} {gb : Bool} (hG : ∀ g b, findG rs.G g = some b → GRel ops rs g b) (h : gOf ops rs g = some (gb, rs1)) :
    rs1.loc = rs.loc ∧ rs1.objs = rs.objs ∧ findG rs1.G g = some gb ∧ (∀ c b, findG rs.G c = some b → findG rs1.G c = some b) ∧ (∀ c b, findG rs1.G c = some b → GRel ops rs1 c b) := by
  unfold gOf at h
  split at h
  · rename_i b hb
    simp only [Option.some.injEq, Prod.mk.injEq] at h
    obtain ⟨rfl, rfl⟩ := h
    exact ⟨rfl, rfl, hb, fun _ _ h => h, hG⟩
  · rename_i hnone
    have add : ∀ gb : Bool, GRel ops { rs with G := (g, gb) :: rs.G } g gb → rs1 = { rs with G := (g, gb) :: rs.G } →
        rs1.loc = rs.loc ∧ rs1.objs = rs.objs ∧ findG rs1.G g = some gb ∧ (∀ c b, findG rs.G c = some b → findG rs1.G c = some b) ∧ (∀ c b, findG rs1.G c = some b → GRel ops rs1 c b) := by
      rintro gb hrel rfl
      have keep : ∀ c b, findG rs.G c = some b → findG ((g, gb) :: rs.G) c = some b := by
        intro c b hc
        rw [findG_cons]
        split
        · rename_i e; subst e; rw [hnone] at hc; cases hc
        · exact hc
      refine ⟨rfl, rfl, by rw [findG_cons, if_pos rfl], keep, fun c b hc => ?_⟩
      simp only [findG_cons] at hc
      split at hc
      · rename_i e; subst e
        simp only [Option.some.injEq] at hc
        subst hc
        exact hrel
      · obtain ⟨o, d, bb, h1, h2, h3, h4, h5⟩ := hG c b hc
        exact ⟨o, d, bb, h1, h2, h3, h4, fun h hh => by obtain ⟨hb, h6, h7⟩ := h5 h hh; exact ⟨hb, keep h hb h6, h7⟩⟩
    split at h
    · rename_i o ho
      split at h
      · rename_i d hd
        split at h
        · rename_i b hf
          cases hgn : o.guard.isNone with
          | false => rw [hgn] at h; cases h
          | true =>
            rw [hgn] at h
            simp only [cond_true, Option.some.injEq, Prod.mk.injEq] at h
            obtain ⟨rfl, rfl⟩ := h
            have hgn' : o.guard = none := by simpa using hgn
            exact add _ ⟨o, d, b, ho, hd, by rw [hgn']; exact hf, fun _ => rfl, fun h hh => by rw [hgn'] at hh; cases hh⟩ rfl
        · rename_i c b hf
          split at h
          · rename_i c' hb hoc hfc
            cases ht : tagEq c' c with
            | false => rw [ht] at h; cases h
            | true =>
              rw [ht] at h
              simp only [cond_true, Option.some.injEq, Prod.mk.injEq] at h
              obtain ⟨rfl, rfl⟩ := h
              have hcc := tagEq_iff.1 ht
              subst hcc
              refine add _ ⟨o, d, b, ho, hd, by rw [hoc]; exact hf, (fun hh => by rw [hoc] at hh; cases hh), fun h' hh => ?_⟩ rfl
              rw [hoc] at hh
              simp only [Option.some.injEq] at hh
              subst hh
              refine ⟨hb, ?_, rfl⟩
              rw [findG_cons]
              split
              · rename_i e; subst e; rw [hnone] at hfc; cases hfc
              · exact hfc
          · cases h
        · cases h
      · cases h
    · cases h

/-- What a trace's states are like. -/
structure TInv (ops : Array Oper) (tr : Nat → RSt) (i : Nat) : Prop where
  who : ∀ t e, findL (tr i).loc t = some e → ∃ j o, j < i ∧ ops[j]? = some o ∧ o.dst = some t ∧ e.1 = o.guard
  has : ∀ j o d, j < i → ops[j]? = some o → o.dst = some d → (findL (tr i).loc d).isSome = true
  rel : ∀ g b, findG (tr i).G g = some b → GRel ops (tr i) g b
  tag : ∀ t g v, findL (tr i).loc t = some (some g, v) → (findG (tr i).G g).isSome = true
  one : ∀ j k o o' d, j < i → k < i → ops[j]? = some o → ops[k]? = some o' → o.dst = some d → o'.dst = some d → j = k
  uniq : UniqL (tr i).loc

theorem putR_some {rs rs' : RSt} {cur : Option Tag} {dst : Option Tmp} {v : AVal} (h : putR nt rs cur dst v = some rs') :
    rs'.objs = rs.objs ∧ rs'.G = rs.G ∧ ((dst = none ∧ rs'.loc = rs.loc) ∨ ∃ d, dst = some d ∧ d < nt ∧ findL rs.loc d = none ∧ rs'.loc = (d, cur, v) :: rs.loc) := by
  unfold putR at h
  cases dst with
  | none => simp only [Option.some.injEq] at h; subst h; exact ⟨rfl, rfl, .inl ⟨rfl, rfl⟩⟩
  | some d =>
    simp only at h
    cases hb : Nat.blt d nt && (findL rs.loc d).isNone with
    | false => rw [hb] at h; cases h
    | true =>
      rw [hb] at h
      simp only [cond_true, Option.some.injEq] at h
      subst h
      simp only [Bool.and_eq_true, Option.isNone_iff_eq_none] at hb
      exact ⟨rfl, rfl, .inr ⟨d, rfl, by simpa using hb.1, hb.2, rfl⟩⟩

theorem guardOK_step {i : Nat} {o : Oper} {gb : Bool} {rs1 : RSt} (hi : TInv ops tr i) (h : GuardOK ops (tr i) o gb rs1) :
    rs1.loc = (tr i).loc ∧ rs1.objs = (tr i).objs ∧ (∀ g, o.guard = some g → findG rs1.G g = some gb) ∧ (o.guard = none → gb = true) ∧ (∀ c b, findG (tr i).G c = some b → findG rs1.G c = some b) ∧ (∀ c b, findG rs1.G c = some b → GRel ops rs1 c b) := by
  unfold GuardOK at h
  split at h
  · rename_i hg
    obtain ⟨rfl, rfl⟩ := h
    exact ⟨rfl, rfl, (fun g hh => by rw [hg] at hh; cases hh), fun _ => rfl, fun _ _ h => h, hi.rel⟩
  · rename_i g hg
    obtain ⟨h1, h2, h3, h4, h5⟩ := gOf_step hi.rel h
    exact ⟨h1, h2, (fun g' hh => by rw [hg] at hh; simp only [Option.some.injEq] at hh; subst hh; exact h3), (fun hh => by rw [hg] at hh; cases hh), h4, h5⟩

end
end Go.Fw
