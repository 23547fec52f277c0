/-
  What a proof of a function's text owes: 'awp', a proposition that is computed off the text; 'ACalls', a call's contract. Their soundness over the model.
-/
import Derived.Test.YtlgfgcadoocgoaaFwI
import Derived.Orders
namespace Go.Fw
set_option linter.unusedSimpArgs false
set_option linter.unusedVariables false
open Go.RowKit

/-- A call's contract: from every memory in which the objects and the arguments are so, it returns a value with objects of which R says what they are. -/
def ACalls (P : Program) (f : FuncId) (args : List AVal) (objs : Objs) (R : AVal → Objs → Prop) : Prop :=
  ∀ (K : Ctx) (w : World) (vs : List Value), MemSat K objs w → Reps K args vs →
    Calls P f vs.toArray w fun e w' => ∃ (v : Value) (r : AVal) (objs' : Objs) (K' : Ctx), e = .returned v ∧ K.le K' ∧ MemSat K' objs' w' ∧ Rep K' r v ∧ R r objs'

theorem ACalls.mono {P : Program} {f : FuncId} {args : List AVal} {objs : Objs} {R R' : AVal → Objs → Prop} (h : ACalls P f args objs R) (hr : ∀ r o, R r o → R' r o) : ACalls P f args objs R' :=
  fun K w vs hm ha => (h K w vs hm ha).mono fun _ _ ⟨v, r, o, K', he, hle, hm', hrep, hR⟩ => ⟨v, r, o, K', he, hle, hm', hrep, hr r o hR⟩

/-- A call that gives r and leaves the objects alone. -/
def AGives (P : Program) (f : FuncId) (args : List AVal) (objs : Objs) (r : AVal) : Prop := ACalls P f args objs fun r' o => r' = r ∧ o = objs

/-- The state inside a region: what its operations have written so far, which guards hold, the objects. -/
structure RSt where
  loc : List (Nat × Option Tag × AVal)
  G : List (Tag × Bool)
  objs : Objs

def findL : List (Nat × Option Tag × AVal) → Nat → Option (Option Tag × AVal)
  | [], _ => none
  | (i, g, v) :: r, t => bif Nat.beq i t then some (g, v) else findL r t

def tagEq (a b : Tag) : Bool := Nat.beq a.1 b.1 && (a.2 == b.2)

def findG : List (Tag × Bool) → Tag → Option Bool
  | [], _ => none
  | (h, b) :: r, g => bif tagEq h g then some b else findG r g

/-- The guard cur, if it holds, brings the guard g with it. -/
def implied (ops : Array Oper) : Nat → Option Tag → Tag → Bool
  | 0, _, _ => false
  | _, none, _ => false
  | n + 1, some c, g => tagEq c g || implied ops n (match ops[c.1]? with | some o => o.guard | none => none) g

def lookR (ops : Array Oper) (slots : List (Nat × AVal)) (loc : List (Nat × Option Tag × AVal)) (cur : Option Tag) : Operand → AVal
  | .tmp t => match findL loc t with
    | some (none, v) => v
    | some (some g, v) => bif implied ops 16 cur g then v else .any
    | none => getSlot slots t
  | .const v => .lit v
  | .func f => .fn (.func f) [] []
  | .global _ => .any

/-- The value of a guard. -/
def gOf (ops : Array Oper) (rs : RSt) (g : Tag) : Option (Bool × RSt) :=
  match findG rs.G g with
  | some b => some (b, rs)
  | none =>
    match ops[g.1]? with
    | some o =>
      (match o.dst with
       | some d =>
         (match findL rs.loc d with
          | some (none, .lit (.bool b)) =>
            bif o.guard.isNone then (let gb := bif g.2 then b else !b; some (gb, { rs with G := (g, gb) :: rs.G })) else none
          | some (some h, .lit (.bool b)) =>
            (match o.guard, findG rs.G h with
             | some h', some hb => bif tagEq h' h then (let gb := hb && (bif g.2 then b else !b); some (gb, { rs with G := (g, gb) :: rs.G })) else none
             | _, _ => none)
          | _ => none)
       | none => none)
    | none => none

def putR (nt : Nat) (rs : RSt) (cur : Option Tag) (dst : Option Tmp) (v : AVal) : Option RSt :=
  match dst with
  | none => some rs
  | some d => bif Nat.blt d nt && (findL rs.loc d).isNone then some { rs with loc := (d, cur, v) :: rs.loc } else none

def PutK (nt : Nat) (rs : RSt) (cur : Option Tag) (dst : Option Tmp) (v : AVal) (K : RSt → Prop) : Prop :=
  match putR nt rs cur dst v with
  | some rs' => K rs'
  | none => False

/-- The operation that writes a temporary. -/
def defOf (ops : Array Oper) (t : Tmp) : Option Nat := ops.toList.findIdx? fun o => match o.dst with | some d => Nat.beq d t | none => false

/-- An arm of a pick: the value of x where the condition c is want. -/
def armA (ops : Array Oper) (slots : List (Nat × AVal)) (loc : List (Nat × Option Tag × AVal)) (cur : Option Tag) (jc : Option Nat) (want : Bool) : Operand → AVal
  | .tmp t => match findL loc t, jc with
    | some (some g, v), some j => bif tagEq g (j, want) then v else lookR ops slots loc cur (.tmp t)
    | _, _ => lookR ops slots loc cur (.tmp t)
  | x => lookR ops slots loc cur x

def pickA (ops : Array Oper) (slots : List (Nat × AVal)) (rs : RSt) (cur : Option Tag) (c x y : Operand) : Option AVal :=
  match c with
  | .tmp tc =>
    (match lookR ops slots rs.loc cur (.tmp tc), findL rs.loc tc with
     | .lit (.bool b), some _ =>
       (match x, y with
        | .const (.bool true), y => (match armA ops slots rs.loc cur (defOf ops tc) false y with | .lit (.bool v) => some (.lit (.bool (b || v))) | _ => none)
        | x, .const (.bool false) => (match armA ops slots rs.loc cur (defOf ops tc) true x with | .lit (.bool u) => some (.lit (.bool (b && u))) | _ => none)
        | _, _ => none)
     | _, _ => none)
  | _ => none

def stepOp (P : Program) (nt : Nat) (ops : Array Oper) (slots : List (Nat × AVal)) (draw : Bool) (o : Oper) (cur : Option Tag) (gb : Bool) (rs : RSt) (K : RSt → Prop) : Prop :=
  match o.op with
  | .pick c x y => (match pickA ops slots rs cur c x y with | some v => PutK nt rs cur o.dst v K | none => False)
  | _ =>
    match evalOp P (lookR ops slots rs.loc cur) rs.objs o with
    | .bad => False
    | .val v => PutK nt rs cur o.dst v K
    | .ifb b v => (gb = true → b = true) ∧ PutK nt rs cur o.dst v K
    | .eff b v objs' => (match cur with | none => b = true ∧ PutK nt { rs with objs := objs' } cur o.dst v K | some _ => False)
    | .upd v objs' => (match cur with | none => PutK nt { rs with objs := objs' } cur o.dst v K | some _ => False)
    | .call f args =>
      (match cur, draw with
       | none, false => ACalls P f args rs.objs fun r objs' => PutK nt { rs with objs := objs' } none o.dst r K
       | _, _ => ∃ r, (gb = true → AGives P f args rs.objs r) ∧ PutK nt rs cur o.dst r K)

def awpOps (P : Program) (nt : Nat) (ops : Array Oper) (slots : List (Nat × AVal)) (draw : Bool) : List Oper → RSt → (RSt → Prop) → Prop
  | [], rs, K => K rs
  | o :: rest, rs, K =>
    match o.guard with
    | none => stepOp P nt ops slots draw o none true rs fun rs' => awpOps P nt ops slots draw rest rs' K
    | some g =>
      (match gOf ops rs g with
       | some (gb, rs1) => stepOp P nt ops slots draw o (some g) gb rs1 fun rs' => awpOps P nt ops slots draw rest rs' K
       | none => False)

/-- Slots behind a region: what it wrote, if it is kept; the others. -/
def keepL (keep : Nat → Bool) : List (Nat × Option Tag × AVal) → List (Nat × AVal) → List (Nat × AVal)
  | [], s => s
  | (t, g, v) :: r, s => bif g.isNone && keep t then (t, v) :: keepL keep r s else keepL keep r s

def filtL (loc : List (Nat × Option Tag × AVal)) : List (Nat × AVal) → List (Nat × AVal)
  | [] => []
  | (t, v) :: r => match findL loc t with | some _ => filtL loc r | none => (t, v) :: filtL loc r

def mergeL (keep : Nat → Bool) (slots : List (Nat × AVal)) (loc : List (Nat × Option Tag × AVal)) : List (Nat × AVal) := keepL keep loc (filtL loc slots)

/-- Each slot is written once. -/
def UniqL : List (Nat × Option Tag × AVal) → Prop
  | [] => True
  | (t, _, _) :: r => findL r t = none ∧ UniqL r

section
variable {P : Program}

/-- A state holds of a real one. -/
structure Sat (nt : Nat) (K : Ctx) (s : St) (a : Act) (w : World) : Prop where
  mem : MemSat K s.objs w
  slot : ∀ t, Rep K (getSlot s.slots t) (a.tmps.getD t undef)
  size : a.tmps.size = nt
  defers : a.defers = []

structure RSat (nt : Nat) (ops : Array Oper) (slots : List (Nat × AVal)) (K : Ctx) (rs : RSt) (a : Act) (w : World) : Prop where
  mem : MemSat K rs.objs w
  outer : ∀ t, findL rs.loc t = none → Rep K (getSlot slots t) (a.tmps.getD t undef)
  plain : ∀ t v, findL rs.loc t = some (none, v) → Rep K v (a.tmps.getD t undef)
  tagged : ∀ t g v, findL rs.loc t = some (some g, v) → ∃ b, findG rs.G g = some b ∧ (b = true → Rep K v (a.tmps.getD t undef)) ∧ (b = false → a.tmps.getD t undef = undef)
  guards : ∀ g b, findG rs.G g = some b → (yielded ops a.tmps g.1 == some g.2) = b ∧ (∃ o d, ops[g.1]? = some o ∧ o.dst = some d ∧ (findL rs.loc d).isSome = true) ∧
    ∀ o h, ops[g.1]? = some o → o.guard = some h → b = true → findG rs.G h = some true
  size : a.tmps.size = nt
  defers : a.defers = []
  uniq : UniqL rs.loc

theorem tagEq_iff {a b : Tag} : tagEq a b = true ↔ a = b := by
  obtain ⟨i, x⟩ := a
  obtain ⟨j, y⟩ := b
  simp only [tagEq, Bool.and_eq_true, beq_iff_eq, Prod.mk.injEq]
  constructor
  · rintro ⟨h1, h2⟩; exact ⟨Nat.eq_of_beq_eq_true h1, h2⟩
  · rintro ⟨h1, h2⟩; subst h1 h2; exact ⟨Nat.beq_refl i, rfl⟩

theorem implied_sound {nt : Nat} {ops : Array Oper} {slots : List (Nat × AVal)} {K : Ctx} {rs : RSt} {a : Act} {w : World} (h : RSat nt ops slots K rs a w) :
    ∀ (n : Nat) (c g : Tag), implied ops n (some c) g = true → findG rs.G c = some true → findG rs.G g = some true
  | 0, c, g, hi, _ => by simp [implied] at hi
  | n + 1, c, g, hi, hc => by
    simp only [implied, Bool.or_eq_true] at hi
    rcases hi with hi | hi
    · rw [tagEq_iff] at hi; subst hi; exact hc
    · obtain ⟨_, ⟨o, d, ho, hd, _⟩, hg⟩ := h.guards c true hc
      simp only [ho] at hi
      cases hog : o.guard with
      | none => rw [hog] at hi; cases n <;> simp [implied] at hi
      | some c' =>
        rw [hog] at hi
        exact implied_sound h n c' g hi (hg o c' ho hog rfl)

theorem lookR_sound {nt : Nat} {ops : Array Oper} {slots : List (Nat × AVal)} {K : Ctx} {rs : RSt} {a : Act} {w : World} (h : RSat nt ops slots K rs a w) (cur : Option Tag) (hc : ∀ c, cur = some c → findG rs.G c = some true) (x : Operand) :
    Rep K (lookR ops slots rs.loc cur x) (a.eval x) := by
  cases x with
  | const v => exact .lit v
  | global g => exact .any _
  | func f => exact .fn (.func f) [] [] [] [] rfl rfl (fun i x v h => by simp at h) (fun i x v h => by simp at h)
  | tmp t =>
    simp only [lookR, Act.eval]
    split
    · rename_i v hf; exact h.plain t v hf
    · rename_i g v hf
      cases hi : implied ops 16 cur g with
      | false => exact .any _
      | true =>
        simp only [cond_true]
        cases cur with
        | none => simp [implied] at hi
        | some c =>
          have := implied_sound h 16 c g hi (hc c rfl)
          obtain ⟨b, hb, h1, _⟩ := h.tagged t g v hf
          rw [this] at hb
          simp only [Option.some.injEq] at hb
          exact h1 hb.symm
    · rename_i hf; exact h.outer t hf

theorem RSat.mono {nt : Nat} {ops : Array Oper} {slots : List (Nat × AVal)} {K L : Ctx} {rs : RSt} {a : Act} {w w' : World} {objs' : Objs} (hKL : K.le L) (hm : MemSat L objs' w') (h : RSat nt ops slots K rs a w) : RSat nt ops slots L { rs with objs := objs' } a w' :=
  ⟨hm, fun t ht => (h.outer t ht).mono hKL, fun t v hv => (h.plain t v hv).mono hKL, fun t g v hv => by obtain ⟨b, h1, h2, h3⟩ := h.tagged t g v hv; exact ⟨b, h1, fun hb => (h2 hb).mono hKL, h3⟩, h.guards, h.size, h.defers, h.uniq⟩

theorem findL_cons {i t : Nat} {g : Option Tag} {v : AVal} {r : List (Nat × Option Tag × AVal)} : findL ((i, g, v) :: r) t = if i = t then some (g, v) else findL r t := by
  simp only [findL]
  by_cases h : i = t
  · subst h; simp
  · have : Nat.beq i t = false := by
      cases hb : Nat.beq i t with
      | false => rfl
      | true => exact absurd (Nat.eq_of_beq_eq_true hb) h
    rw [this, if_neg h]; rfl

/-- Behind an operation that wrote v (or was passed over). -/
theorem RSat.put {nt : Nat} {ops : Array Oper} {slots : List (Nat × AVal)} {K : Ctx} {rs rs' : RSt} {a : Act} {w : World} {cur : Option Tag} {dst : Option Tmp} {v : AVal} {u : Value} (h : RSat nt ops slots K rs a w)
    (hp : putR nt rs cur dst v = some rs') (hu : match cur with | none => Rep K v u | some c => ∃ b, findG rs.G c = some b ∧ (b = true → Rep K v u) ∧ (b = false → u = undef)) :
    RSat nt ops slots K rs' (a.put dst u) w := by
  unfold putR at hp
  cases dst with
  | none => simp only [Option.some.injEq] at hp; subst hp; exact h
  | some d =>
    simp only at hp
    cases hb : Nat.blt d nt && (findL rs.loc d).isNone with
    | false => rw [hb] at hp; cases hp
    | true =>
      rw [hb] at hp
      simp only [cond_true, Option.some.injEq] at hp
      subst hp
      simp only [Bool.and_eq_true, Option.isNone_iff_eq_none] at hb
      obtain ⟨hlt, hnone⟩ := hb
      have hlt : d < a.tmps.size := by rw [h.size]; simpa using hlt
      have same : (a.put (some d) u).tmps.getD d undef = u := by simp [Act.put, hlt]
      have other : ∀ t, d ≠ t → (a.put (some d) u).tmps.getD t undef = a.tmps.getD t undef := fun t ht => by simp [Act.put, Array.getElem?_setIfInBounds_ne ht]
      have yield : ∀ (g : Tag) (o : Oper) (d' : Tmp), ops[g.1]? = some o → o.dst = some d' → (findL rs.loc d').isSome = true → yielded ops (a.put (some d) u).tmps g.1 = yielded ops a.tmps g.1 := by
        intro g o d' ho hd' hs
        have hne : d ≠ d' := by rintro rfl; rw [hnone] at hs; cases hs
        simp [yielded, ho, hd', Act.put, Array.getElem?_setIfInBounds_ne hne]
      refine ⟨h.mem, fun t ht => ?_, fun t x hx => ?_, fun t g x hx => ?_, fun g b hg => ?_, by simpa [Act.put] using h.size, h.defers, hnone, h.uniq⟩
      · rw [findL_cons] at ht
        split at ht
        · cases ht
        · rename_i hne; rw [other t hne]; exact h.outer t ht
      · rw [findL_cons] at hx
        split at hx
        · rename_i he; subst he
          simp only [Option.some.injEq, Prod.mk.injEq] at hx
          obtain ⟨rfl, rfl⟩ := hx
          rw [same]; exact hu
        · rename_i hne; rw [other t hne]; exact h.plain t x hx
      · rw [findL_cons] at hx
        split at hx
        · rename_i he; subst he
          simp only [Option.some.injEq, Prod.mk.injEq] at hx
          obtain ⟨rfl, rfl⟩ := hx
          rw [same]; exact hu
        · rename_i hne; rw [other t hne]; exact h.tagged t g x hx
      · obtain ⟨h1, ⟨o, d', ho, hd', hs⟩, h3⟩ := h.guards g b hg
        refine ⟨by rw [yield g o d' ho hd' hs]; exact h1, ⟨o, d', ho, hd', ?_⟩, h3⟩
        rw [findL_cons]
        split
        · rfl
        · exact hs

theorem findG_cons {h g : Tag} {b : Bool} {r : List (Tag × Bool)} : findG ((h, b) :: r) g = if h = g then some b else findG r g := by
  simp only [findG]
  by_cases e : h = g
  · subst e; rw [tagEq_iff.2 rfl, if_pos rfl]; rfl
  · have : tagEq h g = false := by
      cases ht : tagEq h g with
      | false => rfl
      | true => exact absurd (tagEq_iff.1 ht) e
    rw [this, if_neg e]; rfl

theorem gOf_sound {nt : Nat} {ops : Array Oper} {slots : List (Nat × AVal)} {K : Ctx} {rs rs1 : RSt} {a : Act} {w : World} {g : Tag} {gb : Bool} (h : RSat nt ops slots K rs a w) (hg : gOf ops rs g = some (gb, rs1)) :
    RSat nt ops slots K rs1 a w ∧ findG rs1.G g = some gb ∧ rs1.loc = rs.loc ∧ rs1.objs = rs.objs ∧ (yielded ops a.tmps g.1 == some g.2) = gb := by
  unfold gOf at hg
  split at hg
  · rename_i b hb
    simp only [Option.some.injEq, Prod.mk.injEq] at hg
    obtain ⟨rfl, rfl⟩ := hg
    exact ⟨h, hb, rfl, rfl, (h.guards g b hb).1⟩
  · rename_i hnone
    -- a new guard, once its value is known
    have add : ∀ (o : Oper) (d : Tmp) (gb : Bool), ops[g.1]? = some o → o.dst = some d → (findL rs.loc d).isSome = true → (yielded ops a.tmps g.1 == some g.2) = gb → (∀ h', o.guard = some h' → gb = true → findG rs.G h' = some true) →
        RSat nt ops slots K { rs with G := (g, gb) :: rs.G } a w := by
      intro o d gb ho hd hs hy hgu
      have keep : ∀ c b, findG rs.G c = some b → findG ((g, gb) :: rs.G) c = some b := by
        intro c b hc
        rw [findG_cons]
        split
        · rename_i e; subst e; rw [hnone] at hc; cases hc
        · exact hc
      refine ⟨h.mem, h.outer, h.plain, fun t c v hv => ?_, fun c b hc => ?_, h.size, h.defers, h.uniq⟩
      · obtain ⟨b, h1, h2, h3⟩ := h.tagged t c v hv
        exact ⟨b, keep c b h1, h2, h3⟩
      · rw [findG_cons] at hc
        split at hc
        · rename_i e; subst e
          simp only [Option.some.injEq] at hc
          subst hc
          refine ⟨hy, ⟨o, d, ho, hd, hs⟩, fun o' h' ho' hgo hb => ?_⟩
          rw [ho] at ho'
          simp only [Option.some.injEq] at ho'
          subst ho'
          exact keep _ _ (hgu h' hgo hb)
        · obtain ⟨h1, h2, h3⟩ := h.guards c b hc
          exact ⟨h1, h2, fun o' h' ho' hgo hb => keep _ _ (h3 o' h' ho' hgo hb)⟩
    split at hg
    · rename_i o ho
      split at hg
      · rename_i d hd
        split at hg
        · rename_i b hf
          cases hgn : o.guard.isNone with
          | false => rw [hgn] at hg; cases hg
          | true =>
            rw [hgn] at hg
            simp only [cond_true, Option.some.injEq, Prod.mk.injEq] at hg
            obtain ⟨rfl, rfl⟩ := hg
            have hv := rep_lit (h.plain d _ hf)
            have hlt : d < a.tmps.size := by
              rcases Nat.lt_or_ge d a.tmps.size with h' | h'
              · exact h'
              · simp [Array.getElem?_eq_none h', undef] at hv
            have hy : (yielded ops a.tmps g.1 == some g.2) = (bif g.2 then b else !b) := by
              have hd' : a.tmps[d]? = some (.bool b) := by
                rw [Array.getElem?_eq_getElem hlt]
                simpa [hlt] using hv
              simp only [yielded, ho, hd, Option.bind_some, hd']
              cases g.2 <;> cases b <;> rfl
            exact ⟨add o d _ ho hd (by rw [hf]; rfl) hy (fun h' hh _ => by rw [hh] at hgn; cases hgn), by rw [findG_cons, if_pos rfl], rfl, rfl, hy⟩
        · rename_i c b hf
          split at hg
          · rename_i c' hb hoc hfc
            cases ht : tagEq c' c with
            | false => rw [ht] at hg; cases hg
            | true =>
              rw [ht] at hg
              simp only [cond_true, Option.some.injEq, Prod.mk.injEq] at hg
              obtain ⟨rfl, rfl⟩ := hg
              have hcc := tagEq_iff.1 ht
              subst hcc
              obtain ⟨b', hb', h1, h2⟩ := h.tagged d c' _ hf
              rw [hfc] at hb'
              simp only [Option.some.injEq] at hb'
              subst hb'
              have hy : (yielded ops a.tmps g.1 == some g.2) = (hb && (bif g.2 then b else !b)) := by
                cases hb with
                | true =>
                  have hv := rep_lit (h1 rfl)
                  have hlt : d < a.tmps.size := by
                    rcases Nat.lt_or_ge d a.tmps.size with h' | h'
                    · exact h'
                    · simp [Array.getElem?_eq_none h', undef] at hv
                  have hd' : a.tmps[d]? = some (.bool b) := by
                    rw [Array.getElem?_eq_getElem hlt]
                    simpa [hlt] using hv
                  simp only [yielded, ho, hd, Option.bind_some, hd']
                  cases g.2 <;> cases b <;> rfl
                | false =>
                  have hv := h2 rfl
                  simp only [yielded, ho, hd, Option.bind_some, Bool.false_and]
                  cases hd' : a.tmps[d]? with
                  | none => rfl
                  | some x =>
                    simp only [Array.getD_eq_getD_getElem?, hd', Option.getD_some] at hv
                    subst hv
                    rfl
              exact ⟨add o d _ ho hd (by rw [hf]; rfl) hy (fun h' hh hb' => by
                rw [hoc] at hh
                simp only [Option.some.injEq] at hh
                subst hh
                simp only [Bool.and_eq_true] at hb'
                rw [hfc, hb'.1]), by rw [findG_cons, if_pos rfl], rfl, rfl, hy⟩
          · cases hg
        · cases hg
      · cases hg
    · cases hg

end
end Go.Fw
