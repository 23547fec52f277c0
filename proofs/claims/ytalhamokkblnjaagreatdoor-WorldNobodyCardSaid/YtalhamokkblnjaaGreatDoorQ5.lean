/-
  The evaluator of this claim, part 5: what it reckons is so of the program. No condition.
-/
import Derived.Test.YtalhamokkblnjaaGreatDoorQ4

namespace Go.Fw
set_option linter.unusedSimpArgs false
set_option linter.unusedVariables false
open Go.RowKit

def forceN (n : Nat) (K : Nat → Prop) : Prop :=
  match n with
  | 0 => K 0 | 1 => K 1 | 2 => K 2 | 3 => K 3 | 4 => K 4 | 5 => K 5 | 6 => K 6 | 7 => K 7 | 8 => K 8 | 9 => K 9 | 10 => K 10 | 11 => K 11 | 12 => K 12 | 13 => K 13 | 14 => K 14 | 15 => K 15 | 16 => K 16 | 17 => K 17 | 18 => K 18 | 19 => K 19
  | 20 => K 20 | 21 => K 21 | 22 => K 22 | 23 => K 23 | 24 => K 24
  | n => K n

theorem forceN_iff {n : Nat} {K : Nat → Prop} : forceN n K ↔ K n := by unfold forceN; split <;> exact Iff.rfl

def forceV (v : Value) (K : Value → Prop) : Prop :=
  match v with
  | .bool b => K (.bool b)
  | .int k n => K (.int k n)
  | .float k b => K (.float k b)
  | .complex k a b => K (.complex k a b)
  | .string s => K (.string s)
  | .pointer a => K (.pointer a)
  | .slice a l c => K (.slice a l c)
  | .map r => K (.map r)
  | .chan r => K (.chan r)
  | .func f a b => K (.func f a b)
  | .nilFunc => K .nilFunc
  | .iface t v => K (.iface t v)
  | .nilIface => K .nilIface
  | .agg cs => K (.agg cs)
  | .tuple vs => K (.tuple vs)

theorem forceV_iff {v : Value} {K : Value → Prop} : forceV v K ↔ K v := by cases v <;> exact Iff.rfl

/-- A value of one cell. -/
def force0 (v : AVal) (K : AVal → Prop) : Prop :=
  match v with
  | .any => K .any
  | .lit x => forceV x fun x => K (.lit x)
  | .agg cs => K (.agg cs)
  | .tup cs => K (.tup cs)
  | .seq k n t f => K (.seq k n t f)
  | .ref cs => K (.ref cs)
  | .ptr o ver k i j => forceN o fun o => forceN ver fun ver => forceN j fun j => K (.ptr o ver k i j)
  | .sel o ver k i j => forceN o fun o => forceN ver fun ver => forceN j fun j => K (.sel o ver k i j)
  | .buf o ver k len => forceN o fun o => forceN ver fun ver => K (.buf o ver k len)
  | .own o ver k off len => forceN o fun o => forceN ver fun ver => K (.own o ver k off len)
  | .fn f a b => K (.fn f a b)
  | .ifc t a => K (.ifc t a)
  | .map o => forceN o fun o => K (.map o)
  | .yld o => forceN o fun o => K (.yld o)
  | .sub o v k i j n m => K (.sub o v k i j n m)

theorem force0_iff {v : AVal} {K : AVal → Prop} : force0 v K ↔ K v := by
  cases v <;> simp only [force0, forceV_iff, forceN_iff]

def forceL0 : List AVal → (List AVal → Prop) → Prop
  | [], K => K []
  | a :: r, K => force0 a fun a => forceL0 r fun r => K (a :: r)

theorem forceL0_iff : ∀ {l : List AVal} {K : List AVal → Prop}, forceL0 l K ↔ K l
  | [], K => Iff.rfl
  | a :: r, K => by simp only [forceL0, force0_iff, forceL0_iff]

def force1 (v : AVal) (K : AVal → Prop) : Prop :=
  match v with
  | .agg cs => forceL0 cs fun cs => K (.agg cs)
  | .fn f a b => forceL0 a fun a => forceL0 b fun b => K (.fn f a b)
  | .ifc t a => force0 a fun a => K (.ifc t a)
  | v => force0 v K

theorem force1_iff {v : AVal} {K : AVal → Prop} : force1 v K ↔ K v := by
  cases v <;> simp only [force1, force0_iff, forceL0_iff]

def forceL1 : List AVal → (List AVal → Prop) → Prop
  | [], K => K []
  | a :: r, K => force1 a fun a => forceL1 r fun r => K (a :: r)

theorem forceL1_iff : ∀ {l : List AVal} {K : List AVal → Prop}, forceL1 l K ↔ K l
  | [], K => Iff.rfl
  | a :: r, K => by simp only [forceL1, force1_iff, forceL1_iff]

def forceA (v : AVal) (K : AVal → Prop) : Prop :=
  match v with
  | .tup cs => forceL1 cs fun cs => K (.tup cs)
  | v => force1 v K

theorem forceA_iff {v : AVal} {K : AVal → Prop} : forceA v K ↔ K v := by
  cases v <;> simp only [forceA, force1_iff, forceL1_iff]

/-- An object's cells, if it is a variable's. -/
def forceE (es : List (List AVal)) (K : List (List AVal) → Prop) : Prop :=
  match es with
  | [e] => forceL0 e fun e => K [e]
  | es => K es

theorem forceE_iff {es : List (List AVal)} {K : List (List AVal) → Prop} : forceE es K ↔ K es := by
  unfold forceE
  split
  · exact forceL0_iff
  · exact Iff.rfl

/-- The objects' list, brought to its constructors; the cells of number n too. -/
def forceO : Option Nat → Objs → (Objs → Prop) → Prop
  | _, [], K => K []
  | some 0, (ver, .row t k es) :: r, K => forceE es fun es => forceO none r fun r => K ((ver, .row t k es) :: r)
  | some (n + 1), (ver, p) :: r, K => forceO (some n) r fun r => K ((ver, p) :: r)
  | _, (ver, p) :: r, K => forceN ver fun ver => forceO none r fun r => K ((ver, p) :: r)

theorem forceO_iff {l : Objs} : ∀ {o : Option Nat} {K : Objs → Prop}, forceO o l K ↔ K l := by
  induction l with
  | nil => intro o K; cases o with
    | none => simp [forceO]
    | some n => cases n <;> simp [forceO]
  | cons p r ih =>
    intro o K
    obtain ⟨ver, p⟩ := p
    cases o with
    | none => simp only [forceO, forceN_iff, ih]
    | some n => cases n with
      | zero => cases p with
        | dead => simp only [forceO, forceN_iff, ih]
        | row t k es => simp only [forceO, forceE_iff, ih]
        | other x => simp only [forceO, forceN_iff, ih]
      | succ n => simp only [forceO, ih]

/-- All objects, each brought to its constructor. -/
def forceP : Objs → (Objs → Prop) → Prop
  | [], K => K []
  | (ver, p) :: r, K => forceN ver fun ver =>
    match p with
    | .row t k es => forceP r fun r => K ((ver, .row t k es) :: r)
    | .dead => forceP r fun r => K ((ver, .dead) :: r)
    | .other x => forceP r fun r => K ((ver, .other x) :: r)

theorem forceP_iff : ∀ {l : Objs} {K : Objs → Prop}, forceP l K ↔ K l
  | [], K => Iff.rfl
  | (ver, p) :: r, K => by cases p <;> simp only [forceP, forceN_iff, forceP_iff]

/-- The slots behind a region, step by step. -/
def cfilt (loc : Loc) : List (Nat × AVal) → (List (Nat × AVal) → Prop) → Prop
  | [], K => K []
  | (t, v) :: r, K => match findL loc t with | some _ => cfilt loc r K | none => cfilt loc r fun r => K ((t, v) :: r)

theorem cfilt_iff {loc : Loc} : ∀ {l : List (Nat × AVal)} {K : List (Nat × AVal) → Prop}, cfilt loc l K ↔ K (filtL loc l)
  | [], K => Iff.rfl
  | (t, v) :: r, K => by
    simp only [cfilt, filtL]
    cases findL loc t with
    | some e => exact cfilt_iff
    | none => exact cfilt_iff

def ckeep (keep : Nat → Bool) : Loc → List (Nat × AVal) → (List (Nat × AVal) → Prop) → Prop
  | [], s, K => K s
  | (t, g, v) :: r, s, K => match g.isNone && keep t with | true => ckeep keep r s fun s => K ((t, v) :: s) | false => ckeep keep r s K

theorem ckeep_iff {keep : Nat → Bool} : ∀ {loc : Loc} {s : List (Nat × AVal)} {K : List (Nat × AVal) → Prop}, ckeep keep loc s K ↔ K (keepL keep loc s)
  | [], s, K => Iff.rfl
  | (t, g, v) :: r, s, K => by
    simp only [ckeep, keepL]
    cases g.isNone && keep t with
    | true => exact ckeep_iff
    | false => exact ckeep_iff

def cmerge (keep : Nat → Bool) (slots : List (Nat × AVal)) (loc : Loc) (K : List (Nat × AVal) → Prop) : Prop := cfilt loc slots fun s => ckeep keep loc s K

theorem cmerge_iff {keep : Nat → Bool} {slots : List (Nat × AVal)} {loc : Loc} {K : List (Nat × AVal) → Prop} : cmerge keep slots loc K ↔ K (mergeL keep slots loc) := by
  unfold cmerge mergeL
  rw [cfilt_iff, ckeep_iff]

def cput (nt : Nat) (loc : Loc) (G : Gs) (objs : Objs) (cur : Option Tag) (dst : Option Tmp) (v : AVal) (K : Loc → Gs → Objs → Prop) : Prop :=
  match dst with
  | none => K loc G objs
  | some d => (match Nat.blt d nt && (findL loc d).isNone with | true => forceA v fun v => K ((d, cur, v) :: loc) G objs | false => False)

/-- An address that an index made. -/
def ownAddr (ops : Array Oper) : Nat → Operand → Bool
  | 0, _ => false
  | n + 1, .tmp a =>
    (match ops.toList.find? fun o => match o.dst with | some d => Nat.beq d a | none => false with
     | some o => (match o.op with | .indexAddr _ _ _ => true | .fieldAddr _ x _ => ownAddr ops n x | .nilCheck x => ownAddr ops n x | _ => false)
     | none => false)
  | _, _ => false

def ceff (ops : Array Oper) (o : Oper) (look : Operand → AVal) (objs objs' : Objs) (K : Objs → Prop) : Prop :=
  match o.op with
  | .alloc _ => forceO (some objs.length) objs' K
  | .box _ _ => forceO (some objs.length) objs' K
  | .store _ a _ => (match ownAddr ops 8 a with | true => forceO none objs' K | false => (match look a with | .ptr n _ _ _ _ => forceO (some n) objs' K | _ => forceO none objs' K))
  | _ => forceO none objs' K

theorem ceff_iff {ops : Array Oper} {o : Oper} {look : Operand → AVal} {objs objs' : Objs} {K : Objs → Prop} : ceff ops o look objs objs' K ↔ K objs' := by
  unfold ceff
  split
  · exact forceO_iff
  · exact forceO_iff
  · split
    · exact forceO_iff
    · split <;> exact forceO_iff
  · exact forceO_iff

/-- An operation on an element of a row that may be written: what it gives is told by the proof. -/
def ownOp (ops : Array Oper) (look : Operand → AVal) (o : Oper) : Bool :=
  match o.op with
  | .load _ a => (match ownAddr ops 8 a with | true => (match look a with | .ptr _ _ _ _ _ => true | _ => false) | false => false)
  | .store _ a _ => (match ownAddr ops 8 a with | true => (match look a with | .ptr _ _ _ _ _ => true | _ => false) | false => false)
  | _ => false

/-- A slice literal with elements: the proof says whether it is written later. -/
def litOp : Op → Bool
  | .buildSlice _ (_ + 1) _ => true
  | _ => false

def cres (P : Program) (nt : Nat) (ops : Array Oper) (slots : List (Nat × AVal)) (draw : Bool) (o : Oper) (cur : Option Tag) (gb : Bool) (loc : Loc) (G : Gs) (objs : Objs) (K : Loc → Gs → Objs → Prop) (r : ORes) : Prop :=
    match r with
    | .bad => (match cur, draw with | none, false => evalX P (lookR ops slots loc none) objs o fun r objs' => cput nt loc G objs' none o.dst r K | some c, false => ∃ v, (gb = true → evalX P (lookR ops slots loc (some c)) objs o fun u o2 => u = v ∧ o2 = objs) ∧ cput nt loc G objs (some c) o.dst v K | _, _ => False)
    | .val v => (match litOp o.op, cur, draw with | true, none, false => cput nt loc G objs none o.dst v K ∨ ownSl P (lookR ops slots loc none) objs o (fun r objs' => cput nt loc G objs' none o.dst r K) | _, _, _ => cput nt loc G objs cur o.dst v K)
    | .ifb b v => (gb = true → b = true) ∧ cput nt loc G objs cur o.dst v K
    | .eff b v objs' => (match cur with | none => b = true ∧ ceff ops o (lookR ops slots loc cur) objs objs' fun objs' => cput nt loc G objs' none o.dst v K | some _ => False)
    | .upd v objs' => (match cur with | none => ceff ops o (lookR ops slots loc cur) objs objs' fun objs' => cput nt loc G objs' none o.dst v K | some _ => False)
    | .call f args =>
      (match cur, draw with
       | none, false => forceL1 args fun args => ACalls P f args objs fun r objs' => forceP objs' fun objs' => cput nt loc G objs' none o.dst r K
       | _, _ => forceL1 args fun args => ∃ r objs', (gb = true → ACalls P f args objs fun r' o' => r' = r ∧ o' = objs') ∧ (gb = false → objs' = objs) ∧ forceP objs' fun objs' => cput nt loc G objs' cur o.dst r K)

def cstep (P : Program) (nt : Nat) (ops : Array Oper) (slots : List (Nat × AVal)) (draw : Bool) (o : Oper) (cur : Option Tag) (gb : Bool) (loc : Loc) (G : Gs) (objs : Objs) (K : Loc → Gs → Objs → Prop) : Prop :=
  match o.op with
  | .pick c x y => (match pickA ops slots ⟨loc, G, objs⟩ cur c x y with | some v => cput nt loc G objs cur o.dst v K | none => False)
  | _ =>
    (match ownOp ops (lookR ops slots loc cur) o with
     | true => ∃ r, (match cur with | none => evalOp P (lookR ops slots loc cur) objs o = r | some _ => gb = true → evalOp P (lookR ops slots loc cur) objs o = r) ∧ cres P nt ops slots draw o cur gb loc G objs K r
     | false => cres P nt ops slots draw o cur gb loc G objs K (evalOp P (lookR ops slots loc cur) objs o))

/-- The value of a guard, and the guards known then. -/
def cgOf (ops : Array Oper) (loc : Loc) (G : Gs) (g : Tag) : Option (Bool × Gs) :=
  match findG G g with
  | some b => some (b, G)
  | none =>
    match ops[g.1]? with
    | some o =>
      (match o.dst with
       | some d =>
         (match findL loc d with
          | some (none, .lit (.bool b)) =>
            bif o.guard.isNone then some (bif g.2 then b else !b, (g, bif g.2 then b else !b) :: G) else none
          | some (some h, .lit (.bool b)) =>
            (match o.guard, findG G h with
             | some h', some hb => bif tagEq h' h then some (hb && (bif g.2 then b else !b), (g, hb && (bif g.2 then b else !b)) :: G) else none
             | _, _ => none)
          | _ => none)
       | none => none)
    | none => none

theorem cgOf_some {ops : Array Oper} {loc : Loc} {G G' : Gs} {objs : Objs} {g : Tag} {gb : Bool} (h : cgOf ops loc G g = some (gb, G')) : gOf ops ⟨loc, G, objs⟩ g = some (gb, ⟨loc, G', objs⟩) := by
  unfold cgOf at h
  unfold gOf
  split at h
  · rename_i b hb
    simp only [Option.some.injEq, Prod.mk.injEq] at h
    obtain ⟨rfl, rfl⟩ := h
    simp only [hb]
  · rename_i hn
    simp only [hn]
    split at h
    · rename_i o ho
      simp only [ho]
      split at h
      · rename_i d hd
        simp only [hd]
        split at h
        · rename_i b hf
          simp only [hf]
          cases hg : o.guard.isNone with
          | true =>
            rw [hg] at h
            simp only [cond_true, Option.some.injEq, Prod.mk.injEq] at h
            obtain ⟨rfl, rfl⟩ := h
            rfl
          | false => rw [hg] at h; cases h
        · rename_i c b hf
          simp only [hf]
          split at h
          · rename_i c' hb hoc hfc
            simp only [hoc, hfc]
            cases ht : tagEq c' c with
            | true =>
              rw [ht] at h
              simp only [cond_true, Option.some.injEq, Prod.mk.injEq] at h
              obtain ⟨rfl, rfl⟩ := h
              rfl
            | false => rw [ht] at h; cases h
          · cases h
        · cases h
      · cases h
    · cases h

def cops (P : Program) (nt : Nat) (ops : Array Oper) (slots : List (Nat × AVal)) (draw : Bool) : List Oper → Loc → Gs → Objs → (Loc → Gs → Objs → Prop) → Prop
  | [], loc, G, objs, K => K loc G objs
  | o :: rest, loc, G, objs, K =>
    match o.guard with
    | none => cstep P nt ops slots draw o none true loc G objs fun loc G objs => cops P nt ops slots draw rest loc G objs K
    | some g =>
      (match cgOf ops loc G g with
       | some (gb, G) => cstep P nt ops slots draw o (some g) gb loc G objs fun loc G objs => cops P nt ops slots draw rest loc G objs K
       | none => False)

/-- A list of numbers, brought to numerals. -/
def forceB (n : Nat) (K : Nat → Prop) : Prop :=
  match n with
  | 0 => K 0
  | m + 1 => K (m + 1)

theorem forceB_iff {n : Nat} {K : Nat → Prop} : forceB n K ↔ K n := by cases n <;> exact Iff.rfl

def forceNL : List Nat → (List Nat → Prop) → Prop
  | [], K => K []
  | n :: r, K => forceB n fun n => forceNL r fun r => K (n :: r)

theorem forceNL_iff : ∀ {l : List Nat} {K : List Nat → Prop}, forceNL l K ↔ K l
  | [], K => Iff.rfl
  | n :: r, K => by simp only [forceNL, forceB_iff, forceNL_iff]

def effList (ops : Array Oper) (ms : List Nat) : List Nat := (List.range ops.size).filter fun i => effAt ops ms i

def okPosL (ms effs : List Nat) (i p : Nat) : Bool := effs.all fun j => (!bit ms i j || Nat.blt j p) && (!bit ms j i || Nat.ble p j)

theorem okPosL_of {ops : Array Oper} {ms : List Nat} {i p : Nat} (h : okPos ops ms i p = true) : okPosL ms (effList ops ms) i p = true := by
  simp only [okPos, List.all_eq_true, List.mem_range] at h
  simp only [okPosL, effList, List.all_eq_true, List.mem_filter, List.mem_range]
  rintro j ⟨hj, ej⟩
  have := h j hj
  rw [ej] at this
  simpa using this

/-- What is still owed of a reader: that it reads the same at other places. -/
def cown (ms effs : List Nat) (i own : Nat) (f : Objs → Prop) : List (Nat × Objs) → Prop → Prop
  | [], K => K
  | (p, o) :: r, K => match okPosL ms effs i p && !Nat.beq p own with | true => f o ∧ cown ms effs i own f r K | false => cown ms effs i own f r K

def cfin (ms effs : List Nat) (Bs : List (Nat × Objs)) : List (Nat × Nat × (Objs → Prop)) → Prop → Prop
  | [], K => K
  | (i, own, f) :: r, K => cown ms effs i own f Bs (cfin ms effs Bs r K)

abbrev DK := Loc → Gs → Objs → List (Nat × Objs) → List (Nat × Nat × (Objs → Prop)) → Prop

/-- A reader reads the same elsewhere. -/
def rdF (sk : Bool) (P : Program) (look : Operand → AVal) (o : Oper) (v : AVal) : Objs → Prop :=
  match sk with
  | false => fun o' => evalOp P look o' o = .val v
  | true => fun o' => ∃ u, evalOp P look o' o = .val u ∧ Sub u v

def rdX (P : Program) (look : Operand → AVal) (o : Oper) (v : AVal) (o' : Objs) : Prop := evalOp P look o' o = .bad ∧ evalX P look o' o fun u o2 => Sub u v ∧ o2 = o'

def cdres (P : Program) (sk : Bool) (nt : Nat) (ops : Array Oper) (slots : List (Nat × AVal)) (effs : List Nat) (i : Nat) (o : Oper) (cur : Option Tag) (gb : Bool) (own : Nat) (loc : Loc) (G : Gs) (objs : Objs) (Bs : List (Nat × Objs)) (Rd : List (Nat × Nat × (Objs → Prop))) (K : DK) (r : ORes) : Prop :=
    match r with
    | .bad =>
      (match effs.any fun j => Nat.beq j i with
       | true => (match cur with
         | none => ∃ v objs', (evalX P (lookR ops slots loc cur) objs o fun u o2 => Sub u v ∧ o2 = objs') ∧ forceP objs' fun objs' => cput nt loc G objs' none o.dst v fun loc G objs => K loc G objs ((i + 1, objs) :: Bs) Rd
         | some _ => False)
       | false => ∃ v, (effKind o.op || callKind o.op) = false ∧ (evalX P (lookR ops slots loc cur) objs o fun u o2 => Sub u v ∧ o2 = objs) ∧ cput nt loc G objs cur o.dst v fun loc' G objs => K loc' G objs Bs ((i, own, rdX P (lookR ops slots loc cur) o v) :: Rd))
    | .val v => (match loadKind o.op with
      | true => cput nt loc G objs cur o.dst v fun loc' G objs => K loc' G objs Bs ((i, own, rdF sk P (lookR ops slots loc cur) o v) :: Rd)
      | false => cput nt loc G objs cur o.dst v fun loc G objs => K loc G objs Bs Rd)
    | .ifb b v => (gb = true → b = true) ∧ cput nt loc G objs cur o.dst v fun loc G objs => K loc G objs Bs Rd
    | .eff b v objs' => (match cur with | none => b = true ∧ ceff ops o (lookR ops slots loc cur) objs objs' fun objs' => cput nt loc G objs' none o.dst v fun loc G objs => K loc G objs ((i + 1, objs) :: Bs) Rd | some _ => False)
    | .upd v objs' => (match cur with | none => ceff ops o (lookR ops slots loc cur) objs objs' fun objs' => cput nt loc G objs' none o.dst v fun loc G objs => K loc G objs ((i + 1, objs) :: Bs) Rd | some _ => False)
    | .call f args => forceL1 args fun args =>
      (match effs.any fun j => Nat.beq j i with
       | true => (match cur with
         | none => ∃ r objs', ACalls P f args objs (fun r' o' => r' = r ∧ o' = objs') ∧ forceP objs' fun objs' => cput nt loc G objs' none o.dst r fun loc G objs => K loc G objs ((i + 1, objs) :: Bs) Rd
         | some g => ∃ r objs', (gb = true → ACalls P f args objs (fun r' o' => r' = r ∧ o' = objs')) ∧ (gb = false → objs' = objs) ∧ forceP objs' fun objs' => cput nt loc G objs' (some g) o.dst r fun loc G objs => K loc G objs ((i + 1, objs) :: Bs) Rd)
       | false => ∃ r, (gb = true → AGives P f args objs r) ∧ cput nt loc G objs cur o.dst r fun loc G objs => K loc G objs Bs ((i, own, fun o' => gb = true → AGives P f args o' r) :: Rd))

def cdstep (P : Program) (sk : Bool) (nt : Nat) (ops : Array Oper) (slots : List (Nat × AVal)) (effs : List Nat) (i : Nat) (o : Oper) (cur : Option Tag) (gb : Bool) (own : Nat) (loc : Loc) (G : Gs) (objs : Objs) (Bs : List (Nat × Objs)) (Rd : List (Nat × Nat × (Objs → Prop))) (K : DK) : Prop :=
  match o.op with
  | .pick c x y => (match pickA ops slots ⟨loc, G, objs⟩ cur c x y with | some v => cput nt loc G objs cur o.dst v fun loc G objs => K loc G objs Bs Rd | none => False)
  | _ =>
    (match ownOp ops (lookR ops slots loc cur) o with
     | true => ∃ r, evalOp P (lookR ops slots loc cur) objs o = r ∧ cdres P sk nt ops slots effs i o cur gb own loc G objs Bs Rd K r
     | false => cdres P sk nt ops slots effs i o cur gb own loc G objs Bs Rd K (evalOp P (lookR ops slots loc cur) objs o))

theorem cdown {P : Program} {sk : Bool} {nt : Nat} {ops : Array Oper} {slots : List (Nat × AVal)} {effs : List Nat} {i : Nat} {o : Oper} {cur : Option Tag} {gb : Bool} {own : Nat} {loc : Loc} {G : Gs} {objs : Objs} {Bs : List (Nat × Objs)} {Rd : List (Nat × Nat × (Objs → Prop))} {K : DK}
    (h : match ownOp ops (lookR ops slots loc cur) o with
     | true => ∃ r, evalOp P (lookR ops slots loc cur) objs o = r ∧ cdres P sk nt ops slots effs i o cur gb own loc G objs Bs Rd K r
     | false => cdres P sk nt ops slots effs i o cur gb own loc G objs Bs Rd K (evalOp P (lookR ops slots loc cur) objs o)) : cdres P sk nt ops slots effs i o cur gb own loc G objs Bs Rd K (evalOp P (lookR ops slots loc cur) objs o) := by
  split at h
  · obtain ⟨r, rfl, h⟩ := h; exact h
  · exact h

theorem evalOp_load {P : Program} {look : Operand → AVal} {objs : Objs} {o : Oper} {t te : TypeId} {a : Operand} {ob ver k i j : Nat} {es : List (List AVal)} {e : List AVal} {v : AVal} (ho : o.op = .load t a) (hl : look a = .ptr ob ver k i j) (hr : rowOf objs ob ver k = some (te, es)) (he : elemI es i = some e) (hp : partA P t e j = some v) : evalOp P look objs o = .val v := by
  unfold evalOp
  simp only [ho, hl, loadA, hr, he, hp]

theorem evalOp_store {P : Program} {look : Operand → AVal} {objs : Objs} {o : Oper} {t te : TypeId} {a x : Operand} {ob ver k i j : Nat} {es : List (List AVal)} {e cs : List AVal} (ho : o.op = .store t a x) (hl : look a = .ptr ob ver k i j) (hx : cellsA (look x) = some cs) (hr : rowOf objs ob ver k = some (te, es)) (he : elemI es i = some e) (hi : (P.info? t).isSome = true) (hb : (Nat.beq cs.length (sizeA P t) && Nat.ble (j + cs.length) e.length) = true)
    {es' : List (List AVal)} (hs : es.set i (splice e j cs) = es') : evalOp P look objs o = .upd (.lit undef) (objs.set ob (ver, .row te k es')) := by
  subst hs
  unfold evalOp
  simp only [ho, hi, hl, storeA, hx, hr, he, hb, Bool.not_true, cond_false, cond_true]

/-- The last place ahead of which an effect has run. -/
def lastB : List (Nat × Objs) → Nat
  | [] => 0
  | (p, _) :: _ => p

def cdops (P : Program) (sk : Bool) (nt : Nat) (ops : Array Oper) (slots : List (Nat × AVal)) (ms effs : List Nat) : Nat → List Oper → Loc → Gs → Objs → List (Nat × Objs) → List (Nat × Nat × (Objs → Prop)) → (Loc → Objs → Prop) → Prop
  | _, [], loc, _, objs, Bs, Rd, K => cfin ms effs Bs Rd (K loc objs)
  | i, o :: rest, loc, G, objs, Bs, Rd, K =>
    match o.guard with
    | none => cdstep P sk nt ops slots effs i o none true (lastB Bs) loc G objs Bs Rd fun loc G objs Bs Rd => cdops P sk nt ops slots ms effs (i + 1) rest loc G objs Bs Rd K
    | some g =>
      (match cgOf ops loc G g with
       | some (gb, G) =>
         (match sk with
          | true =>
            (match gb with
             | false => cput nt loc G objs (some g) o.dst (.lit (.bool false)) fun loc G objs => cdops P sk nt ops slots ms effs (i + 1) rest loc G objs (match effs.any fun j => Nat.beq j i with | true => (i + 1, objs) :: Bs | false => Bs) Rd K
             | true => cdstep P sk nt ops slots effs i o (some g) true (lastB Bs) loc G objs Bs Rd fun loc G objs Bs Rd => cdops P sk nt ops slots ms effs (i + 1) rest loc G objs Bs Rd K)
          | false => cdstep P sk nt ops slots effs i o (some g) gb (lastB Bs) loc G objs Bs Rd fun loc G objs Bs Rd => cdops P sk nt ops slots ms effs (i + 1) rest loc G objs Bs Rd K)
       | none => False)

def cdraw (P : Program) (nt : Nat) (ops : Array Oper) (slots : List (Nat × AVal)) (objs : Objs) (K : Loc → Objs → Prop) : Prop :=
  (P.follows .mixedOrders && drawCheck ops (masks ops)) = true ∧ forceNL (masks ops) fun ms => forceNL (effList ops ms) fun effs => cdops P false nt ops slots ms effs 0 ops.toList [] [] objs [(0, objs)] [] K

def CQ := AExit → List (Nat × AVal) → Objs → Prop

def cwp (P : Program) (nt n0 : Nat) (keep : Nat → Bool) : Code → CQ → List (Nat × AVal) → Objs → Prop
  | .skip, Q, s, o => Q .normal s o
  | .region id ops draw, Q, s, o =>
    (match draw with
     | false => cops P nt ops s false ops.toList [] [] o fun loc _ o => cmerge keep s loc fun s => Q .normal s o
     | true =>
       (match keep (2000000 + id) with
        | true => cdraw P nt ops s o fun loc o => cmerge keep s loc fun s => Q .normal s o
        | false => DrawS P nt ops ⟨s, o⟩ fun loc o => cmerge keep s loc fun s => Q .normal s o))
  | .seq a b, Q, s, o =>
    (match keep (1000000 + firstId b) with
     | true => cwp P nt n0 keep a (fun e s o => match e with | .normal => cwp P nt n0 keep b Q s o | e => Q e s o) s o
     | false => ∃ J : List (Nat × AVal) → Objs → Prop, (∀ s o, J s o → cwp P nt n0 keep b Q s o) ∧ cwp P nt n0 keep a (fun e s o => match e with | .normal => ∃ s' o', Weaker nt n0 ⟨s, o⟩ ⟨s', o'⟩ ∧ J s' o' | e => Q e s o) s o)
  | .cond c x y, Q, s, o =>
    (match lookO ⟨s, o⟩ c with
     | .lit (.bool b) => (b = true → cwp P nt n0 keep x Q s o) ∧ (b = false → cwp P nt n0 keep y Q s o)
     | _ => False)
  | .block id body, Q, s, o => cwp P nt n0 keep body (fun e s o => match e with | .exit i => (match Nat.beq i id with | true => Q .normal s o | false => Q (.exit i) s o) | e => Q e s o) s o
  | .loop body, Q, s, o => ∃ (I : Nat → List (Nat × AVal) → Objs → Prop) (n : Nat) (s1 : List (Nat × AVal)) (o1 : Objs), Weaker nt n0 ⟨s, o⟩ ⟨s1, o1⟩ ∧ I n s1 o1 ∧ ∀ m s o, I m s o → cwp P nt n0 keep body (fun e s o => match e with | .normal => ∃ m' s' o', m' < m ∧ Weaker nt n0 ⟨s, o⟩ ⟨s', o'⟩ ∧ I m' s' o' | e => Q e s o) s o
  | .scope b, Q, s, o =>
    (match keep (3000000 + firstId b) with
     | true => cwp P nt n0 keep b (fun e s o => match e with | .goto _ => False | e => Q e s o) s o
     | false => ∃ R : AExit → List (Nat × AVal) → Objs → Prop, RangeW P nt n0 (.scope b) (fun e t => R e t.slots t.objs) ⟨s, o⟩ ∧ ∀ e s o, R e s o → Q e s o)
  | .exit id, Q, s, o => Q (.exit id) s o
  | .label _, Q, s, o => Q .normal s o
  | .goto l, Q, s, o => Q (.goto l) s o
  | .ret, Q, s, o => Q .ret s o
  | .rangeFunc f ps x y, Q, s, o => ∃ R : AExit → List (Nat × AVal) → Objs → Prop, RangeW P nt n0 (.rangeFunc f ps x y) (fun e t => R e t.slots t.objs) ⟨s, o⟩ ∧ ∀ e s o, R e s o → Q e s o
  | _, _, _, _ => False

section
variable {P : Program} {nt n0 : Nat} {keep : Nat → Bool}

theorem cput_iff {loc : Loc} {G : Gs} {objs : Objs} {cur : Option Tag} {dst : Option Tmp} {v : AVal} {K : Loc → Gs → Objs → Prop} : cput nt loc G objs cur dst v K ↔ PutK nt ⟨loc, G, objs⟩ cur dst v fun r => K r.loc r.G r.objs := by
  unfold cput PutK putR
  cases dst with
  | none => exact Iff.rfl
  | some d =>
    simp only
    cases Nat.blt d nt && (findL loc d).isNone with
    | true => simp only [forceA_iff, cond_true]
    | false => exact Iff.rfl

theorem cstep_step {ops : Array Oper} {slots : List (Nat × AVal)} {draw : Bool} {o : Oper} {cur : Option Tag} {gb : Bool} {loc : Loc} {G : Gs} {objs : Objs} {K : Loc → Gs → Objs → Prop}
    (hgb : gb = true) (h : cstep P nt ops slots draw o cur gb loc G objs K) : stepOp P nt ops slots draw o cur gb ⟨loc, G, objs⟩ fun r => K r.loc r.G r.objs := by
  unfold cstep at h
  unfold stepOp
  split at h
  · rename_i c x y hop
    simp only [hop]
    split at h
    · rename_i v hv; simp only [hv]; exact cput_iff.1 h
    · exact h.elim
  · rename_i hne
    split
    · rename_i c x y hop; exact (hne c x y hop).elim
    · replace h : cres P nt ops slots draw o cur gb loc G objs K (evalOp P (lookR ops slots loc cur) objs o) := by
        split at h
        · obtain ⟨r, hr, h⟩ := h
          have hr' : evalOp P (lookR ops slots loc cur) objs o = r := by
            cases cur with
            | none => exact hr
            | some c => exact hr hgb
          rw [hr']
          exact h
        · exact h
      unfold cres at h
      split at h
      · rename_i he
        simp only [he]
        split at h
        · exact evalX_mono (fun r o' hr => cput_iff.1 hr) h
        · exact ⟨h.choose, h.choose_spec.1, cput_iff.1 h.choose_spec.2⟩
        · exact h.elim
      · rename_i v he; simp only [he]
        split at h
        · rcases h with h | h
          · exact .inl (cput_iff.1 h)
          · exact .inr (ownSl_mono (fun r o' hr => cput_iff.1 hr) h)
        · exact .inl (cput_iff.1 h)
      · rename_i b v he; simp only [he]; exact ⟨h.1, cput_iff.1 h.2⟩
      · rename_i b v o' he
        simp only [he]
        split at h
        · rw [ceff_iff, cput_iff] at h; exact h
        · exact h.elim
      · rename_i v o' he
        simp only [he]
        split at h
        · rw [ceff_iff, cput_iff] at h; exact h
        · exact h.elim
      · rename_i f args he
        simp only [he]
        split at h
        · rw [forceL1_iff] at h
          exact h.mono fun r o' hr => cput_iff.1 (forceP_iff.1 hr)
        · rw [forceL1_iff] at h
          rename_i hne2
          split
          · exact (hne2 rfl rfl).elim
          · obtain ⟨r, objs', h1, h2, h3⟩ := h
            exact ⟨r, objs', h1, h2, cput_iff.1 (forceP_iff.1 h3)⟩

/-- An operation whose guard is false is passed by, whatever is told of it. -/
theorem cstep_left {ops : Array Oper} {slots : List (Nat × AVal)} {draw : Bool} {o : Oper} {g : Tag} {loc : Loc} {G : Gs} {objs : Objs} {K : Loc → Gs → Objs → Prop}
    (h : cstep P nt ops slots draw o (some g) false loc G objs K) : ∃ v, PutK nt ⟨loc, G, objs⟩ (some g) o.dst v fun r => K r.loc r.G r.objs := by
  have key : ∀ r, cres P nt ops slots draw o (some g) false loc G objs K r → ∃ v, PutK nt ⟨loc, G, objs⟩ (some g) o.dst v fun r => K r.loc r.G r.objs := by
    intro r h
    unfold cres at h
    cases r with
    | bad =>
      cases draw with
      | false => obtain ⟨v, _, h⟩ := h; exact ⟨v, cput_iff.1 h⟩
      | true => exact h.elim
    | val v =>
      refine ⟨v, cput_iff.1 ?_⟩
      simp only at h
      split at h
      · rename_i e _; cases e
      · exact h
    | ifb b v => exact ⟨v, cput_iff.1 h.2⟩
    | eff b v o' => exact h.elim
    | upd v o' => exact h.elim
    | call f args =>
      replace h : forceL1 args fun args => ∃ r objs', (false = true → ACalls P f args objs fun r' o' => r' = r ∧ o' = objs') ∧ (false = false → objs' = objs) ∧ forceP objs' fun objs' => cput nt loc G objs' (some g) o.dst r K := h
      rw [forceL1_iff] at h
      obtain ⟨r, objs', _, h2, h3⟩ := h
      have e := h2 rfl
      subst e
      exact ⟨r, cput_iff.1 (forceP_iff.1 h3)⟩
  unfold cstep at h
  split at h
  · split at h
    · exact ⟨_, cput_iff.1 h⟩
    · exact h.elim
  · split at h
    · obtain ⟨r, _, h⟩ := h; exact key r h
    · exact key _ h

theorem cops_ops {ops : Array Oper} {slots : List (Nat × AVal)} {draw : Bool} {K : Loc → Gs → Objs → Prop} : ∀ {l : List Oper} {loc : Loc} {G : Gs} {objs : Objs},
    cops P nt ops slots draw l loc G objs K → awpOps P nt ops slots draw l ⟨loc, G, objs⟩ fun r => K r.loc r.G r.objs
  | [], loc, G, objs, h => h
  | o :: rest, loc, G, objs, h => by
    simp only [cops] at h
    simp only [awpOps]
    split at h
    · rename_i hg
      simp only [hg]
      exact stepOp_mono (fun r hr => cops_ops hr) (cstep_step rfl h)
    · rename_i g hg
      simp only [hg]
      split at h
      · rename_i gb G' hgo
        simp only [cgOf_some hgo]
        cases gb with
        | true => exact .inr (stepOp_mono (fun r hr => cops_ops hr) (cstep_step rfl h))
        | false =>
          obtain ⟨v, h⟩ := cstep_left h
          obtain ⟨rs', hr, h2⟩ := PutK_some h
          refine .inl ⟨rfl, v, ?_⟩
          unfold PutK
          rw [hr]
          exact cops_ops h2
      · exact h.elim

theorem awpOps_mono {ops : Array Oper} {slots : List (Nat × AVal)} {draw : Bool} {K K' : RSt → Prop} (hk : ∀ r, K r → K' r) : ∀ {l : List Oper} {rs : RSt}, awpOps P nt ops slots draw l rs K → awpOps P nt ops slots draw l rs K'
  | [], rs, h => hk rs h
  | o :: rest, rs, h => by
    simp only [awpOps] at h ⊢
    split
    · rename_i hg
      simp only [hg] at h
      exact stepOp_mono (fun r hr => awpOps_mono hk hr) h
    · rename_i g hg
      simp only [hg] at h
      split
      · rename_i gb rs1 hgo
        simp only [hgo] at h
        rcases h with ⟨hgb, v, hp⟩ | h
        · refine .inl ⟨hgb, v, ?_⟩
          obtain ⟨rs', hr, h2⟩ := PutK_some hp
          unfold PutK
          rw [hr]
          exact awpOps_mono hk h2
        · exact .inr (stepOp_mono (fun r hr => awpOps_mono hk hr) h)
      · rename_i hgo
        simp only [hgo] at h

theorem awp_mono (c : Code) : ∀ (Q Q' : AExit → St → Prop) (s : St), (∀ e s, Q e s → Q' e s) → awp P nt n0 keep c Q s → awp P nt n0 keep c Q' s := by
  induction c with
  | skip => exact fun Q Q' s hq h => hq _ _ h
  | label l => exact fun Q Q' s hq h => hq _ _ h
  | exit id => exact fun Q Q' s hq h => hq _ _ h
  | goto l => exact fun Q Q' s hq h => hq _ _ h
  | ret => exact fun Q Q' s hq h => hq _ _ h
  | refuse why => exact fun Q Q' s hq h => h
  | scope b ih =>
    intro Q Q' s hq h
    simp only [awp] at h ⊢
    split
    · rename_i hk
      rw [hk] at h
      refine ih _ _ s ?_ h
      intro e s hs
      cases e with
      | normal => exact hq _ _ hs
      | exit i => exact hq _ _ hs
      | goto l => exact hs
      | ret => exact hq _ _ hs
    · rename_i hk
      rw [hk] at h
      exact ⟨h.choose, h.choose_spec.1, fun e t ht => hq e t (h.choose_spec.2 e t ht)⟩
  | rangeFunc f ps x y _ _ => exact fun Q Q' s hq h => ⟨h.choose, h.choose_spec.1, fun e t ht => hq e t (h.choose_spec.2 e t ht)⟩
  | region id ops draw =>
    intro Q Q' s hq h
    cases draw with
    | false => exact awpOps_mono (fun r hr => hq _ _ hr) h
    | true =>
      simp only [awp] at h ⊢
      split
      · rename_i hk
        rw [hk] at h
        obtain ⟨h1, h2, tr, h3, h4, h5⟩ := h
        exact ⟨h1, h2, tr, h3, h4, hq _ _ h5⟩
      · rename_i hk
        rw [hk] at h
        exact fun i K0 Kc a w Q1 hle hs hp => h i K0 Kc a w Q1 hle hs fun ops' K' rs a' w' hl hr hk => hp ops' K' rs a' w' hl hr (hq _ _ hk)
  | seq x y ihx ihy =>
    intro Q Q' s hq h
    simp only [awp] at h ⊢
    split
    · rename_i hk
      rw [hk] at h
      refine ihx _ _ s ?_ h
      intro e s hs
      cases e with
      | normal => exact ihy Q Q' s hq hs
      | exit id => exact hq _ _ hs
      | goto l => exact hq _ _ hs
      | ret => exact hq _ _ hs
    · rename_i hk
      rw [hk] at h
      obtain ⟨J, hJ, h⟩ := h
      refine ⟨J, fun s hs => ihy Q Q' s hq (hJ s hs), ihx _ _ s ?_ h⟩
      intro e s hs
      cases e with
      | normal => exact hs
      | exit id => exact hq _ _ hs
      | goto l => exact hq _ _ hs
      | ret => exact hq _ _ hs
  | cond c x y ihx ihy =>
    intro Q Q' s hq h
    simp only [awp] at h ⊢
    split
    · rename_i b hb
      rw [hb] at h
      exact ⟨fun ht => ihx Q Q' s hq (h.1 ht), fun hf => ihy Q Q' s hq (h.2 hf)⟩
    · rename_i hne
      split at h
      · rename_i b hb; exact (hne b hb).elim
      · exact h
  | block id body ih =>
    intro Q Q' s hq h
    refine ih _ _ s ?_ h
    intro e s hs
    cases e with
    | normal => exact hq _ _ hs
    | exit i =>
      simp only at hs ⊢
      split
      · rename_i hb; rw [hb] at hs; exact hq _ _ hs
      · rename_i hb; rw [hb] at hs; exact hq _ _ hs
    | goto l => exact hq _ _ hs
    | ret => exact hq _ _ hs
  | loop body ih =>
    intro Q Q' s hq h
    obtain ⟨I, n, s1, hw, hI, hr⟩ := h
    refine ⟨I, n, s1, hw, hI, fun m s hm => ih _ _ s ?_ (hr m s hm)⟩
    intro e s hs
    cases e with
    | normal => exact hs
    | exit id => exact hq _ _ hs
    | goto l => exact hq _ _ hs
    | ret => exact hq _ _ hs

theorem cown_spec {ms effs : List Nat} {i own : Nat} {f : Objs → Prop} {K : Prop} : ∀ {Bs : List (Nat × Objs)}, cown ms effs i own f Bs K → K ∧ ∀ p o, (p, o) ∈ Bs → okPosL ms effs i p = true → p ≠ own → f o
  | [], h => ⟨h, fun p o hm => by simp at hm⟩
  | (p, o) :: r, h => by
    simp only [cown] at h
    split at h
    · obtain ⟨h1, h2⟩ := h
      obtain ⟨h3, h4⟩ := cown_spec h2
      refine ⟨h3, fun p' o' hm hk hne => ?_⟩
      rcases List.mem_cons.1 hm with e | hm
      · simp only [Prod.mk.injEq] at e; obtain ⟨rfl, rfl⟩ := e; exact h1
      · exact h4 p' o' hm hk hne
    · rename_i hb
      obtain ⟨h3, h4⟩ := cown_spec h
      refine ⟨h3, fun p' o' hm hk hne => ?_⟩
      rcases List.mem_cons.1 hm with e | hm
      · simp only [Prod.mk.injEq] at e
        obtain ⟨rfl, rfl⟩ := e
        rw [hk] at hb
        simp only [Bool.true_and, Bool.not_eq_false'] at hb
        exact absurd (Nat.eq_of_beq_eq_true hb) hne
      · exact h4 p' o' hm hk hne

theorem cfin_spec {ms effs : List Nat} {Bs : List (Nat × Objs)} {K : Prop} : ∀ {Rd : List (Nat × Nat × (Objs → Prop))}, cfin ms effs Bs Rd K → K ∧ ∀ i own f, (i, own, f) ∈ Rd → ∀ p o, (p, o) ∈ Bs → okPosL ms effs i p = true → p ≠ own → f o
  | [], h => ⟨h, fun i own f hm => by simp at hm⟩
  | (i, own, f) :: r, h => by
    simp only [cfin] at h
    obtain ⟨h1, h2⟩ := cown_spec h
    obtain ⟨h3, h4⟩ := cfin_spec h1
    refine ⟨h3, fun i' own' f' hm => ?_⟩
    rcases List.mem_cons.1 hm with e | hm
    · simp only [Prod.mk.injEq] at e; obtain ⟨rfl, rfl, rfl⟩ := e; exact h2
    · exact h4 i' own' f' hm

theorem cput_obj {loc : Loc} {G : Gs} {objs : Objs} {cur : Option Tag} {dst : Option Tmp} {v : AVal} {i : Nat} {Bs : List (Nat × Objs)} {Rd : List (Nat × Nat × (Objs → Prop))} {K : DK}
    (h : PutK nt ⟨loc, G, objs⟩ cur dst v fun r => K r.loc r.G r.objs ((i + 1, r.objs) :: Bs) Rd) : PutK nt ⟨loc, G, objs⟩ cur dst v fun r => K r.loc r.G r.objs ((i + 1, objs) :: Bs) Rd := by
  obtain ⟨rs', hp, hk⟩ := PutK_some h
  obtain ⟨ho, _, _⟩ := putR_some hp
  unfold PutK
  rw [hp]
  simp only at ho
  rw [ho] at hk
  simp only
  rw [ho]
  exact hk

theorem gOf_objs {ops : Array Oper} {loc : Loc} {G : Gs} {objs : Objs} {g : Tag} {gb : Bool} {loc' : Loc} {G' : Gs} {objs' : Objs} (h : gOf ops ⟨loc, G, objs⟩ g = some (gb, ⟨loc', G', objs'⟩)) : objs' = objs := by
  unfold gOf at h
  simp only [cond_eq_ite] at h
  (repeat' split at h) <;> simp only [Option.some.injEq, Prod.mk.injEq, RSt.mk.injEq, reduceCtorEq] at h <;> first | exact h.2.2.2.symm | exact h.elim

section kinds
variable {look : Operand → AVal} {objs : Objs} {o : Oper}

theorem evalOp_val {v : AVal} (h : evalOp P look objs o = .val v) : effKind o.op = false ∧ callKind o.op = false := by
  obtain ⟨dst, op, type, pos, after, guard⟩ := o
  cases op <;> (try exact ⟨rfl, rfl⟩) <;> simp only [evalOp] at h
  case alloc t => (repeat' split at h) <;> cases h
  case mapUpdate t m k v => cases h
  case box t x => (repeat' split at h) <;> cases h
  case store t a x => unfold storeA at h; simp only [cond_eq_ite] at h; (repeat' split at h) <;> cases h
  case makeSlice t l c => unfold makeSliceA at h; (repeat' split at h) <;> cases h
  case call c =>
    obtain ⟨callee, args, argTypes⟩ := c
    cases callee with
    | value f => unfold callA at h; simp only [cond_eq_ite] at h; (repeat' split at h) <;> cases h
    | invoke r m => cases h
    | builtin b =>
      cases b <;> (try exact ⟨rfl, rfl⟩)
      case append => simp only at h; unfold appendA at h; simp only [cond_eq_ite] at h; (repeat' split at h) <;> cases h

theorem evalOp_ifb {b : Bool} {v : AVal} (h : evalOp P look objs o = .ifb b v) : effKind o.op = false ∧ callKind o.op = false ∧ loadKind o.op = false := by
  obtain ⟨dst, op, type, pos, after, guard⟩ := o
  cases op <;> (try exact ⟨rfl, rfl, rfl⟩) <;> simp only [evalOp] at h
  case alloc t => (repeat' split at h) <;> cases h
  case mapUpdate t m k v => cases h
  case box t x => (repeat' split at h) <;> cases h
  case load t a => unfold loadA at h; (repeat' split at h) <;> cases h
  case store t a x => unfold storeA at h; simp only [cond_eq_ite] at h; (repeat' split at h) <;> cases h
  case makeSlice t l c => unfold makeSliceA at h; (repeat' split at h) <;> cases h
  case call c =>
    obtain ⟨callee, args, argTypes⟩ := c
    cases callee with
    | value f => unfold callA at h; simp only [cond_eq_ite] at h; (repeat' split at h) <;> cases h
    | invoke r m => cases h
    | builtin b =>
      cases b <;> (try exact ⟨rfl, rfl, rfl⟩)
      case append => simp only at h; unfold appendA at h; simp only [cond_eq_ite] at h; (repeat' split at h) <;> cases h

theorem evalOp_call {f : FuncId} {args : List AVal} (h : evalOp P look objs o = .call f args) : effKind o.op = false ∧ loadKind o.op = false := by
  obtain ⟨dst, op, type, pos, after, guard⟩ := o
  cases op <;> (try exact ⟨rfl, rfl⟩) <;> simp only [evalOp] at h
  case alloc t => (repeat' split at h) <;> cases h
  case mapUpdate t m k v => cases h
  case box t x => (repeat' split at h) <;> cases h
  case load t a => unfold loadA at h; (repeat' split at h) <;> cases h
  case store t a x => unfold storeA at h; simp only [cond_eq_ite] at h; (repeat' split at h) <;> cases h
  case makeSlice t l c => unfold makeSliceA at h; (repeat' split at h) <;> cases h
  case call c =>
    obtain ⟨callee, args, argTypes⟩ := c
    cases callee with
    | value f => exact ⟨rfl, rfl⟩
    | invoke r m => cases h
    | builtin b =>
      cases b <;> (try exact ⟨rfl, rfl⟩)
      case append => simp only at h; unfold appendA at h; simp only [cond_eq_ite] at h; (repeat' split at h) <;> cases h

theorem evalOp_upd {v : AVal} {objs' : Objs} (h : evalOp P look objs o = .upd v objs') : effKind o.op = true := by
  obtain ⟨dst, op, type, pos, after, guard⟩ := o
  cases op <;> (try rfl) <;> simp only [evalOp] at h
  case move x => cases h
  case assign x => cases h
  case build t ps => unfold buildA at h; simp only [cond_eq_ite] at h; (repeat' split at h) <;> cases h
  case buildSlice t n ps => unfold buildSliceA at h; simp only [cond_eq_ite] at h; (repeat' split at h) <;> cases h
  case load t a => unfold loadA at h; (repeat' split at h) <;> cases h
  case nilCheck x => (repeat' split at h) <;> cases h
  case binOp op t x y yt => unfold binA hardA at h; (repeat' split at h) <;> cases h
  case unOp op t x => unfold pureA at h; (repeat' split at h) <;> cases h
  case convert s d x => unfold pureA at h; (repeat' split at h) <;> cases h
  case makeFunc f a b => cases h
  case slice t x lo hi mx => unfold sliceA at h; simp only [cond_eq_ite] at h; (repeat' split at h) <;> cases h
  case fieldAddr t x f => unfold fieldAddrA at h; simp only [cond_eq_ite] at h; (repeat' split at h) <;> cases h
  case field t x f => (repeat' split at h) <;> cases h
  case indexAddr t x i => unfold indexAddrA at h; simp only [cond_eq_ite] at h; (repeat' split at h) <;> cases h
  case index t x i => unfold indexA at h; (repeat' split at h) <;> cases h
  case extract x i => (repeat' split at h) <;> cases h
  case call c =>
    obtain ⟨callee, args, argTypes⟩ := c
    cases callee with
    | value f => simp only at h; unfold callA at h; simp only [cond_eq_ite] at h; (repeat' split at h) <;> cases h
    | invoke r m => cases h
    | builtin b =>
      cases b <;> (try rfl) <;> simp only at h <;> (try (cases h; done))
      case len => unfold lenA at h; (repeat' split at h) <;> cases h
      case min => unfold minmaxA at h; simp only [cond_eq_ite] at h; (repeat' split at h) <;> cases h
      case max => unfold minmaxA at h; simp only [cond_eq_ite] at h; (repeat' split at h) <;> cases h
  all_goals cases h

theorem evalOp_eff {b : Bool} {v : AVal} {objs' : Objs} (h : evalOp P look objs o = .eff b v objs') : effKind o.op = true := by
  obtain ⟨dst, op, type, pos, after, guard⟩ := o
  cases op <;> (try rfl) <;> simp only [evalOp] at h
  case move x => cases h
  case assign x => cases h
  case build t ps => unfold buildA at h; simp only [cond_eq_ite] at h; (repeat' split at h) <;> cases h
  case buildSlice t n ps => unfold buildSliceA at h; simp only [cond_eq_ite] at h; (repeat' split at h) <;> cases h
  case load t a => unfold loadA at h; (repeat' split at h) <;> cases h
  case nilCheck x => (repeat' split at h) <;> cases h
  case binOp op t x y yt => unfold binA hardA at h; (repeat' split at h) <;> cases h
  case unOp op t x => unfold pureA at h; (repeat' split at h) <;> cases h
  case convert s d x => unfold pureA at h; (repeat' split at h) <;> cases h
  case makeFunc f a b => cases h
  case slice t x lo hi mx => unfold sliceA at h; simp only [cond_eq_ite] at h; (repeat' split at h) <;> cases h
  case fieldAddr t x f => unfold fieldAddrA at h; simp only [cond_eq_ite] at h; (repeat' split at h) <;> cases h
  case field t x f => (repeat' split at h) <;> cases h
  case indexAddr t x i => unfold indexAddrA at h; simp only [cond_eq_ite] at h; (repeat' split at h) <;> cases h
  case index t x i => unfold indexA at h; (repeat' split at h) <;> cases h
  case extract x i => (repeat' split at h) <;> cases h
  case call c =>
    obtain ⟨callee, args, argTypes⟩ := c
    cases callee with
    | value f => simp only at h; unfold callA at h; simp only [cond_eq_ite] at h; (repeat' split at h) <;> cases h
    | invoke r m => cases h
    | builtin b =>
      cases b <;> (try rfl) <;> simp only at h <;> (try (cases h; done))
      case len => unfold lenA at h; (repeat' split at h) <;> cases h
      case min => unfold minmaxA at h; simp only [cond_eq_ite] at h; (repeat' split at h) <;> cases h
      case max => unfold minmaxA at h; simp only [cond_eq_ite] at h; (repeat' split at h) <;> cases h
  all_goals cases h

end kinds

/-- A trace so far. -/
structure Pre (P : Program) (nt : Nat) (ops : Array Oper) (slots : List (Nat × AVal)) (i : Nat) (tr : Nat → RSt) (Bs : List (Nat × Objs)) (Rd : List (Nat × Nat × (Objs → Prop))) : Prop where
  loc0 : (tr 0).loc = []
  G0 : (tr 0).G = []
  step : ∀ (k : Nat) (o : Oper), k < i → ops[k]? = some o → ∃ (gb : Bool) (rs1 : RSt) (v : AVal), GuardOK ops (tr k) o gb rs1 ∧ putR nt { rs1 with objs := (tr (k + 1)).objs } o.guard o.dst v = some (tr (k + 1)) ∧
    (effAt ops (masks ops) k = true → OpGives P ops slots o o.guard gb rs1.loc rs1.G (tr k).objs v (tr (k + 1)).objs) ∧
    (effAt ops (masks ops) k = false → (tr (k + 1)).objs = (tr k).objs ∧ OpGives P ops slots o o.guard gb rs1.loc rs1.G (tr k).objs v (tr k).objs ∧
      ((∀ o', OpGives P ops slots o o.guard gb rs1.loc rs1.G o' v o') ∨ ∃ own f, (k, own, f) ∈ Rd ∧ own ≤ k ∧ (tr own).objs = (tr k).objs ∧ ∀ o', f o' → OpGives P ops slots o o.guard gb rs1.loc rs1.G o' v o'))
  bnd : ∀ p o, (p, o) ∈ Bs → p ≤ i ∧ o = (tr p).objs
  zero : (0, (tr 0).objs) ∈ Bs
  eff : ∀ k, k < i → effAt ops (masks ops) k = true → (k + 1, (tr (k + 1)).objs) ∈ Bs
  last : lastB Bs ≤ i ∧ (tr (lastB Bs)).objs = (tr i).objs

theorem Pre.done {ops : Array Oper} {slots : List (Nat × AVal)} {tr : Nat → RSt} {Bs : List (Nat × Objs)} {Rd : List (Nat × Nat × (Objs → Prop))} (h : Pre P nt ops slots ops.size tr Bs Rd)
    (hr : ∀ i own f, (i, own, f) ∈ Rd → ∀ p o, (p, o) ∈ Bs → okPosL (masks ops) (effList ops (masks ops)) i p = true → p ≠ own → f o) : Trace P nt ops slots tr := by
  have find : ∀ p, p ≤ ops.size → ∃ b, b ≤ p ∧ (b, (tr p).objs) ∈ Bs ∧ (tr b).objs = (tr p).objs ∧ ∀ k, b ≤ k → k < p → effAt ops (masks ops) k = false := by
    intro p
    induction p with
    | zero => intro _; exact ⟨0, Nat.le_refl _, h.zero, rfl, fun k h1 h2 => by omega⟩
    | succ p ih =>
      intro hp
      cases ep : effAt ops (masks ops) p with
      | true => exact ⟨p + 1, Nat.le_refl _, h.eff p (by omega) ep, rfl, fun k h1 h2 => by omega⟩
      | false =>
        obtain ⟨b, hb, hm, he, hk⟩ := ih (by omega)
        obtain ⟨o, ho⟩ := getO (ops := ops) (i := p) (by omega)
        obtain ⟨_, _, _, _, _, _, hn⟩ := h.step p o (by omega) ho
        rw [(hn ep).1]
        refine ⟨b, by omega, hm, he, fun k h1 h2 => ?_⟩
        rcases Nat.lt_or_ge k p with h' | h'
        · exact hk k h1 h'
        · have : k = p := by omega
          rw [this]; exact ep
  refine ⟨h.loc0, h.G0, fun i o ho => ?_⟩
  have hi := (Array.getElem?_eq_some_iff.1 ho).1
  obtain ⟨gb, rs1, v, h1, h2, h3, h4⟩ := h.step i o hi ho
  refine ⟨gb, rs1, v, h1, h2, h3, fun he => ⟨(h4 he).1, fun p hp hok => ?_⟩⟩
  rcases (h4 he).2.2 with hall | ⟨own, f, hm, _, hown, hf⟩
  · exact hall _
  · obtain ⟨b, hb, hmb, hobj, hk⟩ := find p hp
    have hokb : okPosL (masks ops) (effList ops (masks ops)) i b = true := by
      have := okPosL_of hok
      simp only [okPosL, List.all_eq_true] at this ⊢
      intro j hj
      have h5 := this j hj
      simp only [effList, List.mem_filter, List.mem_range] at hj
      simp only [Bool.and_eq_true, Bool.or_eq_true, Bool.not_eq_true'] at h5 ⊢
      refine ⟨h5.1.imp id (fun hlt => ?_), h5.2.imp id (fun hle => ?_)⟩
      · have hlt' : j < p := by simpa using hlt
        have : j < b := by
          rcases Nat.lt_or_ge j b with h' | h'
          · exact h'
          · have := hk j h' hlt'; rw [hj.2] at this; cases this
        simpa using this
      · exact Nat.ble_eq_true_of_le (by have := Nat.le_of_ble_eq_true hle; omega)
    by_cases hbo : b = own
    · subst hbo
      have : (tr p).objs = (tr i).objs := by rw [← hobj, hown]
      rw [this]
      exact (h4 he).2.1
    · exact hf _ (hr i own f hm b _ hmb hokb hbo)

theorem cdops_trace {sk : Bool} {ops : Array Oper} {slots : List (Nat × AVal)} {K : Loc → Objs → Prop} : ∀ (m i : Nat), i + m = ops.size → ∀ (tr : Nat → RSt) (loc : Loc) (G : Gs) (objs : Objs) (Bs : List (Nat × Objs)) (Rd : List (Nat × Nat × (Objs → Prop))),
    tr i = ⟨loc, G, objs⟩ → Pre P nt ops slots i tr Bs Rd → cdops P sk nt ops slots (masks ops) (effList ops (masks ops)) i (ops.toList.drop i) loc G objs Bs Rd K →
    ∃ tr' : Nat → RSt, Trace P nt ops slots tr' ∧ (tr' 0).objs = (tr 0).objs ∧ K (tr' ops.size).loc (tr' ops.size).objs
  | 0, i, hn, tr, loc, G, objs, Bs, Rd, hi, hpre, h => by
    have : ops.toList.drop i = [] := List.drop_eq_nil_of_le (by simp; omega)
    rw [this] at h
    simp only [cdops] at h
    obtain ⟨hK, hr⟩ := cfin_spec h
    have hin : i = ops.size := by omega
    subst hin
    exact ⟨tr, hpre.done hr, rfl, by rw [hi]; exact hK⟩
  | m + 1, i, hn, tr, loc, G, objs, Bs, Rd, hi, hpre, h => by
    have hlt : i < ops.toList.length := by simp; omega
    rw [List.drop_eq_getElem_cons hlt] at h
    have ho : ops[i]? = some (ops.toList[i]) := by simp
    generalize ops.toList[i] = o at h ho
    have hlt' : i < ops.size := by simpa using hlt
    have effMem : (effList ops (masks ops)).any (fun j => Nat.beq j i) = effAt ops (masks ops) i := by
      cases he : effAt ops (masks ops) i with
      | true => exact List.any_eq_true.2 ⟨i, by simp [effList, hlt', he], Nat.beq_refl i⟩
      | false =>
        rw [List.any_eq_false]
        intro j hj hb
        have := Nat.eq_of_beq_eq_true hb
        subst this
        simp only [effList, List.mem_filter] at hj
        rw [he] at hj
        cases hj.2
    -- one step, once what it gives is known
    have go : ∀ (gb : Bool) (loc1 : Loc) (G1 : Gs) (v : AVal) (objs' : Objs) (Bs' : List (Nat × Objs)) (Rd' : List (Nat × Nat × (Objs → Prop))), GuardOK ops (tr i) o gb ⟨loc1, G1, objs⟩ →
        (effAt ops (masks ops) i = true → OpGives P ops slots o o.guard gb loc1 G1 objs v objs' ∧ Bs' = (i + 1, objs') :: Bs ∧ Rd' = Rd) →
        (effAt ops (masks ops) i = false → objs' = objs ∧ OpGives P ops slots o o.guard gb loc1 G1 objs v objs ∧ Bs' = Bs ∧
          (((∀ o', OpGives P ops slots o o.guard gb loc1 G1 o' v o') ∧ Rd' = Rd) ∨ ∃ f, Rd' = (i, lastB Bs, f) :: Rd ∧ ∀ o', f o' → OpGives P ops slots o o.guard gb loc1 G1 o' v o')) →
        (PutK nt ⟨loc1, G1, objs'⟩ o.guard o.dst v fun r => cdops P sk nt ops slots (masks ops) (effList ops (masks ops)) (i + 1) (ops.toList.drop (i + 1)) r.loc r.G r.objs Bs' Rd' K) →
        ∃ tr' : Nat → RSt, Trace P nt ops slots tr' ∧ (tr' 0).objs = (tr 0).objs ∧ K (tr' ops.size).loc (tr' ops.size).objs := by
      intro gb loc1 G1 v objs' Bs' Rd' hg hE hN hput
      obtain ⟨rs', hp, hk⟩ := PutK_some hput
      obtain ⟨hobj, _, _⟩ := putR_some hp
      simp only at hobj
      let tr1 : Nat → RSt := fun k => if k = i + 1 then rs' else tr k
      have t1 : tr1 (i + 1) = rs' := by simp [tr1]
      have t0 : ∀ k, k ≤ i → tr1 k = tr k := fun k hk => by simp only [tr1]; rw [if_neg (by omega)]
      have htri : (tr i).objs = objs := by rw [hi]
      have oldRd : ∀ x, x ∈ Rd → x ∈ Rd' := by
        intro x hx
        cases he : effAt ops (masks ops) i with
        | true => rw [(hE he).2.2]; exact hx
        | false =>
          rcases (hN he).2.2.2 with ⟨_, e⟩ | ⟨f, e, _⟩
          · rw [e]; exact hx
          · rw [e]; exact List.mem_cons_of_mem _ hx
      have oldBs : ∀ x, x ∈ Bs → x ∈ Bs' := by
        intro x hx
        cases he : effAt ops (masks ops) i with
        | true => rw [(hE he).2.1]; exact List.mem_cons_of_mem _ hx
        | false => rw [(hN he).2.2.1]; exact hx
      have hpre1 : Pre P nt ops slots (i + 1) tr1 Bs' Rd' := by
        refine ⟨by rw [t0 0 (by omega)]; exact hpre.loc0, by rw [t0 0 (by omega)]; exact hpre.G0, fun k o' hk' ho' => ?_, fun p o' hm => ?_, by rw [t0 0 (by omega)]; exact oldBs _ hpre.zero, fun k hk' ek => ?_, ?_⟩
        · rcases Nat.lt_or_ge k i with hki | hki
          · obtain ⟨gb', rs1', v', q1, q2, q3, q4⟩ := hpre.step k o' hki ho'
            refine ⟨gb', rs1', v', by rw [t0 k (by omega)]; exact q1, by rw [t0 (k + 1) (by omega)]; exact q2, by rw [t0 k (by omega), t0 (k + 1) (by omega)]; exact q3, ?_⟩
            rw [t0 k (by omega), t0 (k + 1) (by omega)]
            intro ek
            obtain ⟨r1, r2, r3⟩ := q4 ek
            refine ⟨r1, r2, r3.imp id ?_⟩
            rintro ⟨own, f, s1, s0, s2, s3⟩
            exact ⟨own, f, oldRd _ s1, s0, by rw [t0 own (by omega)]; exact s2, s3⟩
          · have hki : k = i := by omega
            subst hki
            rw [ho] at ho'
            simp only [Option.some.injEq] at ho'
            subst ho'
            refine ⟨gb, ⟨loc1, G1, objs⟩, v, by rw [t0 k (by omega)]; exact hg, by rw [t1, hobj]; exact hp, fun ek => ?_, fun ek => ?_⟩
            · rw [t0 k (by omega), t1, htri, hobj]; exact (hE ek).1
            · rw [t0 k (by omega), t1, htri, hobj]
              obtain ⟨r1, r2, r3, r4⟩ := hN ek
              refine ⟨r1, r2, ?_⟩
              rcases r4 with ⟨r4, _⟩ | ⟨f, e, r4⟩
              · exact .inl r4
              · refine .inr ⟨lastB Bs, f, by rw [e]; simp, hpre.last.1, ?_, r4⟩
                rw [t0 _ hpre.last.1, hpre.last.2, htri]
        · cases he : effAt ops (masks ops) i with
          | true =>
            rw [(hE he).2.1] at hm
            rcases List.mem_cons.1 hm with e | hm
            · simp only [Prod.mk.injEq] at e
              obtain ⟨rfl, rfl⟩ := e
              exact ⟨Nat.le_refl _, by rw [t1, hobj]⟩
            · obtain ⟨r1, r2⟩ := hpre.bnd p o' hm
              exact ⟨by omega, by rw [t0 p r1]; exact r2⟩
          | false =>
            rw [(hN he).2.2.1] at hm
            obtain ⟨r1, r2⟩ := hpre.bnd p o' hm
            exact ⟨by omega, by rw [t0 p r1]; exact r2⟩
        · rcases Nat.lt_or_ge k i with hki | hki
          · rw [t0 (k + 1) (by omega)]; exact oldBs _ (hpre.eff k hki ek)
          · have hki : k = i := by omega
            subst hki
            rw [t1, hobj, (hE ek).2.1]
            simp
        · cases he : effAt ops (masks ops) i with
          | true => rw [(hE he).2.1]; exact ⟨Nat.le_refl _, rfl⟩
          | false =>
            rw [(hN he).2.2.1]
            refine ⟨by have := hpre.last.1; omega, ?_⟩
            rw [t0 _ hpre.last.1, hpre.last.2, t1, hobj, htri, (hN he).1]
      obtain ⟨tr', q1, q2, q3⟩ := cdops_trace m (i + 1) (by omega) tr1 rs'.loc rs'.G rs'.objs Bs' Rd' (by rw [t1]) hpre1 hk
      exact ⟨tr', q1, by rw [q2, t0 0 (by omega)], q3⟩
    have effF : effKind o.op = false → callKind o.op = false → effAt ops (masks ops) i = false := by
      intro h1 h2
      unfold effAt
      simp [ho, h1, h2]
    have effT : effKind o.op = true → effAt ops (masks ops) i = true := by
      intro h1
      unfold effAt
      simp [ho, h1]
    have body : ∀ (gb : Bool) (loc1 : Loc) (G1 : Gs), GuardOK ops (tr i) o gb ⟨loc1, G1, objs⟩ →
        cdstep P sk nt ops slots (effList ops (masks ops)) i o o.guard gb (lastB Bs) loc1 G1 objs Bs Rd (fun loc G objs Bs Rd => cdops P sk nt ops slots (masks ops) (effList ops (masks ops)) (i + 1) (ops.toList.drop (i + 1)) loc G objs Bs Rd K) →
        ∃ tr' : Nat → RSt, Trace P nt ops slots tr' ∧ (tr' 0).objs = (tr 0).objs ∧ K (tr' ops.size).loc (tr' ops.size).objs := by
      intro gb loc1 G1 hg hs
      -- an operation that looks at no object
      have pure' : ∀ v, effKind o.op = false → callKind o.op = false → (∀ o', OpGives P ops slots o o.guard gb loc1 G1 o' v o') → (cput nt loc1 G1 objs o.guard o.dst v fun loc G objs => cdops P sk nt ops slots (masks ops) (effList ops (masks ops)) (i + 1) (ops.toList.drop (i + 1)) loc G objs Bs Rd K) →
          ∃ tr' : Nat → RSt, Trace P nt ops slots tr' ∧ (tr' 0).objs = (tr 0).objs ∧ K (tr' ops.size).loc (tr' ops.size).objs := by
        intro v k1 k2 hop hc
        have ef := effF k1 k2
        exact go gb loc1 G1 v objs Bs Rd hg (fun e => by rw [ef] at e; cases e) (fun _ => ⟨rfl, hop objs, rfl, .inl ⟨hop, rfl⟩⟩) (cput_iff.1 hc)
      unfold cdstep at hs
      split at hs
      · rename_i c x y hop
        split at hs
        · rename_i v hv
          refine pure' v (by rw [hop]; rfl) (by rw [hop]; rfl) (fun o' => ?_) hs
          right
          unfold OpGives1
          simp only [hop]
          exact ⟨hv, trivial⟩
        · exact hs.elim
      · rename_i hne
        have gives : ∀ (objs0 : Objs) (v : AVal) (objs1 : Objs), (match evalOp P (lookR ops slots loc1 o.guard) objs0 o with
            | .bad => (o.guard = none ∨ objs1 = objs0) ∧ evalX P (lookR ops slots loc1 o.guard) objs0 o fun u o2 => Sub u v ∧ o2 = objs1
            | .val u => Sub u v ∧ objs1 = objs0
            | .ifb b u => (gb = true → b = true) ∧ u = v ∧ objs1 = objs0
            | .eff b u o2 => o.guard = none ∧ b = true ∧ u = v ∧ objs1 = o2
            | .upd u o2 => o.guard = none ∧ u = v ∧ objs1 = o2
            | .call f args => (gb = true → ACalls P f args objs0 fun r o2 => r = v ∧ o2 = objs1) ∧ (gb = false → objs1 = objs0)) → OpGives P ops slots o o.guard gb loc1 G1 objs0 v objs1 := by
          intro objs0 v objs1 hh
          right
          unfold OpGives1
          split
          · rename_i c x y hop; exact (hne c x y hop).elim
          · exact hh
        replace hs := cdown hs
        unfold cdres at hs
        split at hs
        · rename_i he
          split at hs
          · rename_i hany
            rw [effMem] at hany
            split at hs
            · rename_i hgn
              obtain ⟨v, objs', h1, h2⟩ := hs
              rw [forceP_iff] at h2
              exact go gb loc1 G1 v objs' _ Rd hg (fun _ => ⟨gives _ _ _ (by rw [he]; rw [hgn] at *; exact ⟨.inl rfl, h1⟩), rfl, rfl⟩) (fun e => by rw [hany] at e; cases e) (by rw [hgn]; exact cput_obj (K := fun loc G objs Bs Rd => cdops P sk nt ops slots (masks ops) (effList ops (masks ops)) (i + 1) (ops.toList.drop (i + 1)) loc G objs Bs Rd K) (cput_iff.1 h2))
            · exact hs.elim
          · obtain ⟨v, hk12, hx, hs⟩ := hs
            simp only [Bool.or_eq_false_iff] at hk12
            have ef := effF hk12.1 hk12.2
            exact go gb loc1 G1 v objs Bs _ hg (fun e => by rw [ef] at e; cases e) (fun _ => ⟨rfl, gives _ _ _ (by rw [he]; exact ⟨.inr rfl, hx⟩), rfl, .inr ⟨_, rfl, fun o' hf => gives _ _ _ (by rw [hf.1]; exact ⟨.inr rfl, hf.2⟩)⟩⟩) (cput_iff.1 hs)
        · rename_i v he
          obtain ⟨k1, k2⟩ := evalOp_val he
          split at hs
          · have ef := effF k1 k2
            exact go gb loc1 G1 v objs Bs _ hg (fun e => by rw [ef] at e; cases e) (fun _ => ⟨rfl, gives _ _ _ (by rw [he]; exact ⟨Sub.refl _, rfl⟩), rfl, .inr ⟨_, rfl, fun o' hf => gives _ _ _ (by
              cases sk with
              | false => rw [show evalOp P (lookR ops slots loc1 o.guard) o' o = .val v from hf]; exact ⟨Sub.refl _, rfl⟩
              | true => obtain ⟨u, hu, hsub⟩ := hf; rw [hu]; exact ⟨hsub, rfl⟩)⟩⟩) (cput_iff.1 hs)
          · rename_i hlk
            refine pure' v k1 k2 (fun o' => gives _ _ _ ?_) hs
            rw [evalOp_objs o k1 hlk o' objs, he]
            exact ⟨Sub.refl _, rfl⟩
        · rename_i b v he
          obtain ⟨k1, k2, k3⟩ := evalOp_ifb he
          refine pure' v k1 k2 (fun o' => gives _ _ _ ?_) hs.2
          rw [evalOp_objs o k1 k3 o' objs, he]
          exact ⟨hs.1, rfl, rfl⟩
        · rename_i b v objs' he
          have k1 := evalOp_eff he
          split at hs
          · rename_i hgn
            rw [ceff_iff] at hs
            exact go gb loc1 G1 v objs' _ Rd hg (fun _ => ⟨gives _ _ _ (by rw [he]; exact ⟨hgn, hs.1, rfl, rfl⟩), rfl, rfl⟩) (fun e => by rw [effT k1] at e; cases e) (by rw [hgn]; exact cput_obj (K := fun loc G objs Bs Rd => cdops P sk nt ops slots (masks ops) (effList ops (masks ops)) (i + 1) (ops.toList.drop (i + 1)) loc G objs Bs Rd K) (cput_iff.1 hs.2))
          · exact hs.elim
        · rename_i v objs' he
          have k1 := evalOp_upd he
          split at hs
          · rename_i hgn
            rw [ceff_iff] at hs
            exact go gb loc1 G1 v objs' _ Rd hg (fun _ => ⟨gives _ _ _ (by rw [he]; exact ⟨hgn, rfl, rfl⟩), rfl, rfl⟩) (fun e => by rw [effT k1] at e; cases e) (by rw [hgn]; exact cput_obj (K := fun loc G objs Bs Rd => cdops P sk nt ops slots (masks ops) (effList ops (masks ops)) (i + 1) (ops.toList.drop (i + 1)) loc G objs Bs Rd K) (cput_iff.1 hs))
          · exact hs.elim
        · rename_i f args he
          rw [forceL1_iff] at hs
          split at hs
          · rename_i hany
            rw [effMem] at hany
            split at hs
            · rename_i hgn
              obtain ⟨r, objs', h1, h2⟩ := hs
              rw [forceP_iff] at h2
              exact go gb loc1 G1 r objs' _ Rd hg (fun _ => ⟨gives _ _ _ (by rw [he]; exact ⟨fun _ => h1, fun hh => by have hg2 := hg; unfold GuardOK at hg2; rw [hgn] at hg2; rw [hg2.1] at hh; cases hh⟩), rfl, rfl⟩) (fun e => by rw [hany] at e; cases e) (by rw [hgn]; exact cput_obj (K := fun loc G objs Bs Rd => cdops P sk nt ops slots (masks ops) (effList ops (masks ops)) (i + 1) (ops.toList.drop (i + 1)) loc G objs Bs Rd K) (cput_iff.1 h2))
            · rename_i g hgn
              obtain ⟨r, objs', h1, h3, h2⟩ := hs
              rw [forceP_iff] at h2
              exact go gb loc1 G1 r objs' _ Rd hg (fun _ => ⟨gives _ _ _ (by rw [he]; exact ⟨fun hh => h1 hh, h3⟩), rfl, rfl⟩) (fun e => by rw [hany] at e; cases e) (by rw [hgn]; exact cput_obj (K := fun loc G objs Bs Rd => cdops P sk nt ops slots (masks ops) (effList ops (masks ops)) (i + 1) (ops.toList.drop (i + 1)) loc G objs Bs Rd K) (cput_iff.1 h2))
          · rename_i hany
            rw [effMem] at hany
            obtain ⟨r, h1, h2⟩ := hs
            have hcall : ∀ o', evalOp P (lookR ops slots loc1 o.guard) o' o = .call f args := by
              intro o'
              obtain ⟨k1, k3⟩ := evalOp_call he
              rw [evalOp_objs o k1 k3 o' objs, he]
            exact go gb loc1 G1 r objs Bs _ hg (fun e => by rw [hany] at e; cases e) (fun _ => ⟨rfl, gives _ _ _ (by rw [he]; exact ⟨fun hh => h1 hh, fun _ => rfl⟩), rfl, .inr ⟨_, rfl, fun o' hf => gives _ _ _ (by rw [hcall o']; exact ⟨fun hh => hf hh, fun _ => rfl⟩)⟩⟩) (cput_iff.1 h2)
    simp only [cdops] at h
    split at h
    · rename_i hg
      refine body true loc G ?_ (by rw [hg]; exact h)
      unfold GuardOK
      rw [hg]
      exact ⟨rfl, hi.symm⟩
    · rename_i g hg
      split at h
      · rename_i gb G' hgo
        have hgk : GuardOK ops (tr i) o gb ⟨loc, G', objs⟩ := by
          unfold GuardOK
          rw [hg, hi]
          exact cgOf_some hgo
        cases hsk : sk with
        | false =>
          rw [hsk] at h
          refine body gb loc G' hgk ?_
          rw [hg, hsk]
          exact h
        | true =>
          rw [hsk] at h
          cases hgb : gb with
          | true =>
            rw [hgb] at h
            rw [hgb] at hgk
            refine body true loc G' hgk ?_
            rw [hg, hsk]
            exact h
          | false =>
            rw [hgb] at h hgk
            simp only [cput_iff] at h
            cases he : effAt ops (masks ops) i with
            | true =>
              have hany := effMem
              rw [he] at hany
              simp only [hany] at h
              rw [hsk] at go
              refine go false loc G' (.lit (.bool false)) objs _ Rd hgk (fun _ => ⟨.inl ⟨rfl, rfl⟩, rfl, rfl⟩) (fun e => by rw [he] at e; cases e) (by rw [hg]; exact cput_obj (K := fun loc G objs Bs Rd => cdops P true nt ops slots (masks ops) (effList ops (masks ops)) (i + 1) (ops.toList.drop (i + 1)) loc G objs Bs Rd K) h)
            | false =>
              have hany := effMem
              rw [he] at hany
              simp only [hany] at h
              rw [hsk] at go
              exact go false loc G' (.lit (.bool false)) objs Bs Rd hgk (fun e => by rw [he] at e; cases e) (fun _ => ⟨rfl, .inl ⟨rfl, rfl⟩, rfl, .inl ⟨fun _ => .inl ⟨rfl, rfl⟩, rfl⟩⟩) (by rw [hg]; exact h)
      · exact h.elim

theorem cdraw_draw {ops : Array Oper} {slots : List (Nat × AVal)} {objs : Objs} {K : Loc → Objs → Prop} (h : cdraw P nt ops slots objs K) : DrawW P nt ops slots objs K := by
  obtain ⟨h1, h2⟩ := h
  simp only [Bool.and_eq_true] at h1
  rw [forceNL_iff, forceNL_iff] at h2
  obtain ⟨tr, q1, q2, q3⟩ := cdops_trace (ops := ops) ops.size 0 (by omega) (fun _ => ⟨[], [], objs⟩) [] [] objs [(0, objs)] [] rfl
    ⟨rfl, rfl, fun k o hk => absurd hk (by omega), fun p o hm => by simp at hm; obtain ⟨rfl, rfl⟩ := hm; exact ⟨Nat.le_refl _, rfl⟩, by simp, fun k hk => absurd hk (by omega), by simp [lastB]⟩ (by simpa using h2)
  exact ⟨h1.1, h1.2, tr, q1, q2, q3⟩

theorem cwp_awp (c : Code) : ∀ (Q : CQ) (s : List (Nat × AVal)) (o : Objs), cwp P nt n0 keep c Q s o → awp P nt n0 keep c (fun e s => Q e s.slots s.objs) ⟨s, o⟩ := by
  induction c with
  | skip => exact fun Q s o h => h
  | label l => exact fun Q s o h => h
  | exit id => exact fun Q s o h => h
  | goto l => exact fun Q s o h => h
  | ret => exact fun Q s o h => h
  | refuse why => exact fun Q s o h => h
  | scope b ih =>
    intro Q s o h
    simp only [cwp] at h
    simp only [awp]
    split
    · rename_i hk
      rw [hk] at h
      refine awp_mono b _ _ _ ?_ (ih _ s o h)
      intro e s hs
      cases e with
      | normal => exact hs
      | exit i => exact hs
      | goto l => exact hs
      | ret => exact hs
    · rename_i hk
      rw [hk] at h
      obtain ⟨R, h1, h2⟩ := h
      exact ⟨_, h1, fun e t ht => h2 e t.slots t.objs ht⟩
  | rangeFunc f ps x y _ _ =>
    intro Q s o h
    obtain ⟨R, h1, h2⟩ := h
    exact ⟨_, h1, fun e t ht => h2 e t.slots t.objs ht⟩
  | region id ops draw =>
    intro Q s o h
    cases draw with
    | false =>
      simp only [cwp, cmerge_iff] at h
      exact cops_ops h
    | true =>
      simp only [cwp, cmerge_iff] at h
      simp only [awp]
      split
      · rename_i hk
        rw [hk] at h
        exact cdraw_draw h
      · rename_i hk
        rw [hk] at h
        exact h
  | seq x y ihx ihy =>
    intro Q s o h
    simp only [cwp] at h
    simp only [awp]
    split
    · rename_i hk
      rw [hk] at h
      have := ihx _ s o h
      refine awp_mono x _ _ _ ?_ this
      intro e s hq
      cases e with
      | normal => exact ihy Q s.slots s.objs hq
      | exit id => exact hq
      | goto l => exact hq
      | ret => exact hq
    · rename_i hk
      rw [hk] at h
      obtain ⟨J, hJ, h⟩ := h
      refine ⟨fun s => J s.slots s.objs, fun s hs => ihy Q s.slots s.objs (hJ s.slots s.objs hs), ?_⟩
      have := ihx _ s o h
      refine awp_mono x _ _ _ ?_ this
      intro e s hq
      cases e with
      | normal =>
        obtain ⟨s', o', hw, hj⟩ := hq
        exact ⟨⟨s', o'⟩, hw, hj⟩
      | exit id => exact hq
      | goto l => exact hq
      | ret => exact hq
  | cond c x y ihx ihy =>
    intro Q s o h
    simp only [cwp] at h
    simp only [awp]
    split
    · rename_i b hb
      rw [hb] at h
      exact ⟨fun ht => ihx Q s o (h.1 ht), fun hf => ihy Q s o (h.2 hf)⟩
    · rename_i hne
      split at h
      · rename_i b hb; exact (hne b hb).elim
      · exact h
  | block id body ih =>
    intro Q s o h
    refine awp_mono body _ _ _ ?_ (ih _ s o h)
    intro e s hs
    cases e with
    | normal => exact hs
    | exit i => exact hs
    | goto l => exact hs
    | ret => exact hs
  | loop body ih =>
    intro Q s o h
    obtain ⟨I, n, s1, o1, hw, hI, hr⟩ := h
    refine ⟨fun m s => I m s.slots s.objs, n, ⟨s1, o1⟩, hw, hI, fun m s hm => ?_⟩
    refine awp_mono body _ _ _ ?_ (ih _ s.slots s.objs (hr m s.slots s.objs hm))
    intro e s hs
    cases e with
    | normal =>
      obtain ⟨m', s', o', hlt, hw, hI'⟩ := hs
      exact ⟨m', ⟨s', o'⟩, hlt, hw, hI'⟩
    | exit i => exact hs
    | goto l => exact hs
    | ret => exact hs

/-- What is owed where a function returns. -/
def CRet (P : Program) (fn : Func) (n0 : Nat) (R : AVal → Objs → Prop) : CQ := fun e s o =>
  match e with
  | .normal => (match retA P fn ⟨s, o⟩ with | some r0 => forceA r0 fun r0 => ∃ r objs', Told n0 r0 o r objs' ∧ R r objs' | none => False)
  | .ret => (match retA P fn ⟨s, o⟩ with | some r0 => forceA r0 fun r0 => ∃ r objs', Told n0 r0 o r objs' ∧ R r objs' | none => False)
  | _ => False

theorem ACalls.of_cwp {f : FuncId} {fn : Func} {c : Code} {args : List AVal} {objs : Objs} {R : AVal → Objs → Prop} (keep : Nat → Bool) (hf : P.funcs[f]? = some fn) (hb : fn.body = some c) (hlen : Nat.ble args.length fn.ntmps = true)
    (h : cwp P fn.ntmps objs.length keep c (CRet P fn objs.length R) (initSlots 0 args) objs) : ACalls P f args objs R := by
  refine ACalls.of_awp keep hf hb (Nat.le_of_ble_eq_true hlen) (awp_mono c _ _ _ ?_ (cwp_awp c _ _ _ h))
  intro e s hs
  cases e with
  | normal => simp only [CRet, forceA_iff] at hs; exact hs
  | ret => simp only [CRet, forceA_iff] at hs; exact hs
  | exit id => exact hs
  | goto l => exact hs

end
end Go.Fw

namespace Go.Fw
set_option linter.unusedSimpArgs false
set_option linter.unusedVariables false
open Go.RowKit

attribute [local irreducible] ACalls

/-- No object from number n on is named. -/
inductive Low (n : Nat) : AVal → Prop where
  | any : Low n .any
  | lit (v : Value) : Low n (.lit v)
  | agg (cs : List AVal) (h : ∀ x ∈ cs, Low n x) : Low n (.agg cs)
  | tup (cs : List AVal) (h : ∀ x ∈ cs, Low n x) : Low n (.tup cs)
  | seq (k m : Nat) (t : Bool) (f : Nat → List AVal) (h : ∀ i, i < m → ∀ x ∈ f i, Low n x) : Low n (.seq k m t f)
  | ref (cs : List AVal) (h : ∀ x ∈ cs, Low n x) : Low n (.ref cs)
  | ptr (o ver k i j : Nat) (h : o < n) : Low n (.ptr o ver k i j)
  | sel (o ver k i j : Nat) (h : o < n) : Low n (.sel o ver k i j)
  | buf (o ver k len : Nat) (h : o < n) : Low n (.buf o ver k len)
  | own (o ver k off len : Nat) (h : o < n) : Low n (.own o ver k off len)
  | fn (f : Fn) (xs ys : List AVal) (h : ∀ x ∈ xs, Low n x) (g : ∀ x ∈ ys, Low n x) : Low n (.fn f xs ys)
  | ifc (t : TypeId) (a : AVal) (h : Low n a) : Low n (.ifc t a)
  | map (o : Nat) (h : o < n) : Low n (.map o)
  | yld (o : Nat) (h : o < n) : Low n (.yld o)
  | sub (o ver k i j l m : Nat) (h : o < n) : Low n (.sub o ver k i j l m)

/-- The same, by computation, for values of one cell. -/
def low0 : AVal → Bool
  | .any => true
  | .lit _ => true
  | _ => false

theorem low0_sound {n : Nat} {x : AVal} (h : low0 x = true) : Low n x := by
  cases x <;> first | exact .any | exact .lit _ | cases h

def low1 : AVal → Bool
  | .agg cs => cs.all low0
  | x => low0 x

theorem low1_sound {n : Nat} {x : AVal} (h : low1 x = true) : Low n x := by
  cases x with
  | agg cs => exact .agg cs fun x hx => low0_sound (List.all_eq_true.1 h x hx)
  | _ => exact low0_sound h

def low2 : AVal → Bool
  | .tup cs => cs.all low1
  | x => low1 x

theorem low2_sound {n : Nat} {x : AVal} (h : low2 x = true) : Low n x := by
  cases x with
  | tup cs => exact .tup cs fun x hx => low1_sound (List.all_eq_true.1 h x hx)
  | _ => exact low1_sound h

theorem mem_get {α : Type} {l : List α} {i : Nat} {x : α} (h : l[i]? = some x) : x ∈ l := List.mem_of_getElem? h

/-- What names no object depends on memory alone. -/
theorem Rep.low0 {K L : Ctx} (hM : ∀ b i u, K.M b i = some u → L.M b i = some u) {x : AVal} {v : Value} (h : Rep K x v) : Low 0 x → Rep L x v := by
  induction h with
  | any v => exact fun _ => .any v
  | lit v => exact fun _ => .lit v
  | agg cs vs hl h1 _ ih => exact fun hl' => by cases hl' with | agg _ h => exact .agg cs vs hl h1 fun i x v hx hv => ih i x v hx hv (h x (mem_get hx))
  | tup cs vs hl _ ih => exact fun hl' => by cases hl' with | tup _ h => exact .tup cs vs hl fun i x v hx hv => ih i x v hx hv (h x (mem_get hx))
  | nil k t f => exact fun _ => .nil k t f
  | empty k t f a c ht => exact fun _ => .empty k t f a c ht
  | seq k n t f b off c u hc ht hk hM' _ ih => exact fun hl' => by cases hl' with | seq _ _ _ _ h => exact .seq k n t f b off c u hc ht hk (fun i j hi hj => hM _ _ _ (hM' i j hi hj)) fun i j x hi hx => ih i j x hi hx (h i hi x (mem_get hx))
  | ref cs b off u hM' _ ih => exact fun hl' => by cases hl' with | ref _ h => exact .ref cs b off u (fun j hj => hM _ _ _ (hM' j hj)) fun j x hx => ih j x hx (h x (mem_get hx))
  | ptr o ver k i j ho hv => exact fun hl' => by cases hl' with | ptr _ _ _ _ _ h => exact absurd h (by omega)
  | own o ver k off len ho hv a c hl hC ha => exact fun hl' => by cases hl' with | own _ _ _ _ _ h => exact absurd h (by omega)
  | fn f xs ys vs us hl hm _ _ ih1 ih2 => exact fun hl' => by cases hl' with | fn _ _ _ h g => exact .fn f xs ys vs us hl hm (fun i x v hx hv => ih1 i x v hx hv (h x (mem_get hx))) fun i x v hx hv => ih2 i x v hx hv (g x (mem_get hx))
  | ifc t a v _ ih => exact fun hl' => by cases hl' with | ifc _ _ h => exact .ifc t a v (ih h)
  | map o ho => exact fun hl' => by cases hl' with | map _ h => exact absurd h (by omega)
  | yld o ho => exact fun hl' => by cases hl' with | yld _ h => exact absurd h (by omega)
  | sub o ver k i j n m c ho hv hc => exact fun hl' => by cases hl' with | sub _ _ _ _ _ _ _ h => exact absurd h (by omega)
  | selNil o ver k i j => exact fun hl' => by cases hl' with | sel _ _ _ _ _ h => exact absurd h (by omega)
  | selPtr o ver k i j ho hv => exact fun hl' => by cases hl' with | sel _ _ _ _ _ h => exact absurd h (by omega)
  | bufNil o ver k ho hv => exact fun hl' => by cases hl' with | buf _ _ _ _ h => exact absurd h (by omega)
  | bufSome o ver k len c ho hv hl hc hC => exact fun hl' => by cases hl' with | buf _ _ _ _ h => exact absurd h (by omega)
  | ownNil o ver k ho hv => exact fun hl' => by cases hl' with | own _ _ _ _ _ h => exact absurd h (by omega)

/-- The context without objects. -/
def Ctx.bare (K : Ctx) : Ctx := { K with n := 0 }

theorem MemSat.bare {K : Ctx} {objs : Objs} {w : World} (h : MemSat K objs w) : MemSat K.bare [] w :=
  ⟨rfl, fun o p hp => by simp at hp, fun o p hp => by simp at hp, fun o p hp => by simp at hp, fun o o' p p' hp => by simp at hp, h.mem, h.below.step (L := K.bare) rfl rfl rfl rfl rfl (Nat.le_refl _) fun _ _ _ => rfl⟩

theorem le_bare {K0 K : Ctx} (hn : K0.n = 0) (h : K0.le K) : K0.le K.bare :=
  ⟨h.M, fun o v ho => absurd ho (by omega), fun o v ho => absurd ho (by omega), by simp [hn], fun o ho => absurd ho (by omega), h.w0, h.B, h.M0⟩

/-- A result that names no object; the objects are let go. -/
theorem told_low {r : AVal} {objs : Objs} (hl : Low 0 r) : Told 0 r objs r [] := by
  intro K0 K w v hn hle hm hr
  exact ⟨K.bare, le_bare hn hle, hm.bare, Rep.low0 (K := K) (L := K.bare) (fun _ _ _ h => h) hr hl⟩

theorem told_low2 {r : AVal} {objs : Objs} (hl : low2 r = true) : Told 0 r objs r [] := told_low (low2_sound hl)

theorem Told.trans {n : Nat} {r r1 r2 : AVal} {o o1 o2 : Objs} (h : Told n r o r1 o1) (g : Told n r1 o1 r2 o2) : Told n r o r2 o2 := by
  intro K0 K w v hn hle hm hr
  obtain ⟨K1, hle1, hm1, hr1⟩ := h K0 K w v hn hle hm hr
  exact g K0 K1 w v hn hle1 hm1 hr1

/-- The context in which every object is never written again. -/
def Ctx.still (K : Ctx) (objs : Objs) (w : World) : Ctx :=
  { K with M := fun b i => match K.M b i with
      | some u => some u
      | none => if K.B b = none then (match w.cell? ⟨b, i, none⟩ with | some u => if u.oneCell' then some u else none | none => none) else none }

theorem le_still (K : Ctx) (objs : Objs) (w : World) : K.le (K.still objs w) := by
  refine ⟨fun b i u hu => by simp [Ctx.still, hu], fun _ _ _ _ => rfl, fun _ _ _ _ => rfl, Nat.le_refl _, fun _ _ => Nat.le_refl _, rfl, fun _ _ h => h, fun b i x hx => ?_⟩
  simp only [Ctx.still]
  cases hM : K.M b i with
  | some u => rfl
  | none => simp [hx]

/-- An own slice becomes one that nobody writes: all objects are let go. -/
def viewOwn (objs : Objs) : AVal → Option AVal
  | .own o ver k off len => match rowOf objs o ver k with | some (_, es) => some (.seq k len false fun i => es.getD (off + i) []) | none => none
  | _ => none

theorem own_still {K : Ctx} {objs : Objs} {w : World} (hm : MemSat K objs w) {o ver k off len : Nat} {t : TypeId} {es : List (List AVal)} {v : Value} (hp : objs[o]? = some (ver, .row t k es)) (hle : off + len ≤ es.length)
    (hr : Rep K (.own o ver k off len) v) : Rep (K.still objs w) (.seq k len false fun i => es.getD (off + i) []) v := by
  obtain ⟨ho, hv, hcase⟩ := rep_own hr
  rcases hcase with ⟨rfl, rfl, rfl⟩ | ⟨a, c, rfl, hlc, hC, ha⟩
  · exact .nil _ _ _
  · refine rep_seq_mk hlc (fun h => by cases h) (fun h => by cases h) (fun hpos => ?_)
    have := ha (by omega)
    subst this
    have hC0 : K.C o ver ≠ 0 := by omega
    obtain ⟨cc, hcc, hs, h1, hrep⟩ := hm.rowBlock hp hC0
    have hlo := hm.lo o _ hp rfl hC0
    have hel := (hm.obj o _ hp).1
    have get : ∀ i, i < len → ∃ e, es[off + i]? = some e ∧ es.getD (off + i) [] = e ∧ e.length = k := by
      intro i hi
      have hlt : off + i < es.length := by omega
      refine ⟨es[off + i], List.getElem?_eq_getElem hlt, by simp [hlt], hel _ (List.getElem_mem hlt)⟩
    refine ⟨K.ρ o ver, off * k, fun i j => (cc[(off + i) * k + j]?).getD undef, rfl, fun i hi => ?_, fun i j hi hj => ?_, fun i j x hi hx => ?_⟩
    · obtain ⟨e, _, he, hk⟩ := get i hi; rw [he]; exact hk
    · obtain ⟨e, he, _, hk⟩ := get i hi
      obtain ⟨u, hu, _⟩ := hrep (off + i) j e _ he (List.getElem?_eq_getElem (by omega))
      have hcell : w.cell? ⟨K.ρ o ver, off * k + (i * k + j), none⟩ = some u := by
        obtain ⟨fr, _, hcb⟩ := hcc
        rw [← Nat.add_assoc, ← Nat.add_mul]
        simp [World.cell?, hcb, hu]
      simp only [Ctx.still, hlo.2.2, hlo.1, if_true, hcell, hu, Option.getD_some]
      rw [if_pos (h1 u (Array.mem_toList_iff.2 (Array.mem_of_getElem? hu)))]
    · obtain ⟨e, he, he', hk⟩ := get i hi
      rw [he'] at hx
      obtain ⟨u, hu, hru⟩ := hrep (off + i) j e x he hx
      simp only [hu, Option.getD_some]
      exact hru.mono (le_still K objs w)

theorem MemSat.still {K : Ctx} {objs : Objs} {w : World} (h : MemSat K objs w) : MemSat (K.still objs w).bare [] w := by
  refine ⟨rfl, fun o p hp => by simp at hp, fun o p hp => by simp at hp, fun o p hp => by simp at hp, fun o o' p p' hp => by simp at hp, fun b i u hu => ?_, h.below.step (L := (K.still objs w).bare) rfl rfl rfl rfl rfl (Nat.le_refl _) fun _ _ _ => rfl⟩
  simp only [Ctx.still, Ctx.bare] at hu
  split at hu
  · rename_i u' hM; simp only [Option.some.injEq] at hu; subst hu; exact h.mem b i u' hM
  · split at hu
    · split at hu
      · rename_i u' hc
        split at hu
        · rename_i h1; simp only [Option.some.injEq] at hu; subst hu; exact ⟨hc, h1⟩
        · cases hu
      · cases hu
    · cases hu

/-- A result and what it is told as, once the objects are never written again. -/
def Seen (objs : Objs) (r0 r : AVal) : Prop := ∀ (K : Ctx) (w : World) (v : Value), MemSat K objs w → Rep K r0 v → Rep (K.still objs w) r v

theorem told_seen {r0 r : AVal} {objs : Objs} (hs : Seen objs r0 r) (hl : Low 0 r) : Told 0 r0 objs r [] := by
  intro K0 K w v hn hle hm hr
  exact ⟨(K.still objs w).bare, le_bare hn (hle.trans (le_still K objs w)), hm.still, Rep.low0 (K := K.still objs w) (L := (K.still objs w).bare) (fun _ _ _ h => h) (hs K w v hm hr) hl⟩

theorem Seen.refl (objs : Objs) (r : AVal) : Seen objs r r := fun K w v _ h => h.mono (le_still K objs w)

theorem Seen.own {objs : Objs} {o ver k off len : Nat} {t : TypeId} {es : List (List AVal)} (hp : objs[o]? = some (ver, .row t k es)) (hle : off + len ≤ es.length) : Seen objs (.own o ver k off len) (.seq k len false fun i => es.getD (off + i) []) :=
  fun _ _ _ hm h => own_still hm hp hle h

theorem Seen.cells {objs : Objs} {xs ys : List AVal} (h : ∀ (i : Nat) (x : AVal), xs[i]? = some x → ∃ y, ys[i]? = some y ∧ Seen objs x y) (hl : ys.length = xs.length) {K : Ctx} {w : World} (hm : MemSat K objs w) {vs : List Value} (hr : Reps K xs vs) : Reps (K.still objs w) ys vs := by
  refine ⟨hr.1.trans hl.symm, fun i y v hy hv => ?_⟩
  have hi : i < xs.length := by have := (List.getElem?_eq_some_iff.1 hy).1; omega
  obtain ⟨y', hy', hs⟩ := h i xs[i] (List.getElem?_eq_getElem hi)
  rw [hy] at hy'
  simp only [Option.some.injEq] at hy'
  subst hy'
  exact hs K w v hm (hr.2 i _ v (List.getElem?_eq_getElem hi) hv)

inductive SeenL (objs : Objs) : List AVal → List AVal → Prop where
  | nil : SeenL objs [] []
  | cons (x y : AVal) (xs ys : List AVal) (h : Seen objs x y) (t : SeenL objs xs ys) : SeenL objs (x :: xs) (y :: ys)

theorem SeenL.reps {objs : Objs} {xs ys : List AVal} (h : SeenL objs xs ys) {K : Ctx} {w : World} (hm : MemSat K objs w) : ∀ {vs : List Value}, Reps K xs vs → Reps (K.still objs w) ys vs := by
  induction h with
  | nil => intro vs hr; exact ⟨hr.1, fun i x v hx => by simp at hx⟩
  | cons x y xs ys hs _ ih =>
    intro vs hr
    match vs, hr with
    | [], hr => exact absurd hr.1 (by simp)
    | v :: vs, hr =>
      refine Reps.cons (hs K w v hm (hr.2 0 x v rfl rfl)) (ih ⟨by have := hr.1; simpa using this, fun i x v hx hv => hr.2 (i + 1) x v (by simpa using hx) (by simpa using hv)⟩)

theorem Seen.tup {objs : Objs} {xs ys : List AVal} (h : SeenL objs xs ys) : Seen objs (.tup xs) (.tup ys) := by
  intro K w v hm hr
  obtain ⟨vs, rfl, hr2⟩ := rep_tup hr
  have := h.reps hm hr2
  exact .tup ys vs this.1 this.2

theorem Seen.agg {objs : Objs} {xs ys : List AVal} (h : SeenL objs xs ys) : Seen objs (.agg xs) (.agg ys) := by
  intro K w v hm hr
  obtain ⟨vs, rfl, hr2, h1⟩ := rep_agg hr
  have := h.reps hm hr2
  exact .agg ys vs this.1 h1 this.2

/-- Only the elements that there are count. -/
theorem Seen.seqCongr {objs : Objs} {k n : Nat} {t t' : Bool} {f g : Nat → List AVal} (h : ∀ i, i < n → f i = g i) (ht : t' = true → t = true) : Seen objs (.seq k n t f) (.seq k n t' g) := by
  intro K w v hm hr
  obtain ⟨A, c, rfl, hc, htt, hA, hx⟩ := rep_seq hr
  refine rep_seq_mk hc (fun h => htt (ht h)) hA (fun hpos => ?_)
  obtain ⟨b, off, u, hA, hk, hM, hru⟩ := hx hpos
  exact ⟨b, off, u, hA, fun i hi => by rw [← h i hi]; exact hk i hi, fun i j hi hj => (le_still K objs w).M _ _ _ (hM i j hi hj), fun i j x hi hx => (hru i j x hi (by rw [h i hi]; exact hx)).mono (le_still K objs w)⟩

theorem Seen.trans' {objs : Objs} {a b c : AVal} (h : Seen objs a b) (g : ∀ (K : Ctx) (v : Value), Rep K b v → Rep K c v) : Seen objs a c := fun K w v hm hr => g _ v (h K w v hm hr)

/-- Over a slice: only the elements that there are count. -/
theorem rep_seqCongr {K : Ctx} {k n : Nat} {t t' : Bool} {f g : Nat → List AVal} {v : Value} (h : ∀ i, i < n → f i = g i) (ht : t' = true → t = true) (hr : Rep K (.seq k n t f) v) : Rep K (.seq k n t' g) v := by
  obtain ⟨A, c, rfl, hc, htt, hA, hx⟩ := rep_seq hr
  refine rep_seq_mk hc (fun h => htt (ht h)) hA (fun hpos => ?_)
  obtain ⟨b, off, u, hA, hk, hM, hru⟩ := hx hpos
  exact ⟨b, off, u, hA, fun i hi => by rw [← h i hi]; exact hk i hi, hM, fun i j x hi hx => hru i j x hi (by rw [h i hi]; exact hx)⟩

theorem Seen.nil (objs : Objs) (k : Nat) (t : Bool) (f : Nat → List AVal) : Seen objs (.lit (.slice none 0 0)) (.seq k 0 t f) := by
  intro K w v hm hr
  have := rep_lit hr
  subst this
  exact .nil k t f

section
variable {P : Program}

/-- THE FRAME: a contract over no objects serves over all. -/
theorem ACalls.frame {f : FuncId} {args : List AVal} {R : AVal → Prop} (h : ACalls P f args [] fun r o => R r ∧ o = []) (ha : ∀ x ∈ args, Low 0 x) (hl : ∀ r, R r → Low 0 r) (objs : Objs) :
    ACalls P f args objs fun r o => R r ∧ o = objs := by
  unfold ACalls at h ⊢
  intro K w vs hm hreps
  let K1 : Ctx := { K with n := 0, B := fun b => w.heap[b]?, w0 := w }
  have hm1 : MemSat K1 [] w := ⟨rfl, fun o p hp => by simp at hp, fun o p hp => by simp at hp, fun o p hp => by simp at hp, fun o o' p p' hp => by simp at hp, hm.mem, ⟨rfl, rfl, rfl, Nat.le_refl _, fun b x hx => hx⟩⟩
  have hr1 : Reps K1 args vs := ⟨hreps.1, fun i x v hx hv => Rep.low0 (K := K) (L := K1) (fun _ _ _ h => h) (hreps.2 i x v hx hv) (ha x (mem_get hx))⟩
  refine (h K1 w vs hm1 hr1).mono ?_
  rintro e w' ⟨v, r, objs', K2, rfl, hle, hm2, hrep, hR, rfl⟩
  let K3 : Ctx := { K with M := K2.M }
  have hB : ∀ b x, w.heap[b]? = some x → w'.heap[b]? = some x := fun b x hx => hm2.below.block b x (hle.B b x hx)
  have hM0 : ∀ b i x, w.heap[b]? = some x → K2.M b i = K.M b i := fun b i x hx => hle.M0 b i x hx
  have hsz : w.heap.size ≤ w'.heap.size := by have := hm2.below.size; rw [hle.w0] at this; exact this
  have hKL : K.le K3 := ⟨hle.M, fun _ _ _ _ => rfl, fun _ _ _ _ => rfl, Nat.le_refl _, fun _ _ => Nat.le_refl _, rfl, fun _ _ h => h, fun b i x hx => hM0 b i x (hm.below.block b x hx)⟩
  have blk : ∀ b, b < w.heap.size → ∃ x, w.heap[b]? = some x := fun b hb => ⟨_, Array.getElem?_eq_getElem hb⟩
  refine ⟨v, r, objs, K3, rfl, hKL, ⟨hm.len, hm.ver, fun o p hp => ?_, fun o p hp hlv hC => ?_, hm.dis, hm2.mem, ⟨?_, ?_, ?_, Nat.le_trans hm.below.size hsz, fun b x hx => hB b x (hm.below.block b x hx)⟩⟩, Rep.low0 (K := K2) (L := K3) (fun _ _ _ h => h) hrep (hl r hR), hR, rfl⟩
  · refine (hm.obj o p hp).mono hKL (hm.olt hp) (by rw [hm.ver o p hp]; exact Nat.le_refl _) (fun hlv hC => ?_)
    obtain ⟨x, hx⟩ := blk _ (hm.lo o p hp hlv hC).2.1
    rw [hx]; exact hB _ x hx
  · obtain ⟨h1, h2, h3⟩ := hm.lo o p hp hlv hC
    obtain ⟨x, hx⟩ := blk _ h2
    exact ⟨h1, Nat.lt_of_lt_of_le h2 hsz, fun i => (hM0 _ i x hx).trans (h3 i)⟩
  · have := hm2.below.os; rw [hle.w0] at this; exact this.trans hm.below.os
  · have := hm2.below.tape; rw [hle.w0] at this; exact this.trans hm.below.tape
  · have := hm2.below.output; rw [hle.w0] at this; exact this.trans hm.below.output

/-- A contract 'it gives r', over no objects, over all. -/
theorem AGives.frame {f : FuncId} {args : List AVal} {r : AVal} (h : AGives P f args [] r) (ha : ∀ x ∈ args, Low 0 x) (hl : Low 0 r) (objs : Objs) : AGives P f args objs r := by
  unfold AGives at h ⊢
  exact ACalls.frame (R := fun r' => r' = r) h ha (by rintro _ rfl; exact hl) objs

theorem AGives.calls {f : FuncId} {args : List AVal} {objs : Objs} {r : AVal} {R : AVal → Objs → Prop} (h : AGives P f args objs r) (hR : R r objs) : ACalls P f args objs R :=
  ACalls.mono h (by rintro _ _ ⟨rfl, rfl⟩; exact hR)

/-- A world as the context of a law's call: all that is there stays. -/
def worldCtx (w : World) : Ctx :=
  { M := fun b i => match w.cell? ⟨b, i, none⟩ with | some u => if u.oneCell' then some u else none | none => none, ρ := fun _ _ => 0, C := fun _ _ => 0, n := 0, vs := fun _ => 0, B := fun b => w.heap[b]?, w0 := w }

theorem worldCtx_sat (w : World) : MemSat (worldCtx w) [] w := by
  refine ⟨rfl, fun o p hp => by simp at hp, fun o p hp => by simp at hp, fun o p hp => by simp at hp, fun o o' p p' hp => by simp at hp, fun b i u hu => ?_, ⟨rfl, rfl, rfl, Nat.le_refl _, fun b x hx => hx⟩⟩
  simp only [worldCtx] at hu
  split at hu
  · rename_i u' hc
    split at hu
    · rename_i h1; simp only [Option.some.injEq] at hu; subst hu; exact ⟨hc, h1⟩
    · cases hu
  · cases hu

/-- A law that answers true. -/
theorem law_calls {f : FuncId} {args : List AVal} {vs : List Value} {w : World} (h : AGives P f args [] (.lit (.bool true))) (hr : Reps (worldCtx w) args vs) :
    Calls P f vs.toArray w fun e w' => e = .returned (.bool true) ∧ Below w.heap.size w w' := by
  unfold AGives ACalls at h
  refine (h (worldCtx w) w vs (worldCtx_sat w) hr).mono ?_
  rintro e w' ⟨v, r, objs', K', rfl, hle, hm, hrep, rfl, rfl⟩
  have := rep_lit hrep
  subst this
  have hb := hm.below
  refine ⟨rfl, ⟨by have := hb.os; rw [hle.w0] at this; exact this, by have := hb.tape; rw [hle.w0] at this; exact this, by have := hb.output; rw [hle.w0] at this; exact this, by have := hb.size; rw [hle.w0] at this; exact this, fun k hk => ?_⟩⟩
  have h1 : (worldCtx w).B k = some w.heap[k] := Array.getElem?_eq_getElem hk
  replace h1 := hle.B _ _ h1
  rw [hb.block k _ h1, Array.getElem?_eq_getElem hk]

end
end Go.Fw

namespace Go.Fw
set_option linter.unusedSimpArgs false
set_option linter.unusedVariables false
open Go.RowKit

attribute [local irreducible] ACalls

def LowL (n : Nat) (xs : List AVal) : Prop := ∀ x ∈ xs, Low n x
theorem LowL.nil {n : Nat} : LowL n [] := fun x h => by simp at h
theorem LowL.cons {n : Nat} {x : AVal} {xs : List AVal} (h : Low n x) (t : LowL n xs) : LowL n (x :: xs) := fun y hy => by
  rcases List.mem_cons.1 hy with rfl | hy
  · exact h
  · exact t y hy
theorem LowL.of2 {n : Nat} {xs : List AVal} (h : xs.all low2 = true) : LowL n xs := fun x hx => low2_sound (List.all_eq_true.1 h x hx)

/-- A slice of elements without memory names no object. -/
theorem low_seq {n k m : Nat} {t : Bool} {f : Nat → List AVal} (h : ∀ i, (f i).all low0 = true) : Low n (.seq k m t f) := .seq k m t f fun i _ x hx => low0_sound (List.all_eq_true.1 (h i) x hx)

section
variable {P : Program}

theorem AGives.any {f : FuncId} {args : List AVal} {r : AVal} (ha : args.all low2 = true) (hl : low2 r = true) (h : AGives P f args [] r) (objs : Objs) : AGives P f args objs r :=
  h.frame (LowL.of2 ha) (low2_sound hl) objs

theorem AGives.any' {f : FuncId} {args : List AVal} {r : AVal} (ha : LowL 0 args) (hl : Low 0 r) (h : AGives P f args [] r) (objs : Objs) : AGives P f args objs r := h.frame ha hl objs

/-- What is told of a value depends on objects below n alone. -/
theorem Rep.low {K L : Ctx} {n : Nat} (hM : ∀ b i u, K.M b i = some u → L.M b i = some u) (hn : n ≤ L.n) (hρ : ∀ o v, o < n → L.ρ o v = K.ρ o v) (hC : ∀ o v, o < n → L.C o v = K.C o v) (hv : ∀ o, o < n → L.vs o = K.vs o) {x : AVal} {v : Value} (h : Rep K x v) : Low n x → Rep L x v := by
  induction h with
  | any v => exact fun _ => .any v
  | lit v => exact fun _ => .lit v
  | agg cs vs hl h1 _ ih => exact fun hl' => by cases hl' with | agg _ h => exact .agg cs vs hl h1 fun i x v hx hv => ih i x v hx hv (h x (mem_get hx))
  | tup cs vs hl _ ih => exact fun hl' => by cases hl' with | tup _ h => exact .tup cs vs hl fun i x v hx hv => ih i x v hx hv (h x (mem_get hx))
  | nil k t f => exact fun _ => .nil k t f
  | empty k t f a c ht => exact fun _ => .empty k t f a c ht
  | seq k n t f b off c u hc ht hk hM' _ ih => exact fun hl' => by cases hl' with | seq _ _ _ _ h => exact .seq k n t f b off c u hc ht hk (fun i j hi hj => hM _ _ _ (hM' i j hi hj)) fun i j x hi hx => ih i j x hi hx (h i hi x (mem_get hx))
  | ref cs b off u hM' _ ih => exact fun hl' => by cases hl' with | ref _ h => exact .ref cs b off u (fun j hj => hM _ _ _ (hM' j hj)) fun j x hx => ih j x hx (h x (mem_get hx))
  | ptr o ver k i j ho hve => exact fun hl' => by cases hl' with | ptr _ _ _ _ _ h => rw [← hρ o ver h]; exact .ptr o ver k i j (by omega) (by rw [hv o h]; exact hve)
  | own o ver k off len ho hve a c hl hC' ha => exact fun hl' => by cases hl' with | own _ _ _ _ _ h => exact .own o ver k off len (by omega) (by rw [hv o h]; exact hve) a c hl (by rw [hC o ver h]; exact hC') (by rw [hρ o ver h]; exact ha)
  | fn f xs ys vs us hl hm _ _ ih1 ih2 => exact fun hl' => by cases hl' with | fn _ _ _ h g => exact .fn f xs ys vs us hl hm (fun i x v hx hv => ih1 i x v hx hv (h x (mem_get hx))) fun i x v hx hv => ih2 i x v hx hv (g x (mem_get hx))
  | ifc t a v _ ih => exact fun hl' => by cases hl' with | ifc _ _ h => exact .ifc t a v (ih h)
  | map o ho => exact fun hl' => by cases hl' with | map _ h => rw [← hρ o 0 h]; exact .map o (by omega)
  | yld o ho => exact fun hl' => by cases hl' with | yld _ h => rw [← hρ o 0 h]; exact .yld o (by omega)
  | sub o ver k i j n m c ho hve hc => exact fun hl' => by cases hl' with | sub _ _ _ _ _ _ _ h => rw [← hρ o ver h]; exact .sub o ver k i j n m c (by omega) (by rw [hv o h]; exact hve) hc
  | selNil o ver k i j => exact fun hl' => .selNil o ver k i j
  | selPtr o ver k i j ho hve => exact fun hl' => by cases hl' with | sel _ _ _ _ _ h => rw [← hρ o ver h]; exact .selPtr o ver k i j (by omega) (by rw [hv o h]; exact hve)
  | bufNil o ver k ho hve => exact fun hl' => by cases hl' with | buf _ _ _ _ h => exact .bufNil o ver k (by omega) (by rw [hv o h]; exact hve)
  | bufSome o ver k len c ho hve hl hc hC' => exact fun hl' => by cases hl' with | buf _ _ _ _ h => rw [← hρ o ver h]; exact .bufSome o ver k len c (by omega) (by rw [hv o h]; exact hve) hl hc (by rw [hC o ver h]; exact hC')
  | ownNil o ver k ho hve => exact fun hl' => by cases hl' with | own _ _ _ _ _ h => exact .ownNil o ver k (by omega) (by rw [hv o h]; exact hve)

/-- The first n objects alone. -/
def Ctx.cut (K : Ctx) (n : Nat) : Ctx := { K with n := n }

def LowObj (n : Nat) : AObj → Prop
  | .dead => True
  | .row _ _ es => ∀ e ∈ es, LowL n e
  | .other (.strIter _ _) => True
  | .other (.map es _) => ∀ e ∈ es, Low n e.2.1
  | .other (.mapIter o _ _ _) => o < n

theorem OtherSat.low {K L : Ctx} {n : Nat} (hM : ∀ b i u, K.M b i = some u → L.M b i = some u) (hn : n ≤ L.n) (hρ : ∀ o v, o < n → L.ρ o v = K.ρ o v) (hC : ∀ o v, o < n → L.C o v = K.C o v) (hv : ∀ o, o < n → L.vs o = K.vs o) {b : Obj} {x : AOther} (hl : LowObj n (.other x)) (h : OtherSat K b x) : OtherSat L b x := by
  cases x with
  | strIter s pos => exact h
  | map es clock =>
    obtain ⟨arr, h1, h2, h3⟩ := h
    exact ⟨arr, h1, h2, fun i k x st e he ha => by obtain ⟨q1, q2, q3⟩ := h3 i k x st e he ha; exact ⟨q1, q2, Rep.low hM hn hρ hC hv q3 (hl _ (mem_get he))⟩⟩
  | mapIter o since seen last =>
    obtain ⟨h1, h2⟩ := h
    have ho : o < n := hl
    exact ⟨by omega, by rw [hρ o 0 ho]; exact h2⟩

theorem MemSat.cut {K : Ctx} {objs : Objs} {w : World} {n : Nat} (h : MemSat K objs w) (hn : n ≤ objs.length) (hl : ∀ o p, objs[o]? = some p → o < n → LowObj n p.2) : MemSat (K.cut n) (objs.take n) w := by
  have get : ∀ (o : Nat) (p : Nat × AObj), (objs.take n)[o]? = some p → objs[o]? = some p ∧ o < n := by
    intro o p hp
    rw [List.getElem?_take] at hp
    split at hp
    · rename_i ho; exact ⟨hp, ho⟩
    · cases hp
  refine ⟨by simp [Ctx.cut]; omega, fun o p hp => h.ver o p (get o p hp).1, fun o p hp => ?_, fun o p hp => h.lo o p (get o p hp).1, fun o o' p p' hp hp' => h.dis o o' p p' (get o p hp).1 (get o' p' hp').1, h.mem, h.below.step (L := K.cut n) rfl rfl rfl rfl rfl (Nat.le_refl _) fun _ _ _ => rfl⟩
  obtain ⟨hp, ho⟩ := get o p hp
  have hs := h.obj o p hp
  have hlo := hl o p hp ho
  cases hp2 : p.2 with
  | dead => trivial
  | row t k es =>
    rw [hp2] at hs hlo
    obtain ⟨h1, h2, h3⟩ := hs
    refine ⟨h1, h2, fun hC => ?_⟩
    obtain ⟨c, q1, q2, q3, q4⟩ := h3 hC
    refine ⟨c, q1, q2, q3, fun i j e x he hx => ?_⟩
    obtain ⟨u, hu, hr⟩ := q4 i j e x he hx
    exact ⟨u, hu, Rep.low (K := K) (L := K.cut n) (n := n) (fun _ _ _ h => h) (Nat.le_refl _) (fun _ _ _ => rfl) (fun _ _ _ => rfl) (fun _ _ => rfl) hr (hlo e (mem_get he) x (mem_get hx))⟩
  | other x =>
    rw [hp2] at hs hlo
    obtain ⟨h1, b, h2, h3⟩ := hs
    exact ⟨h1, b, h2, OtherSat.low (K := K) (L := K.cut n) (n := n) (fun _ _ _ h => h) (Nat.le_refl _) (fun _ _ _ => rfl) (fun _ _ _ => rfl) (fun _ _ => rfl) hlo h3⟩

/-- Slots that are kept, each with what it is. -/
inductive SubS (n : Nat) (s : List (Nat × AVal)) : List (Nat × AVal) → Prop where
  | nil : SubS n s []
  | cons (t : Nat) (v : AVal) (r : List (Nat × AVal)) (h : getSlot s t = v) (hl : Low n v) (hr : SubS n s r) : SubS n s ((t, v) :: r)

theorem SubS.get {n : Nat} {s s' : List (Nat × AVal)} (h : SubS n s s') (t : Nat) : getSlot s' t = .any ∨ (getSlot s' t = getSlot s t ∧ Low n (getSlot s t)) := by
  induction h with
  | nil => exact .inl rfl
  | cons t' v r h hl _ ih =>
    rw [getSlot_cons]
    by_cases ht : t' = t
    · subst ht; rw [if_pos rfl]; exact .inr ⟨h.symm, by rw [h]; exact hl⟩
    · rw [if_neg ht]; exact ih

/-- At a loop's head: objects from number n on are let go, and slots. -/
theorem weaker_cut {nt : Nat} {s s' : List (Nat × AVal)} {o : Objs} (n : Nat) (hn : n ≤ o.length) (hl : ∀ i p, o[i]? = some p → i < n → LowObj n p.2) (hs : SubS n s s') : Weaker nt 0 ⟨s, o⟩ ⟨s', o.take n⟩ := by
  intro K0 K a w h0 hle hsat
  refine ⟨K.cut n, ⟨hle.M, fun o v ho => absurd ho (by omega), fun o v ho => absurd ho (by omega), by simp [h0], fun o ho => absurd ho (by omega), hle.w0, hle.B, hle.M0⟩, hsat.mem.cut hn hl, fun t => ?_, hsat.size, hsat.defers⟩
  show Rep (K.cut n) (getSlot s' t) _
  rcases hs.get t with h | ⟨h, hlow⟩
  · rw [h]; exact .any _
  · rw [h]; exact Rep.low (K := K) (L := K.cut n) (n := n) (fun _ _ _ h => h) (Nat.le_refl _) (fun _ _ _ => rfl) (fun _ _ _ => rfl) (fun _ _ => rfl) (hsat.slot t) hlow

theorem weaker_drop {nt : Nat} {s s' : List (Nat × AVal)} {o : Objs} (hs : SubS 0 s s') : Weaker nt 0 ⟨s, o⟩ ⟨s', []⟩ := by
  have := weaker_cut (nt := nt) (o := o) 0 (Nat.zero_le _) (fun i p _ h => absurd h (by omega)) hs
  simpa using this

/-- An argument may be told otherwise. -/
theorem ACalls.args {f : FuncId} {args args' : List AVal} {objs : Objs} {R : AVal → Objs → Prop} (h : ∀ (K : Ctx) (vs : List Value), Reps K args vs → Reps K args' vs) (hc : ACalls P f args' objs R) : ACalls P f args objs R := by
  unfold ACalls at hc ⊢
  exact fun K w vs hm hr => hc K w vs hm (h K vs hr)

/-- One value told as another, whatever the memory. -/
def AsA (x y : AVal) : Prop := ∀ (K : Ctx) (v : Value), Rep K x v → Rep K y v
theorem AsA.refl (x : AVal) : AsA x x := fun _ _ h => h
theorem AsA.seq {k n : Nat} {t t' : Bool} {f g : Nat → List AVal} (h : ∀ i, i < n → f i = g i) (ht : t' = true → t = true) : AsA (.seq k n t f) (.seq k n t' g) := fun _ _ hr => rep_seqCongr h ht hr
theorem AsA.nil {k : Nat} {t : Bool} {f : Nat → List AVal} : AsA (.lit (.slice none 0 0)) (.seq k 0 t f) := fun _ _ hr => by
  have := rep_lit hr
  subst this
  exact .nil k t f

inductive AsL : List AVal → List AVal → Prop where
  | nil : AsL [] []
  | cons (x y : AVal) (xs ys : List AVal) (h : AsA x y) (t : AsL xs ys) : AsL (x :: xs) (y :: ys)

theorem AsL.reps {xs ys : List AVal} (h : AsL xs ys) (K : Ctx) : ∀ (vs : List Value), Reps K xs vs → Reps K ys vs := by
  induction h with
  | nil => exact fun vs hr => hr
  | cons x y xs ys hs _ ih =>
    intro vs hr
    match vs, hr with
    | [], hr => exact absurd hr.1 (by simp)
    | v :: vs, hr =>
      exact Reps.cons (hs K v (hr.2 0 x v rfl rfl)) (ih vs ⟨by have := hr.1; simpa using this, fun i x v hx hv => hr.2 (i + 1) x v (by simpa using hx) (by simpa using hv)⟩)

theorem ACalls.as {f : FuncId} {args args' : List AVal} {objs : Objs} {R : AVal → Objs → Prop} (h : AsL args args') (hc : ACalls P f args' objs R) : ACalls P f args objs R := hc.args fun K vs hr => h.reps K vs hr

theorem AGives.as {f : FuncId} {args args' : List AVal} {objs : Objs} {r : AVal} (h : AsL args args') (hc : AGives P f args' objs r) : AGives P f args objs r := ACalls.as h hc

/-- THE FRAME, for a call that makes one new slice of its own. -/
theorem ACalls.frameOwn {f : FuncId} {args : List AVal} {k m : Nat} {t : TypeId} {es : List (List AVal)} (h : ACalls P f args [] fun r o => r = .own 0 0 k 0 m ∧ o = [(0, .row t k es)]) (ha : LowL 0 args) (hes : ∀ e ∈ es, LowL 0 e) (objs : Objs) :
    ACalls P f args objs fun r o => r = .own objs.length 0 k 0 m ∧ o = objs ++ [(0, .row t k es)] := by
  unfold ACalls at h ⊢
  intro K w vs hm hreps
  let K1 : Ctx := { K with n := 0, B := fun b => w.heap[b]?, w0 := w }
  have hm1 : MemSat K1 [] w := ⟨rfl, fun o p hp => by simp at hp, fun o p hp => by simp at hp, fun o p hp => by simp at hp, fun o o' p p' hp => by simp at hp, hm.mem, ⟨rfl, rfl, rfl, Nat.le_refl _, fun b x hx => hx⟩⟩
  have hr1 : Reps K1 args vs := ⟨hreps.1, fun i x v hx hv => Rep.low0 (K := K) (L := K1) (fun _ _ _ h => h) (hreps.2 i x v hx hv) (ha x (mem_get hx))⟩
  refine (h K1 w vs hm1 hr1).mono ?_
  rintro e w' ⟨v, r, objs', K2, rfl, hle, hm2, hrep, rfl, rfl⟩
  have hvs2 : K2.vs 0 = 0 := (hm2.ver 0 _ rfl).symm
  have hn : K.n = objs.length := hm.len.symm
  let K3 : Ctx := { K with M := K2.M, ρ := fun o v => if o = K.n then K2.ρ 0 v else K.ρ o v, C := fun o v => if o = K.n then K2.C 0 v else K.C o v, n := K.n + 1, vs := fun o => if o = K.n then 0 else K.vs o }
  have hB : ∀ b x, w.heap[b]? = some x → w'.heap[b]? = some x := fun b x hx => hm2.below.block b x (hle.B b x hx)
  have hM0 : ∀ b i x, w.heap[b]? = some x → K2.M b i = K.M b i := fun b i x hx => hle.M0 b i x hx
  have hsz : w.heap.size ≤ w'.heap.size := by have := hm2.below.size; rw [hle.w0] at this; exact this
  have eρ : ∀ o v, o < K.n → K3.ρ o v = K.ρ o v := fun o v ho => by show (if o = K.n then _ else _) = _; rw [if_neg (by omega)]
  have eC : ∀ o v, o < K.n → K3.C o v = K.C o v := fun o v ho => by show (if o = K.n then _ else _) = _; rw [if_neg (by omega)]
  have ev : ∀ o, o < K.n → K3.vs o = K.vs o := fun o ho => by show (if o = K.n then _ else _) = _; rw [if_neg (by omega)]
  have eρn : ∀ v, K3.ρ K.n v = K2.ρ 0 v := fun v => by show (if K.n = K.n then _ else _) = _; rw [if_pos rfl]
  have eCn : ∀ v, K3.C K.n v = K2.C 0 v := fun v => by show (if K.n = K.n then _ else _) = _; rw [if_pos rfl]
  have evn : K3.vs K.n = 0 := by show (if K.n = K.n then _ else _) = _; rw [if_pos rfl]
  have hKL : K.le K3 := ⟨hle.M, fun o v ho _ => eρ o v ho, fun o v ho _ => eC o v ho, Nat.le_succ _, fun o ho => by rw [ev o ho]; exact Nat.le_refl _, rfl, fun _ _ h => h, fun b i x hx => hM0 b i x (hm.below.block b x hx)⟩
  have blk : ∀ b, b < w.heap.size → ∃ x, w.heap[b]? = some x := fun b hb => ⟨_, Array.getElem?_eq_getElem hb⟩
  -- the new block lies beyond all old ones
  have hnew : K2.C 0 0 ≠ 0 → w.heap.size ≤ K2.ρ 0 0 ∧ K2.ρ 0 0 < w'.heap.size ∧ (∀ i, K2.M (K2.ρ 0 0) i = none) := by
    intro hC
    obtain ⟨q1, q2, q3⟩ := hm2.lo 0 _ rfl rfl hC
    refine ⟨?_, q2, q3⟩
    rcases Nat.lt_or_ge (K2.ρ 0 0) w.heap.size with h' | h'
    · obtain ⟨x, hx⟩ := blk _ h'
      have : K2.B (K2.ρ 0 0) = some x := hle.B _ x hx
      rw [q1] at this; cases this
    · exact h'
  have cases_o : ∀ (o : Nat) (p : Nat × AObj), (objs ++ [(0, AObj.row t k es)])[o]? = some p → (objs[o]? = some p ∧ o < K.n) ∨ (o = K.n ∧ p = (0, .row t k es)) := by
    intro o p hp
    rcases Nat.lt_trichotomy o K.n with hlt | heq | hgt
    · left
      rw [List.getElem?_append_left (by omega)] at hp
      exact ⟨hp, hlt⟩
    · right
      subst heq
      rw [List.getElem?_append_right (by omega), ← hn, Nat.sub_self] at hp
      exact ⟨rfl, by simpa using hp.symm⟩
    · rw [List.getElem?_eq_none (by simp; omega)] at hp
      cases hp
  refine ⟨v, .own objs.length 0 k 0 m, objs ++ [(0, .row t k es)], K3, rfl, hKL, ⟨by simp [K3, hn], fun o p hp => ?_, fun o p hp => ?_, fun o p hp hlv hC => ?_, fun o o' p p' hp hp' hl hl' hC hC' hne => ?_, hm2.mem, ⟨?_, ?_, ?_, Nat.le_trans hm.below.size hsz, fun b x hx => hB b x (hm.below.block b x hx)⟩⟩, ?_, rfl, rfl⟩
  · rcases cases_o o p hp with ⟨hp, hlt⟩ | ⟨rfl, rfl⟩
    · rw [ev o hlt]; exact hm.ver o p hp
    · exact evn.symm
  · rcases cases_o o p hp with ⟨hp, hlt⟩ | ⟨rfl, rfl⟩
    · refine (hm.obj o p hp).mono hKL hlt (by rw [hm.ver o p hp]; exact Nat.le_refl _) (fun hlv hC => ?_)
      obtain ⟨x, hx⟩ := blk _ (hm.lo o p hp hlv hC).2.1
      rw [hx]; exact hB _ x hx
    · obtain ⟨q1, q2, q3⟩ := hm2.obj 0 _ rfl
      refine ⟨q1, by rw [eCn]; exact q2, fun hC => ?_⟩
      rw [eCn] at hC ⊢
      rw [eρn]
      obtain ⟨c, r1, r2, r3, r4⟩ := q3 hC
      refine ⟨c, r1, r2, r3, fun i j e x he hx => ?_⟩
      obtain ⟨u, hu, hru⟩ := r4 i j e x he hx
      exact ⟨u, hu, Rep.low0 (K := K2) (L := K3) (fun _ _ _ h => h) hru (hes e (mem_get he) x (mem_get hx))⟩
  · rcases cases_o o p hp with ⟨hp, hlt⟩ | ⟨rfl, rfl⟩
    · rw [eC _ _ hlt] at hC
      rw [eρ _ _ hlt]
      obtain ⟨h1, h2, h3⟩ := hm.lo o p hp hlv hC
      obtain ⟨x, hx⟩ := blk _ h2
      exact ⟨h1, Nat.lt_of_lt_of_le h2 hsz, fun i => (hM0 _ i x hx).trans (h3 i)⟩
    · rw [eCn] at hC
      show K3.B (K3.ρ K.n 0) = none ∧ K3.ρ K.n 0 < _ ∧ ∀ i, K3.M (K3.ρ K.n 0) i = none
      rw [eρn]
      obtain ⟨r1, r2, r3⟩ := hnew hC
      exact ⟨hm.below.fresh r1, r2, r3⟩
  · rcases cases_o o p hp with ⟨hp, hlt⟩ | ⟨rfl, rfl⟩ <;> rcases cases_o o' p' hp' with ⟨hp', hlt'⟩ | ⟨rfl, rfl⟩
    · rw [eρ _ _ hlt, eρ _ _ hlt']
      rw [eC _ _ hlt] at hC
      rw [eC _ _ hlt'] at hC'
      exact hm.dis o o' p p' hp hp' hl hl' hC hC' hne
    · rw [eρ _ _ hlt]
      rw [eC _ _ hlt] at hC
      rw [eCn] at hC'
      show _ ≠ K3.ρ K.n 0
      rw [eρn]
      have := (hm.lo o p hp hl hC).2.1
      have := (hnew hC').1
      omega
    · rw [eρ _ _ hlt']
      rw [eC _ _ hlt'] at hC'
      rw [eCn] at hC
      show K3.ρ K.n 0 ≠ _
      rw [eρn]
      have := (hm.lo o' p' hp' hl' hC').2.1
      have := (hnew hC).1
      omega
    · exact absurd rfl hne
  · have := hm2.below.os; rw [hle.w0] at this; exact this.trans hm.below.os
  · have := hm2.below.tape; rw [hle.w0] at this; exact this.trans hm.below.tape
  · have := hm2.below.output; rw [hle.w0] at this; exact this.trans hm.below.output
  · rw [← hn]
    obtain ⟨_, _, hcase⟩ := rep_own hrep
    rcases hcase with ⟨_, rfl, rfl⟩ | ⟨a, c, rfl, q1, q2, q3⟩
    · exact .ownNil _ _ _ (Nat.lt_succ_self _) (Nat.zero_le _)
    · exact .own _ _ _ _ _ (Nat.lt_succ_self _) (Nat.zero_le _) a c q1 (by rw [eCn]; exact q2) (by rw [eρn]; exact q3)

theorem I_eq {a b : Int} (h : a = b) : AVal.lit (.int .i64 a) = .lit (.int .i64 b) := by rw [h]
theorem B_eq {a b : Bool} (h : a = b) : AVal.lit (.bool a) = .lit (.bool b) := by rw [h]

end
end Go.Fw

namespace Go.Fw
set_option linter.unusedSimpArgs false
set_option linter.unusedVariables false
open Go.RowKit

theorem Told.refl {n : Nat} {r : AVal} {o : Objs} : Told n r o r o := fun _ K _ _ _ h m hr => ⟨K, h, m, hr⟩

/-- A list of elements of k cells as a slice nobody writes. -/
def listA {α : Type} (k : Nat) (c : α → List AVal) (d : α) (l : List α) : AVal := .seq k l.length false fun i => c (l.getD i d)

theorem listA_low {α : Type} {k : Nat} {c : α → List AVal} {d : α} {l : List α} {n : Nat} (h : ∀ x, (c x).all low0 = true) : Low n (listA k c d l) := low_seq fun _ => h _

theorem seen_list {α : Type} {k : Nat} {c : α → List AVal} (d : α) {objs : Objs} {o ver len : Nat} {t : TypeId} {es : List (List AVal)} (l : List α) (hp : objs[o]? = some (ver, .row t k es)) (he : es = l.map c) (hlen : len = l.length) : Seen objs (.own o ver k 0 len) (listA k c d l) := by
  subst he hlen
  have h := Seen.own (off := 0) (len := l.length) hp (by simp)
  refine h.trans' fun K v hr => rep_seqCongr (fun i hi => ?_) (fun h => h) hr
  simp [List.getD, List.getElem?_map, List.getElem?_eq_getElem hi]

theorem seen_nil {α : Type} {k : Nat} {c : α → List AVal} {d : α} {objs : Objs} : Seen objs (.lit (.slice none 0 0)) (listA k c d []) := Seen.nil objs k false _

theorem seen_seq {α : Type} {k n : Nat} {t : Bool} {f : Nat → List AVal} {c : α → List AVal} {d : α} {objs : Objs} (l : List α) (hn : n = l.length) (h : ∀ i, i < n → f i = c (l.getD i d)) : Seen objs (.seq k n t f) (listA k c d l) := by
  subst hn
  exact Seen.seqCongr h (fun h => by cases h)

theorem seen_one {α : Type} {k : Nat} {t : Bool} {f : Nat → List AVal} {c : α → List AVal} {d : α} {objs : Objs} {x : α} (h : f 0 = c x) : Seen objs (.seq k 1 t f) (listA k c d [x]) :=
  seen_seq [x] rfl fun i hi => by
    have : i = 0 := by omega
    subst this
    exact h

theorem as_nil {α : Type} {k : Nat} {c : α → List AVal} {d : α} : AsA (.lit (.slice none 0 0)) (listA k c d []) := AsA.nil

/-- A slice told as a list. -/
theorem as_list {α : Type} {k n : Nat} {t : Bool} {f : Nat → List AVal} {c : α → List AVal} {d : α} (l : List α) (hn : n = l.length) (h : ∀ i, i < n → f i = c (l.getD i d)) : AsA (.seq k n t f) (listA k c d l) := by
  subst hn
  exact AsA.seq h (fun h => by cases h)

theorem range_list {α β : Type} (l : List α) (d : α) (c : α → β) : (List.range l.length).map (fun i => c (l.getD i d)) = l.map c := by
  apply List.ext_getElem
  · simp
  · intro i h1 h2
    simp at h1
    simp [List.getD, List.getElem?_eq_getElem h1]

theorem range_listS {α β : Type} (l : List α) (d : α) (c : α → β) : l.map c = (List.range l.length).map (fun i => c (l.getD i d)) := (range_list l d c).symm

/-- An own slice told as a list, for a call that only reads it. -/
theorem range_take {α β : Type} (l : List α) (d : α) (c : α → β) (n : Nat) (h : n ≤ l.length) : (List.range n).map (fun i => c (l.getD i d)) = (l.take n).map c := by
  apply List.ext_getElem
  · simp; omega
  · intro i h1 h2
    simp at h1 h2
    simp [List.getD, List.getElem?_eq_getElem (show i < l.length by omega)]

theorem range_drop {α β : Type} (l : List α) (d : α) (c : α → β) (n m : Nat) (h : m = l.length - n) : (List.range m).map (fun i => c (l.getD (n + i) d)) = (l.drop n).map c := by
  subst h
  apply List.ext_getElem
  · simp
  · intro i h1 h2
    simp at h1 h2
    simp [List.getD, List.getElem?_eq_getElem (show n + i < l.length by omega)]

theorem ret_seen {r0 X : AVal} {o : Objs} (hl : Low 0 X) (hs : Seen o r0 X) : ∃ r objs', Told ([] : Objs).length r0 o r objs' ∧ (r = X ∧ objs' = []) := ⟨X, [], told_seen hs hl, rfl, rfl⟩

theorem Low.tup' {n : Nat} {xs : List AVal} (h : LowL n xs) : Low n (.tup xs) := .tup xs h

theorem wr {n : Int} (h : -9223372036854775808 ≤ n ∧ n ≤ 9223372036854775807) : IntKind.i64.wrap n = n := by rw [IntKind.wrap_i64]; omega

theorem small_of {P : Program} {e : TypeId} {n : Nat} (b : Nat) (hb : bytesA P e = b) (h : n * b ≤ 70368744177664 ∧ n ≤ 70368744177664) : smallA P e n = true := by
  unfold smallA
  rw [hb]
  exact decide_eq_true h

theorem app_ok {P : Program} {e : TypeId} {len n m : Nat} (b : Nat) (hb : bytesA P e = b) (h1 : len = n) (h : m * b ≤ 70368744177664 ∧ m ≤ 70368744177664) : (Nat.beq len n && smallA P e m) = true := by
  subst h1
  rw [small_of b hb h]
  simp

theorem erase_split {α β : Type} (l : List α) (c : α → β) (i : Nat) : (l.take i).map c ++ (l.drop (i + 1)).map c = (l.eraseIdx i).map c := by
  rw [← List.map_append, List.eraseIdx_eq_take_drop_succ]

theorem foldl_take {α β : Type} (f : β → α → β) (b : β) (l : List α) (d : α) (j : Nat) (h : j < l.length) : (l.take (j + 1)).foldl f b = f ((l.take j).foldl f b) (l.getD j d) := by
  rw [List.take_succ_eq_append_getElem h, List.foldl_append]
  simp [List.getD, List.getElem?_eq_getElem h]

theorem idx_ok {j n : Nat} (h : j < n) : decide (0 ≤ (j : Int) ∧ (j : Int) < (n : Int)) = true := decide_eq_true ⟨by omega, by omega⟩

theorem weaker_refl {nt n : Nat} {s : St} : Weaker nt n s s := fun _ K _ _ _ h hs => ⟨K, h, hs⟩

inductive SubE (s : List (Nat × AVal)) : List (Nat × AVal) → Prop where
  | nil : SubE s []
  | cons (t : Nat) (v : AVal) (r : List (Nat × AVal)) (h : getSlot s t = v) (hr : SubE s r) : SubE s ((t, v) :: r)

theorem SubE.get {s s' : List (Nat × AVal)} (h : SubE s s') (t : Nat) : getSlot s' t = .any ∨ getSlot s' t = getSlot s t := by
  induction h with
  | nil => exact .inl rfl
  | cons t' v r h _ ih =>
    rw [getSlot_cons]
    by_cases ht : t' = t
    · subst ht; rw [if_pos rfl]; exact .inr h.symm
    · rw [if_neg ht]; exact ih

/-- At a loop's head: slots are let go, objects stay. -/
theorem weaker_same {nt n : Nat} {s s' : List (Nat × AVal)} {o : Objs} (hs : SubE s s') : Weaker nt n ⟨s, o⟩ ⟨s', o⟩ := by
  intro K0 K a w h0 hle hsat
  refine ⟨K, hle, hsat.mem, fun t => ?_, hsat.size, hsat.defers⟩
  show Rep K (getSlot s' t) _
  rcases hs.get t with h | h
  · rw [h]; exact .any _
  · rw [h]; exact hsat.slot t

/-- The first n objects, each as of its first version. -/
def Ctx.reset (K : Ctx) (n : Nat) : Ctx := { K with n := n, ρ := fun o _ => K.ρ o (K.vs o), C := fun o _ => K.C o (K.vs o), vs := fun _ => 0 }

def resetO (n : Nat) (o : Objs) : Objs := (o.take n).map fun p => (0, p.2)

theorem MemSat.reset {K : Ctx} {objs : Objs} {w : World} (n : Nat) (h : MemSat K objs w) (hn : n ≤ objs.length) (hl : ∀ o p, objs[o]? = some p → o < n → LowObj 0 p.2) : MemSat (K.reset n) (resetO n objs) w := by
  have get : ∀ (o : Nat) (p : Nat × AObj), (resetO n objs)[o]? = some p → ∃ q, objs[o]? = some q ∧ o < n ∧ p = (0, q.2) ∧ q.1 = K.vs o := by
    intro o p hp
    rw [resetO, List.getElem?_map, List.getElem?_take] at hp
    split at hp
    · rename_i ho
      cases hq : objs[o]? with
      | none => rw [hq] at hp; cases hp
      | some q =>
        rw [hq] at hp
        simp only [Option.map_some, Option.some.injEq] at hp
        exact ⟨q, rfl, ho, hp.symm, h.ver o q hq⟩
    · cases hp
  refine ⟨by simp [Ctx.reset, resetO]; omega, fun o p hp => ?_, fun o p hp => ?_, fun o p hp hlv hC => ?_, fun o o' p p' hp hp' hlv hlv' hC hC' hne => ?_, h.mem, h.below.step (L := K.reset n) rfl rfl rfl rfl rfl (Nat.le_refl _) fun _ _ _ => rfl⟩
  · obtain ⟨q, _, _, rfl, _⟩ := get o p hp
    rfl
  · obtain ⟨q, hq, ho, rfl, hv⟩ := get o p hp
    have hs := h.obj o q hq
    have hlo := hl o q hq ho
    show ObjSat (K.reset n) w o 0 q.2
    cases hq2 : q.2 with
    | dead => trivial
    | row t k es =>
      rw [hq2] at hs hlo
      rw [hv] at hs
      obtain ⟨h1, h2, h3⟩ := hs
      refine ⟨h1, h2, fun hC => ?_⟩
      obtain ⟨c, q1, q2, q3, q4⟩ := h3 hC
      refine ⟨c, q1, q2, q3, fun i j e x he hx => ?_⟩
      obtain ⟨u, hu, hr⟩ := q4 i j e x he hx
      exact ⟨u, hu, Rep.low0 (K := K) (L := K.reset n) (fun _ _ _ h => h) hr (hlo e (mem_get he) x (mem_get hx))⟩
    | other x =>
      rw [hq2] at hs hlo
      rw [hv] at hs
      obtain ⟨h1, b, h2, h3⟩ := hs
      exact ⟨h1, b, h2, OtherSat.low (K := K) (L := K.reset n) (n := 0) (fun _ _ _ h => h) (Nat.zero_le _) (fun _ _ h => absurd h (by omega)) (fun _ _ h => absurd h (by omega)) (fun _ h => absurd h (by omega)) hlo h3⟩
  · obtain ⟨q, hq, ho, rfl, hv⟩ := get o p hp
    have := h.lo o q hq hlv (by rw [hv]; exact hC)
    rw [hv] at this
    exact this
  · obtain ⟨q, hq, ho, rfl, hv⟩ := get o p hp
    obtain ⟨q', hq', ho', rfl, hv'⟩ := get o' p' hp'
    have := h.dis o o' q q' hq hq' hlv hlv' (by rw [hv]; exact hC) (by rw [hv']; exact hC') hne
    rw [hv, hv'] at this
    exact this

/-- Slots that are kept behind a reset. -/
inductive SubR (n : Nat) (objs : Objs) (s : List (Nat × AVal)) : List (Nat × AVal) → Prop where
  | nil : SubR n objs s []
  | cons (t : Nat) (v : AVal) (r : List (Nat × AVal)) (h : getSlot s t = v) (hl : Low 0 v) (hr : SubR n objs s r) : SubR n objs s ((t, v) :: r)
  | own (t : Nat) (o ver k off len len' : Nat) (p : AObj) (r : List (Nat × AVal)) (h : getSlot s t = .own o ver k off len) (hp : objs[o]? = some (ver, p)) (ho : o < n) (hl : len = len') (hr : SubR n objs s r) : SubR n objs s ((t, .own o 0 k off len') :: r)
  | ptr (t : Nat) (o ver k i j : Nat) (p : AObj) (r : List (Nat × AVal)) (h : getSlot s t = .ptr o ver k i j) (hp : objs[o]? = some (ver, p)) (ho : o < n) (hr : SubR n objs s r) : SubR n objs s ((t, .ptr o 0 k i j) :: r)

theorem SubR.get {n : Nat} {objs : Objs} {s s' : List (Nat × AVal)} (h : SubR n objs s s') {K : Ctx} {w : World} (hm : MemSat K objs w) (t : Nat) (v : Value) (hv : Rep K (getSlot s t) v) : Rep (K.reset n) (getSlot s' t) v := by
  induction h with
  | nil => exact .any _
  | cons t' x r h hl _ ih =>
    rw [getSlot_cons]
    by_cases ht : t' = t
    · subst ht; rw [if_pos rfl]; rw [h] at hv; exact Rep.low0 (K := K) (L := K.reset n) (fun _ _ _ h => h) hv hl
    · rw [if_neg ht]; exact ih
  | own t' o ver k off len len' p r h hp ho hl _ ih =>
    rw [getSlot_cons]
    by_cases ht : t' = t
    · subst ht hl; rw [if_pos rfl]; rw [h] at hv
      have hver := hm.ver o _ hp
      have hver : ver = K.vs o := hver
      obtain ⟨_, _, hcase⟩ := rep_own hv
      rcases hcase with ⟨rfl, rfl, rfl⟩ | ⟨a, c, rfl, q1, q2, q3⟩
      · exact .ownNil _ _ _ ho (Nat.zero_le _)
      · exact .own _ _ _ _ _ ho (Nat.zero_le _) a c q1 (by show off + c ≤ K.C o (K.vs o); rw [← hver]; exact q2) (by show c ≠ 0 → a = ⟨K.ρ o (K.vs o), off * k, none⟩; rw [← hver]; exact q3)
    · rw [if_neg ht]; exact ih
  | ptr t' o ver k i j p r h hp ho _ ih =>
    rw [getSlot_cons]
    by_cases ht : t' = t
    · subst ht; rw [if_pos rfl]; rw [h] at hv
      have hver := hm.ver o _ hp
      have hver : ver = K.vs o := hver
      cases hv
      rw [hver]
      exact .ptr (K := K.reset n) o 0 k i j ho (Nat.zero_le _)
    · rw [if_neg ht]; exact ih

/-- At a loop's head: the first n objects are kept, each as of its first version. -/
theorem weaker_reset {nt : Nat} {s s' : List (Nat × AVal)} {o : Objs} (n : Nat) (hn : n ≤ o.length) (hl : ∀ i p, o[i]? = some p → i < n → LowObj 0 p.2) (hs : SubR n o s s') : Weaker nt 0 ⟨s, o⟩ ⟨s', resetO n o⟩ := by
  intro K0 K a w h0 hle hsat
  exact ⟨K.reset n, ⟨hle.M, fun o v ho => absurd ho (by omega), fun o v ho => absurd ho (by omega), by simp [h0], fun o ho => absurd ho (by omega), hle.w0, hle.B, hle.M0⟩, hsat.mem.reset n hn hl, fun t => hs.get hsat.mem t _ (hsat.slot t), hsat.size, hsat.defers⟩

theorem lowRow {α : Type} {c : α → List AVal} {t : TypeId} {k : Nat} {l : List α} (h : ∀ x, (c x).all low0 = true) : LowObj 0 (.row t k (l.map c)) := by
  intro e he x hx
  obtain ⟨y, _, rfl⟩ := List.mem_map.1 he
  exact low0_sound (List.all_eq_true.1 (h y) x hx)

theorem low_first {p0 : Nat × AObj} {rest : Objs} (h : LowObj 0 p0.2) : ∀ i p, (p0 :: rest)[i]? = some p → i < 1 → LowObj 0 p.2 := by
  intro i p hp hi
  have : i = 0 := by omega
  subst this
  simp only [List.getElem?_cons_zero, Option.some.injEq] at hp
  rw [← hp]
  exact h

theorem lowRow' {α : Type} {c : α → List AVal} {t : TypeId} {k : Nat} {es : List (List AVal)} (l : List α) (he : es = l.map c) (h : ∀ x, (c x).all low0 = true) : LowObj 0 (.row t k es) := by
  subst he
  exact lowRow h

/-- A loop's invariant, told by what is carried from round to round. -/
def LoopI {X : Type} (inv : X → Prop) (ms : X → Nat) (sl : X → List (Nat × AVal)) (ob : X → Objs) : Nat → List (Nat × AVal) → Objs → Prop := fun m s o => ∃ x, inv x ∧ m = ms x ∧ s = sl x ∧ o = ob x

theorem loop_next {X : Type} {inv : X → Prop} {ms : X → Nat} {sl : X → List (Nat × AVal)} {ob : X → Objs} {nt n0 m : Nat} {s : St} (x : X) (hlt : ms x < m) (hw : Weaker nt n0 s ⟨sl x, ob x⟩) (hi : inv x) :
    ∃ m' s'' o'', m' < m ∧ Weaker nt n0 s ⟨s'', o''⟩ ∧ LoopI inv ms sl ob m' s'' o'' := ⟨ms x, sl x, ob x, hlt, hw, x, hi, rfl, rfl, rfl⟩

theorem loop_start {X : Type} (inv : X → Prop) (ms : X → Nat) (sl : X → List (Nat × AVal)) (ob : X → Objs) (x : X) {nt n0 : Nat} {s : St} {B : (Nat → List (Nat × AVal) → Objs → Prop) → Nat → List (Nat × AVal) → Objs → Prop} (hw : Weaker nt n0 s ⟨sl x, ob x⟩) (hi : inv x)
    (hb : ∀ x, inv x → B (LoopI inv ms sl ob) (ms x) (sl x) (ob x)) : ∃ I n s1 o1, Weaker nt n0 s ⟨s1, o1⟩ ∧ I n s1 o1 ∧ ∀ m s o, I m s o → B I m s o :=
  ⟨LoopI inv ms sl ob, ms x, sl x, ob x, hw, ⟨x, hi, rfl, rfl, rfl⟩, by rintro _ _ _ ⟨y, hy, rfl, rfl, rfl⟩; exact hb y hy⟩

/-- Where ways are joined: what is known there. -/
def JoinI {X : Type} (inv : X → Prop) (sl : X → List (Nat × AVal)) (ob : X → Objs) : List (Nat × AVal) → Objs → Prop := fun s o => ∃ x, inv x ∧ s = sl x ∧ o = ob x

theorem join_here {X : Type} {inv : X → Prop} {sl : X → List (Nat × AVal)} {ob : X → Objs} {nt n0 : Nat} {s : St} (x : X) (hw : Weaker nt n0 s ⟨sl x, ob x⟩) (hi : inv x) : ∃ s'' o'', Weaker nt n0 s ⟨s'', o''⟩ ∧ JoinI inv sl ob s'' o'' := ⟨sl x, ob x, hw, x, hi, rfl, rfl⟩

theorem join_start {X : Type} (inv : X → Prop) (sl : X → List (Nat × AVal)) (ob : X → Objs) {B : List (Nat × AVal) → Objs → Prop} {A : (List (Nat × AVal) → Objs → Prop) → Prop} (hb : ∀ x, inv x → B (sl x) (ob x)) (ha : A (JoinI inv sl ob)) : ∃ J, (∀ s o, J s o → B s o) ∧ A J :=
  ⟨JoinI inv sl ob, by rintro _ _ ⟨y, hy, rfl, rfl⟩; exact hb y hy, ha⟩

end Go.Fw
