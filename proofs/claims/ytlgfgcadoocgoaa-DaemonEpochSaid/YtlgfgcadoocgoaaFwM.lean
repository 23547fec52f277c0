/-
  The same proposition in a form that computes: values are brought to their constructors before they are kept.
-/
import Derived.Test.YtlgfgcadoocgoaaFwL
namespace Go.Fw
set_option linter.unusedSimpArgs false
set_option linter.unusedVariables false
open Go.RowKit

def forceN (n : Nat) (K : Nat → Prop) : Prop :=
  match n with
  | 0 => K 0 | 1 => K 1 | 2 => K 2 | 3 => K 3 | 4 => K 4 | 5 => K 5 | 6 => K 6 | 7 => K 7 | 8 => K 8 | 9 => K 9 | 10 => K 10 | 11 => K 11 | 12 => K 12 | 13 => K 13 | 14 => K 14 | 15 => K 15 | 16 => K 16 | 17 => K 17 | 18 => K 18 | 19 => K 19
  | 20 => K 20 | 21 => K 21 | 22 => K 22 | 23 => K 23 | 24 => K 24
  | n => K n

theorem forceN_iff {n : Nat} {K : Nat → Prop} : forceN n K ↔ K n := by unfold forceN; split <;> exact Iff.rfl

def forceV (v : Value) (K : Value → Prop) : Prop :=
  match v with
  | .bool b => K (.bool b)
  | .int k n => K (.int k n)
  | .float k b => K (.float k b)
  | .complex k a b => K (.complex k a b)
  | .string s => K (.string s)
  | .pointer a => K (.pointer a)
  | .slice a l c => K (.slice a l c)
  | .map r => K (.map r)
  | .chan r => K (.chan r)
  | .func f a b => K (.func f a b)
  | .nilFunc => K .nilFunc
  | .iface t v => K (.iface t v)
  | .nilIface => K .nilIface
  | .agg cs => K (.agg cs)
  | .tuple vs => K (.tuple vs)

theorem forceV_iff {v : Value} {K : Value → Prop} : forceV v K ↔ K v := by cases v <;> exact Iff.rfl

/-- A value of one cell. -/
def force0 (v : AVal) (K : AVal → Prop) : Prop :=
  match v with
  | .any => K .any
  | .lit x => forceV x fun x => K (.lit x)
  | .agg cs => K (.agg cs)
  | .tup cs => K (.tup cs)
  | .seq k n t f => K (.seq k n t f)
  | .ref cs => K (.ref cs)
  | .ptr o ver k i j => forceN o fun o => forceN ver fun ver => forceN i fun i => forceN j fun j => K (.ptr o ver k i j)
  | .own o ver k off len => forceN o fun o => forceN ver fun ver => K (.own o ver k off len)
  | .fn f a b => K (.fn f a b)
  | .ifc t a => K (.ifc t a)
  | .map o => forceN o fun o => K (.map o)

theorem force0_iff {v : AVal} {K : AVal → Prop} : force0 v K ↔ K v := by
  cases v <;> simp only [force0, forceV_iff, forceN_iff]

def forceL0 : List AVal → (List AVal → Prop) → Prop
  | [], K => K []
  | a :: r, K => force0 a fun a => forceL0 r fun r => K (a :: r)

theorem forceL0_iff : ∀ {l : List AVal} {K : List AVal → Prop}, forceL0 l K ↔ K l
  | [], K => Iff.rfl
  | a :: r, K => by simp only [forceL0, force0_iff, forceL0_iff]

def force1 (v : AVal) (K : AVal → Prop) : Prop :=
  match v with
  | .agg cs => forceL0 cs fun cs => K (.agg cs)
  | .fn f a b => forceL0 a fun a => forceL0 b fun b => K (.fn f a b)
  | .ifc t a => force0 a fun a => K (.ifc t a)
  | v => force0 v K

theorem force1_iff {v : AVal} {K : AVal → Prop} : force1 v K ↔ K v := by
  cases v <;> simp only [force1, force0_iff, forceL0_iff]

def forceL1 : List AVal → (List AVal → Prop) → Prop
  | [], K => K []
  | a :: r, K => force1 a fun a => forceL1 r fun r => K (a :: r)

theorem forceL1_iff : ∀ {l : List AVal} {K : List AVal → Prop}, forceL1 l K ↔ K l
  | [], K => Iff.rfl
  | a :: r, K => by simp only [forceL1, force1_iff, forceL1_iff]

def forceA (v : AVal) (K : AVal → Prop) : Prop :=
  match v with
  | .tup cs => forceL1 cs fun cs => K (.tup cs)
  | v => force1 v K

theorem forceA_iff {v : AVal} {K : AVal → Prop} : forceA v K ↔ K v := by
  cases v <;> simp only [forceA, force1_iff, forceL1_iff]

/-- An object's cells, if it is a variable's. -/
def forceE (es : List (List AVal)) (K : List (List AVal) → Prop) : Prop :=
  match es with
  | [e] => forceL0 e fun e => K [e]
  | es => K es

theorem forceE_iff {es : List (List AVal)} {K : List (List AVal) → Prop} : forceE es K ↔ K es := by
  unfold forceE
  split
  · exact forceL0_iff
  · exact Iff.rfl

/-- The objects' list, brought to its constructors; the cells of number n too. -/
def forceO : Option Nat → Objs → (Objs → Prop) → Prop
  | _, [], K => K []
  | some 0, (ver, .row t k es) :: r, K => forceE es fun es => forceO none r fun r => K ((ver, .row t k es) :: r)
  | some (n + 1), (ver, p) :: r, K => forceO (some n) r fun r => K ((ver, p) :: r)
  | _, (ver, p) :: r, K => forceN ver fun ver => forceO none r fun r => K ((ver, p) :: r)

theorem forceO_iff {l : Objs} : ∀ {o : Option Nat} {K : Objs → Prop}, forceO o l K ↔ K l := by
  induction l with
  | nil => intro o K; cases o with
    | none => simp [forceO]
    | some n => cases n <;> simp [forceO]
  | cons p r ih =>
    intro o K
    obtain ⟨ver, p⟩ := p
    cases o with
    | none => simp only [forceO, forceN_iff, ih]
    | some n => cases n with
      | zero => cases p with
        | dead => simp only [forceO, forceN_iff, ih]
        | row t k es => simp only [forceO, forceE_iff, ih]
      | succ n => simp only [forceO, ih]

/-- The slots behind a region, step by step. -/
def cfilt (loc : Loc) : List (Nat × AVal) → (List (Nat × AVal) → Prop) → Prop
  | [], K => K []
  | (t, v) :: r, K => match findL loc t with | some _ => cfilt loc r K | none => cfilt loc r fun r => K ((t, v) :: r)

theorem cfilt_iff {loc : Loc} : ∀ {l : List (Nat × AVal)} {K : List (Nat × AVal) → Prop}, cfilt loc l K ↔ K (filtL loc l)
  | [], K => Iff.rfl
  | (t, v) :: r, K => by
    simp only [cfilt, filtL]
    cases findL loc t with
    | some e => exact cfilt_iff
    | none => exact cfilt_iff

def ckeep (keep : Nat → Bool) : Loc → List (Nat × AVal) → (List (Nat × AVal) → Prop) → Prop
  | [], s, K => K s
  | (t, g, v) :: r, s, K => match g.isNone && keep t with | true => ckeep keep r s fun s => K ((t, v) :: s) | false => ckeep keep r s K

theorem ckeep_iff {keep : Nat → Bool} : ∀ {loc : Loc} {s : List (Nat × AVal)} {K : List (Nat × AVal) → Prop}, ckeep keep loc s K ↔ K (keepL keep loc s)
  | [], s, K => Iff.rfl
  | (t, g, v) :: r, s, K => by
    simp only [ckeep, keepL]
    cases g.isNone && keep t with
    | true => exact ckeep_iff
    | false => exact ckeep_iff

def cmerge (keep : Nat → Bool) (slots : List (Nat × AVal)) (loc : Loc) (K : List (Nat × AVal) → Prop) : Prop := cfilt loc slots fun s => ckeep keep loc s K

theorem cmerge_iff {keep : Nat → Bool} {slots : List (Nat × AVal)} {loc : Loc} {K : List (Nat × AVal) → Prop} : cmerge keep slots loc K ↔ K (mergeL keep slots loc) := by
  unfold cmerge mergeL
  rw [cfilt_iff, ckeep_iff]

def cput (nt : Nat) (loc : Loc) (G : Gs) (objs : Objs) (cur : Option Tag) (dst : Option Tmp) (v : AVal) (K : Loc → Gs → Objs → Prop) : Prop :=
  match dst with
  | none => K loc G objs
  | some d => (match Nat.blt d nt && (findL loc d).isNone with | true => forceA v fun v => K ((d, cur, v) :: loc) G objs | false => False)

def ceff (o : Oper) (look : Operand → AVal) (objs objs' : Objs) (K : Objs → Prop) : Prop :=
  match o.op with
  | .alloc _ => forceO (some objs.length) objs' K
  | .box _ _ => forceO (some objs.length) objs' K
  | .store _ a _ => (match look a with | .ptr n _ _ _ _ => forceO (some n) objs' K | _ => forceO none objs' K)
  | _ => forceO none objs' K

theorem ceff_iff {o : Oper} {look : Operand → AVal} {objs objs' : Objs} {K : Objs → Prop} : ceff o look objs objs' K ↔ K objs' := by
  unfold ceff
  split
  · exact forceO_iff
  · exact forceO_iff
  · split <;> exact forceO_iff
  · exact forceO_iff

def cstep (P : Program) (nt : Nat) (ops : Array Oper) (slots : List (Nat × AVal)) (draw : Bool) (o : Oper) (cur : Option Tag) (gb : Bool) (loc : Loc) (G : Gs) (objs : Objs) (K : Loc → Gs → Objs → Prop) : Prop :=
  match o.op with
  | .pick c x y => (match pickA ops slots ⟨loc, G, objs⟩ cur c x y with | some v => cput nt loc G objs cur o.dst v K | none => False)
  | _ =>
    match evalOp P (lookR ops slots loc cur) objs o with
    | .bad => False
    | .val v => cput nt loc G objs cur o.dst v K
    | .ifb b v => (gb = true → b = true) ∧ cput nt loc G objs cur o.dst v K
    | .eff b v objs' => (match cur with | none => b = true ∧ ceff o (lookR ops slots loc cur) objs objs' fun objs' => cput nt loc G objs' none o.dst v K | some _ => False)
    | .upd v objs' => (match cur with | none => ceff o (lookR ops slots loc cur) objs objs' fun objs' => cput nt loc G objs' none o.dst v K | some _ => False)
    | .call f args =>
      (match cur, draw with
       | none, false => forceL1 args fun args => ACalls P f args objs fun r objs' => cput nt loc G objs' none o.dst r K
       | _, _ => forceL1 args fun args => ∃ r, (gb = true → AGives P f args objs r) ∧ cput nt loc G objs cur o.dst r K)

/-- The value of a guard, and the guards known then. -/
def cgOf (ops : Array Oper) (loc : Loc) (G : Gs) (g : Tag) : Option (Bool × Gs) :=
  match findG G g with
  | some b => some (b, G)
  | none =>
    match ops[g.1]? with
    | some o =>
      (match o.dst with
       | some d =>
         (match findL loc d with
          | some (none, .lit (.bool b)) =>
            bif o.guard.isNone then some (bif g.2 then b else !b, (g, bif g.2 then b else !b) :: G) else none
          | some (some h, .lit (.bool b)) =>
            (match o.guard, findG G h with
             | some h', some hb => bif tagEq h' h then some (hb && (bif g.2 then b else !b), (g, hb && (bif g.2 then b else !b)) :: G) else none
             | _, _ => none)
          | _ => none)
       | none => none)
    | none => none

theorem cgOf_some {ops : Array Oper} {loc : Loc} {G G' : Gs} {objs : Objs} {g : Tag} {gb : Bool} (h : cgOf ops loc G g = some (gb, G')) : gOf ops ⟨loc, G, objs⟩ g = some (gb, ⟨loc, G', objs⟩) := by
  unfold cgOf at h
  unfold gOf
  split at h
  · rename_i b hb
    simp only [Option.some.injEq, Prod.mk.injEq] at h
    obtain ⟨rfl, rfl⟩ := h
    simp only [hb]
  · rename_i hn
    simp only [hn]
    split at h
    · rename_i o ho
      simp only [ho]
      split at h
      · rename_i d hd
        simp only [hd]
        split at h
        · rename_i b hf
          simp only [hf]
          cases hg : o.guard.isNone with
          | true =>
            rw [hg] at h
            simp only [cond_true, Option.some.injEq, Prod.mk.injEq] at h
            obtain ⟨rfl, rfl⟩ := h
            rfl
          | false => rw [hg] at h; cases h
        · rename_i c b hf
          simp only [hf]
          split at h
          · rename_i c' hb hoc hfc
            simp only [hoc, hfc]
            cases ht : tagEq c' c with
            | true =>
              rw [ht] at h
              simp only [cond_true, Option.some.injEq, Prod.mk.injEq] at h
              obtain ⟨rfl, rfl⟩ := h
              rfl
            | false => rw [ht] at h; cases h
          · cases h
        · cases h
      · cases h
    · cases h

def cops (P : Program) (nt : Nat) (ops : Array Oper) (slots : List (Nat × AVal)) (draw : Bool) : List Oper → Loc → Gs → Objs → (Loc → Gs → Objs → Prop) → Prop
  | [], loc, G, objs, K => K loc G objs
  | o :: rest, loc, G, objs, K =>
    match o.guard with
    | none => cstep P nt ops slots draw o none true loc G objs fun loc G objs => cops P nt ops slots draw rest loc G objs K
    | some g =>
      (match cgOf ops loc G g with
       | some (gb, G) => cstep P nt ops slots draw o (some g) gb loc G objs fun loc G objs => cops P nt ops slots draw rest loc G objs K
       | none => False)

/-- A list of numbers, brought to numerals. -/
def forceB (n : Nat) (K : Nat → Prop) : Prop :=
  match n with
  | 0 => K 0
  | m + 1 => K (m + 1)

theorem forceB_iff {n : Nat} {K : Nat → Prop} : forceB n K ↔ K n := by cases n <;> exact Iff.rfl

def forceNL : List Nat → (List Nat → Prop) → Prop
  | [], K => K []
  | n :: r, K => forceB n fun n => forceNL r fun r => K (n :: r)

theorem forceNL_iff : ∀ {l : List Nat} {K : List Nat → Prop}, forceNL l K ↔ K l
  | [], K => Iff.rfl
  | n :: r, K => by simp only [forceNL, forceB_iff, forceNL_iff]

def effList (ops : Array Oper) (ms : List Nat) : List Nat := (List.range ops.size).filter fun i => effAt ops ms i

def okPosL (ms effs : List Nat) (i p : Nat) : Bool := effs.all fun j => (!bit ms i j || Nat.blt j p) && (!bit ms j i || Nat.ble p j)

theorem okPosL_of {ops : Array Oper} {ms : List Nat} {i p : Nat} (h : okPos ops ms i p = true) : okPosL ms (effList ops ms) i p = true := by
  simp only [okPos, List.all_eq_true, List.mem_range] at h
  simp only [okPosL, effList, List.all_eq_true, List.mem_filter, List.mem_range]
  rintro j ⟨hj, ej⟩
  have := h j hj
  rw [ej] at this
  simpa using this

/-- What is still owed of a reader: that it reads the same at other places. -/
def cown (ms effs : List Nat) (i own : Nat) (f : Objs → Prop) : List (Nat × Objs) → Prop → Prop
  | [], K => K
  | (p, o) :: r, K => match okPosL ms effs i p && !Nat.beq p own with | true => f o ∧ cown ms effs i own f r K | false => cown ms effs i own f r K

def cfin (ms effs : List Nat) (Bs : List (Nat × Objs)) : List (Nat × Nat × (Objs → Prop)) → Prop → Prop
  | [], K => K
  | (i, own, f) :: r, K => cown ms effs i own f Bs (cfin ms effs Bs r K)

abbrev DK := Loc → Gs → Objs → List (Nat × Objs) → List (Nat × Nat × (Objs → Prop)) → Prop

def cdstep (P : Program) (nt : Nat) (ops : Array Oper) (slots : List (Nat × AVal)) (effs : List Nat) (i : Nat) (o : Oper) (cur : Option Tag) (gb : Bool) (own : Nat) (loc : Loc) (G : Gs) (objs : Objs) (Bs : List (Nat × Objs)) (Rd : List (Nat × Nat × (Objs → Prop))) (K : DK) : Prop :=
  match o.op with
  | .pick c x y => (match pickA ops slots ⟨loc, G, objs⟩ cur c x y with | some v => cput nt loc G objs cur o.dst v fun loc G objs => K loc G objs Bs Rd | none => False)
  | _ =>
    match evalOp P (lookR ops slots loc cur) objs o with
    | .bad => False
    | .val v => (match loadKind o.op with
      | true => cput nt loc G objs cur o.dst v fun loc' G objs => K loc' G objs Bs ((i, own, fun o' => evalOp P (lookR ops slots loc cur) o' o = .val v) :: Rd)
      | false => cput nt loc G objs cur o.dst v fun loc G objs => K loc G objs Bs Rd)
    | .ifb b v => (gb = true → b = true) ∧ cput nt loc G objs cur o.dst v fun loc G objs => K loc G objs Bs Rd
    | .eff b v objs' => (match cur with | none => b = true ∧ ceff o (lookR ops slots loc cur) objs objs' fun objs' => cput nt loc G objs' none o.dst v fun loc G objs => K loc G objs ((i + 1, objs) :: Bs) Rd | some _ => False)
    | .upd v objs' => (match cur with | none => ceff o (lookR ops slots loc cur) objs objs' fun objs' => cput nt loc G objs' none o.dst v fun loc G objs => K loc G objs ((i + 1, objs) :: Bs) Rd | some _ => False)
    | .call f args => forceL1 args fun args =>
      (match effs.any fun j => Nat.beq j i with
       | true => (match cur with
         | none => ∃ r objs', ACalls P f args objs (fun r' o' => r' = r ∧ o' = objs') ∧ cput nt loc G objs' none o.dst r fun loc G objs => K loc G objs ((i + 1, objs) :: Bs) Rd
         | some g => ∃ r, (gb = true → AGives P f args objs r) ∧ cput nt loc G objs (some g) o.dst r fun loc G objs => K loc G objs ((i + 1, objs) :: Bs) Rd)
       | false => ∃ r, (gb = true → AGives P f args objs r) ∧ cput nt loc G objs cur o.dst r fun loc G objs => K loc G objs Bs ((i, own, fun o' => gb = true → AGives P f args o' r) :: Rd))

/-- The last place ahead of which an effect has run. -/
def lastB : List (Nat × Objs) → Nat
  | [] => 0
  | (p, _) :: _ => p

def cdops (P : Program) (nt : Nat) (ops : Array Oper) (slots : List (Nat × AVal)) (ms effs : List Nat) : Nat → List Oper → Loc → Gs → Objs → List (Nat × Objs) → List (Nat × Nat × (Objs → Prop)) → (Loc → Objs → Prop) → Prop
  | _, [], loc, _, objs, Bs, Rd, K => cfin ms effs Bs Rd (K loc objs)
  | i, o :: rest, loc, G, objs, Bs, Rd, K =>
    match o.guard with
    | none => cdstep P nt ops slots effs i o none true (lastB Bs) loc G objs Bs Rd fun loc G objs Bs Rd => cdops P nt ops slots ms effs (i + 1) rest loc G objs Bs Rd K
    | some g =>
      (match cgOf ops loc G g with
       | some (gb, G) => cdstep P nt ops slots effs i o (some g) gb (lastB Bs) loc G objs Bs Rd fun loc G objs Bs Rd => cdops P nt ops slots ms effs (i + 1) rest loc G objs Bs Rd K
       | none => False)

def cdraw (P : Program) (nt : Nat) (ops : Array Oper) (slots : List (Nat × AVal)) (objs : Objs) (K : Loc → Objs → Prop) : Prop :=
  (P.follows .mixedOrders && drawCheck ops (masks ops)) = true ∧ forceNL (masks ops) fun ms => forceNL (effList ops ms) fun effs => cdops P nt ops slots ms effs 0 ops.toList [] [] objs [(0, objs)] [] K

def CQ := AExit → List (Nat × AVal) → Objs → Prop

def cwp (P : Program) (nt n0 : Nat) (keep : Nat → Bool) : Code → CQ → List (Nat × AVal) → Objs → Prop
  | .skip, Q, s, o => Q .normal s o
  | .region _ ops draw, Q, s, o =>
    (match draw with
     | false => cops P nt ops s false ops.toList [] [] o fun loc _ o => cmerge keep s loc fun s => Q .normal s o
     | true => cdraw P nt ops s o fun loc o => cmerge keep s loc fun s => Q .normal s o)
  | .seq a b, Q, s, o =>
    (match keep (1000000 + firstId b) with
     | true => cwp P nt n0 keep a (fun e s o => match e with | .normal => cwp P nt n0 keep b Q s o | e => Q e s o) s o
     | false => ∃ J : List (Nat × AVal) → Objs → Prop, (∀ s o, J s o → cwp P nt n0 keep b Q s o) ∧ cwp P nt n0 keep a (fun e s o => match e with | .normal => ∃ s' o', Weaker nt n0 ⟨s, o⟩ ⟨s', o'⟩ ∧ J s' o' | e => Q e s o) s o)
  | .cond c x y, Q, s, o =>
    (match lookO ⟨s, o⟩ c with
     | .lit (.bool b) => (b = true → cwp P nt n0 keep x Q s o) ∧ (b = false → cwp P nt n0 keep y Q s o)
     | _ => False)
  | .block id body, Q, s, o => cwp P nt n0 keep body (fun e s o => match e with | .exit i => (match Nat.beq i id with | true => Q .normal s o | false => Q (.exit i) s o) | e => Q e s o) s o
  | .loop body, Q, s, o => ∃ (I : Nat → List (Nat × AVal) → Objs → Prop) (n : Nat) (s1 : List (Nat × AVal)) (o1 : Objs), Weaker nt n0 ⟨s, o⟩ ⟨s1, o1⟩ ∧ I n s1 o1 ∧ ∀ m s o, I m s o → cwp P nt n0 keep body (fun e s o => match e with | .normal => ∃ m' s' o', m' < m ∧ Weaker nt n0 ⟨s, o⟩ ⟨s', o'⟩ ∧ I m' s' o' | e => Q e s o) s o
  | .exit id, Q, s, o => Q (.exit id) s o
  | .label _, Q, s, o => Q .normal s o
  | .goto l, Q, s, o => Q (.goto l) s o
  | .ret, Q, s, o => Q .ret s o
  | _, _, _, _ => False

section
variable {P : Program} {nt n0 : Nat} {keep : Nat → Bool}

theorem cput_iff {loc : Loc} {G : Gs} {objs : Objs} {cur : Option Tag} {dst : Option Tmp} {v : AVal} {K : Loc → Gs → Objs → Prop} : cput nt loc G objs cur dst v K ↔ PutK nt ⟨loc, G, objs⟩ cur dst v fun r => K r.loc r.G r.objs := by
  unfold cput PutK putR
  cases dst with
  | none => exact Iff.rfl
  | some d =>
    simp only
    cases Nat.blt d nt && (findL loc d).isNone with
    | true => simp only [forceA_iff, cond_true]
    | false => exact Iff.rfl

theorem cstep_step {ops : Array Oper} {slots : List (Nat × AVal)} {draw : Bool} {o : Oper} {cur : Option Tag} {gb : Bool} {loc : Loc} {G : Gs} {objs : Objs} {K : Loc → Gs → Objs → Prop}
    (h : cstep P nt ops slots draw o cur gb loc G objs K) : stepOp P nt ops slots draw o cur gb ⟨loc, G, objs⟩ fun r => K r.loc r.G r.objs := by
  unfold cstep at h
  unfold stepOp
  split at h
  · rename_i c x y hop
    simp only [hop]
    split at h
    · rename_i v hv; simp only [hv]; exact cput_iff.1 h
    · exact h.elim
  · rename_i hne
    split
    · rename_i c x y hop; exact (hne c x y hop).elim
    · split at h
      · exact h.elim
      · rename_i v he; simp only [he]; exact cput_iff.1 h
      · rename_i b v he; simp only [he]; exact ⟨h.1, cput_iff.1 h.2⟩
      · rename_i b v o' he
        simp only [he]
        split at h
        · rw [ceff_iff, cput_iff] at h; exact h
        · exact h.elim
      · rename_i v o' he
        simp only [he]
        split at h
        · rw [ceff_iff, cput_iff] at h; exact h
        · exact h.elim
      · rename_i f args he
        simp only [he]
        split at h
        · rw [forceL1_iff] at h
          exact h.mono fun r o' hr => cput_iff.1 hr
        · rw [forceL1_iff] at h
          rename_i hne2
          split
          · exact (hne2 rfl rfl).elim
          · obtain ⟨r, h1, h2⟩ := h
            exact ⟨r, h1, cput_iff.1 h2⟩

theorem cops_ops {ops : Array Oper} {slots : List (Nat × AVal)} {draw : Bool} {K : Loc → Gs → Objs → Prop} : ∀ {l : List Oper} {loc : Loc} {G : Gs} {objs : Objs},
    cops P nt ops slots draw l loc G objs K → awpOps P nt ops slots draw l ⟨loc, G, objs⟩ fun r => K r.loc r.G r.objs
  | [], loc, G, objs, h => h
  | o :: rest, loc, G, objs, h => by
    simp only [cops] at h
    simp only [awpOps]
    split at h
    · rename_i hg
      simp only [hg]
      exact stepOp_mono (fun r hr => cops_ops hr) (cstep_step h)
    · rename_i g hg
      simp only [hg]
      split at h
      · rename_i gb G' hgo
        simp only [cgOf_some hgo]
        exact stepOp_mono (fun r hr => cops_ops hr) (cstep_step h)
      · exact h.elim

theorem awpOps_mono {ops : Array Oper} {slots : List (Nat × AVal)} {draw : Bool} {K K' : RSt → Prop} (hk : ∀ r, K r → K' r) : ∀ {l : List Oper} {rs : RSt}, awpOps P nt ops slots draw l rs K → awpOps P nt ops slots draw l rs K'
  | [], rs, h => hk rs h
  | o :: rest, rs, h => by
    simp only [awpOps] at h ⊢
    split
    · rename_i hg
      simp only [hg] at h
      exact stepOp_mono (fun r hr => awpOps_mono hk hr) h
    · rename_i g hg
      simp only [hg] at h
      split
      · rename_i gb rs1 hgo
        simp only [hgo] at h
        exact stepOp_mono (fun r hr => awpOps_mono hk hr) h
      · rename_i hgo
        simp only [hgo] at h

theorem awp_mono (c : Code) : ∀ (Q Q' : AExit → St → Prop) (s : St), (∀ e s, Q e s → Q' e s) → awp P nt n0 keep c Q s → awp P nt n0 keep c Q' s := by
  induction c with
  | skip => exact fun Q Q' s hq h => hq _ _ h
  | label l => exact fun Q Q' s hq h => hq _ _ h
  | exit id => exact fun Q Q' s hq h => hq _ _ h
  | goto l => exact fun Q Q' s hq h => hq _ _ h
  | ret => exact fun Q Q' s hq h => hq _ _ h
  | refuse why => exact fun Q Q' s hq h => h
  | scope b _ => exact fun Q Q' s hq h => h
  | rangeFunc f ps x y _ _ => exact fun Q Q' s hq h => h
  | region id ops draw =>
    intro Q Q' s hq h
    cases draw with
    | false => exact awpOps_mono (fun r hr => hq _ _ hr) h
    | true =>
      obtain ⟨h1, h2, tr, h3, h4, h5⟩ := h
      exact ⟨h1, h2, tr, h3, h4, hq _ _ h5⟩
  | seq x y ihx ihy =>
    intro Q Q' s hq h
    simp only [awp] at h ⊢
    split
    · rename_i hk
      rw [hk] at h
      refine ihx _ _ s ?_ h
      intro e s hs
      cases e with
      | normal => exact ihy Q Q' s hq hs
      | exit id => exact hq _ _ hs
      | goto l => exact hq _ _ hs
      | ret => exact hq _ _ hs
    · rename_i hk
      rw [hk] at h
      obtain ⟨J, hJ, h⟩ := h
      refine ⟨J, fun s hs => ihy Q Q' s hq (hJ s hs), ihx _ _ s ?_ h⟩
      intro e s hs
      cases e with
      | normal => exact hs
      | exit id => exact hq _ _ hs
      | goto l => exact hq _ _ hs
      | ret => exact hq _ _ hs
  | cond c x y ihx ihy =>
    intro Q Q' s hq h
    simp only [awp] at h ⊢
    split
    · rename_i b hb
      rw [hb] at h
      exact ⟨fun ht => ihx Q Q' s hq (h.1 ht), fun hf => ihy Q Q' s hq (h.2 hf)⟩
    · rename_i hne
      split at h
      · rename_i b hb; exact (hne b hb).elim
      · exact h
  | block id body ih =>
    intro Q Q' s hq h
    refine ih _ _ s ?_ h
    intro e s hs
    cases e with
    | normal => exact hq _ _ hs
    | exit i =>
      simp only at hs ⊢
      split
      · rename_i hb; rw [hb] at hs; exact hq _ _ hs
      · rename_i hb; rw [hb] at hs; exact hq _ _ hs
    | goto l => exact hq _ _ hs
    | ret => exact hq _ _ hs
  | loop body ih =>
    intro Q Q' s hq h
    obtain ⟨I, n, s1, hw, hI, hr⟩ := h
    refine ⟨I, n, s1, hw, hI, fun m s hm => ih _ _ s ?_ (hr m s hm)⟩
    intro e s hs
    cases e with
    | normal => exact hs
    | exit id => exact hq _ _ hs
    | goto l => exact hq _ _ hs
    | ret => exact hq _ _ hs

theorem cown_spec {ms effs : List Nat} {i own : Nat} {f : Objs → Prop} {K : Prop} : ∀ {Bs : List (Nat × Objs)}, cown ms effs i own f Bs K → K ∧ ∀ p o, (p, o) ∈ Bs → okPosL ms effs i p = true → p ≠ own → f o
  | [], h => ⟨h, fun p o hm => by simp at hm⟩
  | (p, o) :: r, h => by
    simp only [cown] at h
    split at h
    · obtain ⟨h1, h2⟩ := h
      obtain ⟨h3, h4⟩ := cown_spec h2
      refine ⟨h3, fun p' o' hm hk hne => ?_⟩
      rcases List.mem_cons.1 hm with e | hm
      · simp only [Prod.mk.injEq] at e; obtain ⟨rfl, rfl⟩ := e; exact h1
      · exact h4 p' o' hm hk hne
    · rename_i hb
      obtain ⟨h3, h4⟩ := cown_spec h
      refine ⟨h3, fun p' o' hm hk hne => ?_⟩
      rcases List.mem_cons.1 hm with e | hm
      · simp only [Prod.mk.injEq] at e
        obtain ⟨rfl, rfl⟩ := e
        rw [hk] at hb
        simp only [Bool.true_and, Bool.not_eq_false'] at hb
        exact absurd (Nat.eq_of_beq_eq_true hb) hne
      · exact h4 p' o' hm hk hne

theorem cfin_spec {ms effs : List Nat} {Bs : List (Nat × Objs)} {K : Prop} : ∀ {Rd : List (Nat × Nat × (Objs → Prop))}, cfin ms effs Bs Rd K → K ∧ ∀ i own f, (i, own, f) ∈ Rd → ∀ p o, (p, o) ∈ Bs → okPosL ms effs i p = true → p ≠ own → f o
  | [], h => ⟨h, fun i own f hm => by simp at hm⟩
  | (i, own, f) :: r, h => by
    simp only [cfin] at h
    obtain ⟨h1, h2⟩ := cown_spec h
    obtain ⟨h3, h4⟩ := cfin_spec h1
    refine ⟨h3, fun i' own' f' hm => ?_⟩
    rcases List.mem_cons.1 hm with e | hm
    · simp only [Prod.mk.injEq] at e; obtain ⟨rfl, rfl, rfl⟩ := e; exact h2
    · exact h4 i' own' f' hm

theorem cput_obj {loc : Loc} {G : Gs} {objs : Objs} {cur : Option Tag} {dst : Option Tmp} {v : AVal} {i : Nat} {Bs : List (Nat × Objs)} {Rd : List (Nat × Nat × (Objs → Prop))} {K : DK}
    (h : PutK nt ⟨loc, G, objs⟩ cur dst v fun r => K r.loc r.G r.objs ((i + 1, r.objs) :: Bs) Rd) : PutK nt ⟨loc, G, objs⟩ cur dst v fun r => K r.loc r.G r.objs ((i + 1, objs) :: Bs) Rd := by
  obtain ⟨rs', hp, hk⟩ := PutK_some h
  obtain ⟨ho, _, _⟩ := putR_some hp
  unfold PutK
  rw [hp]
  simp only at ho
  rw [ho] at hk
  simp only
  rw [ho]
  exact hk

theorem gOf_objs {ops : Array Oper} {loc : Loc} {G : Gs} {objs : Objs} {g : Tag} {gb : Bool} {loc' : Loc} {G' : Gs} {objs' : Objs} (h : gOf ops ⟨loc, G, objs⟩ g = some (gb, ⟨loc', G', objs'⟩)) : objs' = objs := by
  unfold gOf at h
  simp only [cond_eq_ite] at h
  (repeat' split at h) <;> simp only [Option.some.injEq, Prod.mk.injEq, RSt.mk.injEq, reduceCtorEq] at h <;> first | exact h.2.2.2.symm | exact h.elim

section kinds
variable {look : Operand → AVal} {objs : Objs} {o : Oper}

theorem evalOp_val {v : AVal} (h : evalOp P look objs o = .val v) : effKind o.op = false ∧ callKind o.op = false := by
  obtain ⟨dst, op, type, pos, after, guard⟩ := o
  cases op <;> (try exact ⟨rfl, rfl⟩) <;> simp only [evalOp] at h
  case alloc t => (repeat' split at h) <;> cases h
  case box t x => (repeat' split at h) <;> cases h
  case store t a x => unfold storeA at h; simp only [cond_eq_ite] at h; (repeat' split at h) <;> cases h
  case makeSlice t l c => unfold makeSliceA at h; (repeat' split at h) <;> cases h
  case call c =>
    obtain ⟨callee, args, argTypes⟩ := c
    cases callee with
    | value f => unfold callA at h; simp only [cond_eq_ite] at h; (repeat' split at h) <;> cases h
    | invoke r m => cases h
    | builtin b =>
      cases b <;> (try exact ⟨rfl, rfl⟩)
      case append => simp only at h; unfold appendA at h; simp only [cond_eq_ite] at h; (repeat' split at h) <;> cases h

theorem evalOp_ifb {b : Bool} {v : AVal} (h : evalOp P look objs o = .ifb b v) : effKind o.op = false ∧ callKind o.op = false ∧ loadKind o.op = false := by
  obtain ⟨dst, op, type, pos, after, guard⟩ := o
  cases op <;> (try exact ⟨rfl, rfl, rfl⟩) <;> simp only [evalOp] at h
  case alloc t => (repeat' split at h) <;> cases h
  case box t x => (repeat' split at h) <;> cases h
  case load t a => unfold loadA at h; (repeat' split at h) <;> cases h
  case store t a x => unfold storeA at h; simp only [cond_eq_ite] at h; (repeat' split at h) <;> cases h
  case makeSlice t l c => unfold makeSliceA at h; (repeat' split at h) <;> cases h
  case call c =>
    obtain ⟨callee, args, argTypes⟩ := c
    cases callee with
    | value f => unfold callA at h; simp only [cond_eq_ite] at h; (repeat' split at h) <;> cases h
    | invoke r m => cases h
    | builtin b =>
      cases b <;> (try exact ⟨rfl, rfl, rfl⟩)
      case append => simp only at h; unfold appendA at h; simp only [cond_eq_ite] at h; (repeat' split at h) <;> cases h

theorem evalOp_call {f : FuncId} {args : List AVal} (h : evalOp P look objs o = .call f args) : effKind o.op = false ∧ loadKind o.op = false := by
  obtain ⟨dst, op, type, pos, after, guard⟩ := o
  cases op <;> (try exact ⟨rfl, rfl⟩) <;> simp only [evalOp] at h
  case alloc t => (repeat' split at h) <;> cases h
  case box t x => (repeat' split at h) <;> cases h
  case load t a => unfold loadA at h; (repeat' split at h) <;> cases h
  case store t a x => unfold storeA at h; simp only [cond_eq_ite] at h; (repeat' split at h) <;> cases h
  case makeSlice t l c => unfold makeSliceA at h; (repeat' split at h) <;> cases h
  case call c =>
    obtain ⟨callee, args, argTypes⟩ := c
    cases callee with
    | value f => exact ⟨rfl, rfl⟩
    | invoke r m => cases h
    | builtin b =>
      cases b <;> (try exact ⟨rfl, rfl⟩)
      case append => simp only at h; unfold appendA at h; simp only [cond_eq_ite] at h; (repeat' split at h) <;> cases h

theorem evalOp_upd {v : AVal} {objs' : Objs} (h : evalOp P look objs o = .upd v objs') : effKind o.op = true := by
  obtain ⟨dst, op, type, pos, after, guard⟩ := o
  cases op <;> (try rfl) <;> simp only [evalOp] at h
  case move x => cases h
  case assign x => cases h
  case build t ps => unfold buildA at h; simp only [cond_eq_ite] at h; (repeat' split at h) <;> cases h
  case buildSlice t n ps => unfold buildSliceA at h; simp only [cond_eq_ite] at h; (repeat' split at h) <;> cases h
  case load t a => unfold loadA at h; (repeat' split at h) <;> cases h
  case nilCheck x => (repeat' split at h) <;> cases h
  case binOp op t x y yt => unfold binA at h; (repeat' split at h) <;> cases h
  case unOp op t x => unfold pureA at h; (repeat' split at h) <;> cases h
  case convert s d x => unfold pureA at h; (repeat' split at h) <;> cases h
  case makeFunc f a b => cases h
  case slice t x lo hi mx => unfold sliceA at h; simp only [cond_eq_ite] at h; (repeat' split at h) <;> cases h
  case fieldAddr t x f => unfold fieldAddrA at h; simp only [cond_eq_ite] at h; (repeat' split at h) <;> cases h
  case field t x f => (repeat' split at h) <;> cases h
  case indexAddr t x i => unfold indexAddrA at h; simp only [cond_eq_ite] at h; (repeat' split at h) <;> cases h
  case extract x i => (repeat' split at h) <;> cases h
  case call c =>
    obtain ⟨callee, args, argTypes⟩ := c
    cases callee with
    | value f => simp only at h; unfold callA at h; simp only [cond_eq_ite] at h; (repeat' split at h) <;> cases h
    | invoke r m => cases h
    | builtin b =>
      cases b <;> (try rfl) <;> simp only at h <;> (try (cases h; done))
      case len => unfold lenA at h; (repeat' split at h) <;> cases h
      case min => unfold minmaxA at h; simp only [cond_eq_ite] at h; (repeat' split at h) <;> cases h
      case max => unfold minmaxA at h; simp only [cond_eq_ite] at h; (repeat' split at h) <;> cases h
  all_goals cases h

theorem evalOp_eff {b : Bool} {v : AVal} {objs' : Objs} (h : evalOp P look objs o = .eff b v objs') : effKind o.op = true := by
  obtain ⟨dst, op, type, pos, after, guard⟩ := o
  cases op <;> (try rfl) <;> simp only [evalOp] at h
  case move x => cases h
  case assign x => cases h
  case build t ps => unfold buildA at h; simp only [cond_eq_ite] at h; (repeat' split at h) <;> cases h
  case buildSlice t n ps => unfold buildSliceA at h; simp only [cond_eq_ite] at h; (repeat' split at h) <;> cases h
  case load t a => unfold loadA at h; (repeat' split at h) <;> cases h
  case nilCheck x => (repeat' split at h) <;> cases h
  case binOp op t x y yt => unfold binA at h; (repeat' split at h) <;> cases h
  case unOp op t x => unfold pureA at h; (repeat' split at h) <;> cases h
  case convert s d x => unfold pureA at h; (repeat' split at h) <;> cases h
  case makeFunc f a b => cases h
  case slice t x lo hi mx => unfold sliceA at h; simp only [cond_eq_ite] at h; (repeat' split at h) <;> cases h
  case fieldAddr t x f => unfold fieldAddrA at h; simp only [cond_eq_ite] at h; (repeat' split at h) <;> cases h
  case field t x f => (repeat' split at h) <;> cases h
  case indexAddr t x i => unfold indexAddrA at h; simp only [cond_eq_ite] at h; (repeat' split at h) <;> cases h
  case extract x i => (repeat' split at h) <;> cases h
  case call c =>
    obtain ⟨callee, args, argTypes⟩ := c
    cases callee with
    | value f => simp only at h; unfold callA at h; simp only [cond_eq_ite] at h; (repeat' split at h) <;> cases h
    | invoke r m => cases h
    | builtin b =>
      cases b <;> (try rfl) <;> simp only at h <;> (try (cases h; done))
      case len => unfold lenA at h; (repeat' split at h) <;> cases h
      case min => unfold minmaxA at h; simp only [cond_eq_ite] at h; (repeat' split at h) <;> cases h
      case max => unfold minmaxA at h; simp only [cond_eq_ite] at h; (repeat' split at h) <;> cases h
  all_goals cases h

end kinds

/-- A trace so far. -/
structure Pre (P : Program) (nt : Nat) (ops : Array Oper) (slots : List (Nat × AVal)) (i : Nat) (tr : Nat → RSt) (Bs : List (Nat × Objs)) (Rd : List (Nat × Nat × (Objs → Prop))) : Prop where
  loc0 : (tr 0).loc = []
  G0 : (tr 0).G = []
  step : ∀ (k : Nat) (o : Oper), k < i → ops[k]? = some o → ∃ (gb : Bool) (rs1 : RSt) (v : AVal), GuardOK ops (tr k) o gb rs1 ∧ putR nt { rs1 with objs := (tr (k + 1)).objs } o.guard o.dst v = some (tr (k + 1)) ∧
    (effAt ops (masks ops) k = true → OpGives P ops slots o o.guard gb rs1.loc rs1.G (tr k).objs v (tr (k + 1)).objs) ∧
    (effAt ops (masks ops) k = false → (tr (k + 1)).objs = (tr k).objs ∧ OpGives P ops slots o o.guard gb rs1.loc rs1.G (tr k).objs v (tr k).objs ∧
      ((∀ o', OpGives P ops slots o o.guard gb rs1.loc rs1.G o' v o') ∨ ∃ own f, (k, own, f) ∈ Rd ∧ own ≤ k ∧ (tr own).objs = (tr k).objs ∧ ∀ o', f o' → OpGives P ops slots o o.guard gb rs1.loc rs1.G o' v o'))
  bnd : ∀ p o, (p, o) ∈ Bs → p ≤ i ∧ o = (tr p).objs
  zero : (0, (tr 0).objs) ∈ Bs
  eff : ∀ k, k < i → effAt ops (masks ops) k = true → (k + 1, (tr (k + 1)).objs) ∈ Bs
  last : lastB Bs ≤ i ∧ (tr (lastB Bs)).objs = (tr i).objs

theorem Pre.done {ops : Array Oper} {slots : List (Nat × AVal)} {tr : Nat → RSt} {Bs : List (Nat × Objs)} {Rd : List (Nat × Nat × (Objs → Prop))} (h : Pre P nt ops slots ops.size tr Bs Rd)
    (hr : ∀ i own f, (i, own, f) ∈ Rd → ∀ p o, (p, o) ∈ Bs → okPosL (masks ops) (effList ops (masks ops)) i p = true → p ≠ own → f o) : Trace P nt ops slots tr := by
  have find : ∀ p, p ≤ ops.size → ∃ b, b ≤ p ∧ (b, (tr p).objs) ∈ Bs ∧ (tr b).objs = (tr p).objs ∧ ∀ k, b ≤ k → k < p → effAt ops (masks ops) k = false := by
    intro p
    induction p with
    | zero => intro _; exact ⟨0, Nat.le_refl _, h.zero, rfl, fun k h1 h2 => by omega⟩
    | succ p ih =>
      intro hp
      cases ep : effAt ops (masks ops) p with
      | true => exact ⟨p + 1, Nat.le_refl _, h.eff p (by omega) ep, rfl, fun k h1 h2 => by omega⟩
      | false =>
        obtain ⟨b, hb, hm, he, hk⟩ := ih (by omega)
        obtain ⟨o, ho⟩ := getO (ops := ops) (i := p) (by omega)
        obtain ⟨_, _, _, _, _, _, hn⟩ := h.step p o (by omega) ho
        rw [(hn ep).1]
        refine ⟨b, by omega, hm, he, fun k h1 h2 => ?_⟩
        rcases Nat.lt_or_ge k p with h' | h'
        · exact hk k h1 h'
        · have : k = p := by omega
          rw [this]; exact ep
  refine ⟨h.loc0, h.G0, fun i o ho => ?_⟩
  have hi := (Array.getElem?_eq_some_iff.1 ho).1
  obtain ⟨gb, rs1, v, h1, h2, h3, h4⟩ := h.step i o hi ho
  refine ⟨gb, rs1, v, h1, h2, h3, fun he => ⟨(h4 he).1, fun p hp hok => ?_⟩⟩
  rcases (h4 he).2.2 with hall | ⟨own, f, hm, _, hown, hf⟩
  · exact hall _
  · obtain ⟨b, hb, hmb, hobj, hk⟩ := find p hp
    have hokb : okPosL (masks ops) (effList ops (masks ops)) i b = true := by
      have := okPosL_of hok
      simp only [okPosL, List.all_eq_true] at this ⊢
      intro j hj
      have h5 := this j hj
      simp only [effList, List.mem_filter, List.mem_range] at hj
      simp only [Bool.and_eq_true, Bool.or_eq_true, Bool.not_eq_true'] at h5 ⊢
      refine ⟨h5.1.imp id (fun hlt => ?_), h5.2.imp id (fun hle => ?_)⟩
      · have hlt' : j < p := by simpa using hlt
        have : j < b := by
          rcases Nat.lt_or_ge j b with h' | h'
          · exact h'
          · have := hk j h' hlt'; rw [hj.2] at this; cases this
        simpa using this
      · exact Nat.ble_eq_true_of_le (by have := Nat.le_of_ble_eq_true hle; omega)
    by_cases hbo : b = own
    · subst hbo
      have : (tr p).objs = (tr i).objs := by rw [← hobj, hown]
      rw [this]
      exact (h4 he).2.1
    · exact hf _ (hr i own f hm b _ hmb hokb hbo)

theorem cdops_trace {ops : Array Oper} {slots : List (Nat × AVal)} {K : Loc → Objs → Prop} : ∀ (m i : Nat), i + m = ops.size → ∀ (tr : Nat → RSt) (loc : Loc) (G : Gs) (objs : Objs) (Bs : List (Nat × Objs)) (Rd : List (Nat × Nat × (Objs → Prop))),
    tr i = ⟨loc, G, objs⟩ → Pre P nt ops slots i tr Bs Rd → cdops P nt ops slots (masks ops) (effList ops (masks ops)) i (ops.toList.drop i) loc G objs Bs Rd K →
    ∃ tr' : Nat → RSt, Trace P nt ops slots tr' ∧ (tr' 0).objs = (tr 0).objs ∧ K (tr' ops.size).loc (tr' ops.size).objs
  | 0, i, hn, tr, loc, G, objs, Bs, Rd, hi, hpre, h => by
    have : ops.toList.drop i = [] := List.drop_eq_nil_of_le (by simp; omega)
    rw [this] at h
    simp only [cdops] at h
    obtain ⟨hK, hr⟩ := cfin_spec h
    have hin : i = ops.size := by omega
    subst hin
    exact ⟨tr, hpre.done hr, rfl, by rw [hi]; exact hK⟩
  | m + 1, i, hn, tr, loc, G, objs, Bs, Rd, hi, hpre, h => by
    have hlt : i < ops.toList.length := by simp; omega
    rw [List.drop_eq_getElem_cons hlt] at h
    have ho : ops[i]? = some (ops.toList[i]) := by simp
    generalize ops.toList[i] = o at h ho
    have hlt' : i < ops.size := by simpa using hlt
    have effMem : (effList ops (masks ops)).any (fun j => Nat.beq j i) = effAt ops (masks ops) i := by
      cases he : effAt ops (masks ops) i with
      | true => exact List.any_eq_true.2 ⟨i, by simp [effList, hlt', he], Nat.beq_refl i⟩
      | false =>
        rw [List.any_eq_false]
        intro j hj hb
        have := Nat.eq_of_beq_eq_true hb
        subst this
        simp only [effList, List.mem_filter] at hj
        rw [he] at hj
        cases hj.2
    -- one step, once what it gives is known
    have go : ∀ (gb : Bool) (loc1 : Loc) (G1 : Gs) (v : AVal) (objs' : Objs) (Bs' : List (Nat × Objs)) (Rd' : List (Nat × Nat × (Objs → Prop))), GuardOK ops (tr i) o gb ⟨loc1, G1, objs⟩ →
        (effAt ops (masks ops) i = true → OpGives P ops slots o o.guard gb loc1 G1 objs v objs' ∧ Bs' = (i + 1, objs') :: Bs ∧ Rd' = Rd) →
        (effAt ops (masks ops) i = false → objs' = objs ∧ OpGives P ops slots o o.guard gb loc1 G1 objs v objs ∧ Bs' = Bs ∧
          (((∀ o', OpGives P ops slots o o.guard gb loc1 G1 o' v o') ∧ Rd' = Rd) ∨ ∃ f, Rd' = (i, lastB Bs, f) :: Rd ∧ ∀ o', f o' → OpGives P ops slots o o.guard gb loc1 G1 o' v o')) →
        (PutK nt ⟨loc1, G1, objs'⟩ o.guard o.dst v fun r => cdops P nt ops slots (masks ops) (effList ops (masks ops)) (i + 1) (ops.toList.drop (i + 1)) r.loc r.G r.objs Bs' Rd' K) →
        ∃ tr' : Nat → RSt, Trace P nt ops slots tr' ∧ (tr' 0).objs = (tr 0).objs ∧ K (tr' ops.size).loc (tr' ops.size).objs := by
      intro gb loc1 G1 v objs' Bs' Rd' hg hE hN hput
      obtain ⟨rs', hp, hk⟩ := PutK_some hput
      obtain ⟨hobj, _, _⟩ := putR_some hp
      simp only at hobj
      let tr1 : Nat → RSt := fun k => if k = i + 1 then rs' else tr k
      have t1 : tr1 (i + 1) = rs' := by simp [tr1]
      have t0 : ∀ k, k ≤ i → tr1 k = tr k := fun k hk => by simp only [tr1]; rw [if_neg (by omega)]
      have htri : (tr i).objs = objs := by rw [hi]
      have oldRd : ∀ x, x ∈ Rd → x ∈ Rd' := by
        intro x hx
        cases he : effAt ops (masks ops) i with
        | true => rw [(hE he).2.2]; exact hx
        | false =>
          rcases (hN he).2.2.2 with ⟨_, e⟩ | ⟨f, e, _⟩
          · rw [e]; exact hx
          · rw [e]; exact List.mem_cons_of_mem _ hx
      have oldBs : ∀ x, x ∈ Bs → x ∈ Bs' := by
        intro x hx
        cases he : effAt ops (masks ops) i with
        | true => rw [(hE he).2.1]; exact List.mem_cons_of_mem _ hx
        | false => rw [(hN he).2.2.1]; exact hx
      have hpre1 : Pre P nt ops slots (i + 1) tr1 Bs' Rd' := by
        refine ⟨by rw [t0 0 (by omega)]; exact hpre.loc0, by rw [t0 0 (by omega)]; exact hpre.G0, fun k o' hk' ho' => ?_, fun p o' hm => ?_, by rw [t0 0 (by omega)]; exact oldBs _ hpre.zero, fun k hk' ek => ?_, ?_⟩
        · rcases Nat.lt_or_ge k i with hki | hki
          · obtain ⟨gb', rs1', v', q1, q2, q3, q4⟩ := hpre.step k o' hki ho'
            refine ⟨gb', rs1', v', by rw [t0 k (by omega)]; exact q1, by rw [t0 (k + 1) (by omega)]; exact q2, by rw [t0 k (by omega), t0 (k + 1) (by omega)]; exact q3, ?_⟩
            rw [t0 k (by omega), t0 (k + 1) (by omega)]
            intro ek
            obtain ⟨r1, r2, r3⟩ := q4 ek
            refine ⟨r1, r2, r3.imp id ?_⟩
            rintro ⟨own, f, s1, s0, s2, s3⟩
            exact ⟨own, f, oldRd _ s1, s0, by rw [t0 own (by omega)]; exact s2, s3⟩
          · have hki : k = i := by omega
            subst hki
            rw [ho] at ho'
            simp only [Option.some.injEq] at ho'
            subst ho'
            refine ⟨gb, ⟨loc1, G1, objs⟩, v, by rw [t0 k (by omega)]; exact hg, by rw [t1, hobj]; exact hp, fun ek => ?_, fun ek => ?_⟩
            · rw [t0 k (by omega), t1, htri, hobj]; exact (hE ek).1
            · rw [t0 k (by omega), t1, htri, hobj]
              obtain ⟨r1, r2, r3, r4⟩ := hN ek
              refine ⟨r1, r2, ?_⟩
              rcases r4 with ⟨r4, _⟩ | ⟨f, e, r4⟩
              · exact .inl r4
              · refine .inr ⟨lastB Bs, f, by rw [e]; simp, hpre.last.1, ?_, r4⟩
                rw [t0 _ hpre.last.1, hpre.last.2, htri]
        · cases he : effAt ops (masks ops) i with
          | true =>
            rw [(hE he).2.1] at hm
            rcases List.mem_cons.1 hm with e | hm
            · simp only [Prod.mk.injEq] at e
              obtain ⟨rfl, rfl⟩ := e
              exact ⟨Nat.le_refl _, by rw [t1, hobj]⟩
            · obtain ⟨r1, r2⟩ := hpre.bnd p o' hm
              exact ⟨by omega, by rw [t0 p r1]; exact r2⟩
          | false =>
            rw [(hN he).2.2.1] at hm
            obtain ⟨r1, r2⟩ := hpre.bnd p o' hm
            exact ⟨by omega, by rw [t0 p r1]; exact r2⟩
        · rcases Nat.lt_or_ge k i with hki | hki
          · rw [t0 (k + 1) (by omega)]; exact oldBs _ (hpre.eff k hki ek)
          · have hki : k = i := by omega
            subst hki
            rw [t1, hobj, (hE ek).2.1]
            simp
        · cases he : effAt ops (masks ops) i with
          | true => rw [(hE he).2.1]; exact ⟨Nat.le_refl _, rfl⟩
          | false =>
            rw [(hN he).2.2.1]
            refine ⟨by have := hpre.last.1; omega, ?_⟩
            rw [t0 _ hpre.last.1, hpre.last.2, t1, hobj, htri, (hN he).1]
      obtain ⟨tr', q1, q2, q3⟩ := cdops_trace m (i + 1) (by omega) tr1 rs'.loc rs'.G rs'.objs Bs' Rd' (by rw [t1]) hpre1 hk
      exact ⟨tr', q1, by rw [q2, t0 0 (by omega)], q3⟩
    have effF : effKind o.op = false → callKind o.op = false → effAt ops (masks ops) i = false := by
      intro h1 h2
      unfold effAt
      simp [ho, h1, h2]
    have effT : effKind o.op = true → effAt ops (masks ops) i = true := by
      intro h1
      unfold effAt
      simp [ho, h1]
    have body : ∀ (gb : Bool) (loc1 : Loc) (G1 : Gs), GuardOK ops (tr i) o gb ⟨loc1, G1, objs⟩ →
        cdstep P nt ops slots (effList ops (masks ops)) i o o.guard gb (lastB Bs) loc1 G1 objs Bs Rd (fun loc G objs Bs Rd => cdops P nt ops slots (masks ops) (effList ops (masks ops)) (i + 1) (ops.toList.drop (i + 1)) loc G objs Bs Rd K) →
        ∃ tr' : Nat → RSt, Trace P nt ops slots tr' ∧ (tr' 0).objs = (tr 0).objs ∧ K (tr' ops.size).loc (tr' ops.size).objs := by
      intro gb loc1 G1 hg hs
      -- an operation that looks at no object
      have pure' : ∀ v, effKind o.op = false → callKind o.op = false → (∀ o', OpGives P ops slots o o.guard gb loc1 G1 o' v o') → (cput nt loc1 G1 objs o.guard o.dst v fun loc G objs => cdops P nt ops slots (masks ops) (effList ops (masks ops)) (i + 1) (ops.toList.drop (i + 1)) loc G objs Bs Rd K) →
          ∃ tr' : Nat → RSt, Trace P nt ops slots tr' ∧ (tr' 0).objs = (tr 0).objs ∧ K (tr' ops.size).loc (tr' ops.size).objs := by
        intro v k1 k2 hop hc
        have ef := effF k1 k2
        exact go gb loc1 G1 v objs Bs Rd hg (fun e => by rw [ef] at e; cases e) (fun _ => ⟨rfl, hop objs, rfl, .inl ⟨hop, rfl⟩⟩) (cput_iff.1 hc)
      unfold cdstep at hs
      split at hs
      · rename_i c x y hop
        split at hs
        · rename_i v hv
          refine pure' v (by rw [hop]; rfl) (by rw [hop]; rfl) (fun o' => ?_) hs
          unfold OpGives
          simp only [hop]
          exact ⟨hv, trivial⟩
        · exact hs.elim
      · rename_i hne
        have gives : ∀ (objs0 : Objs) (v : AVal) (objs1 : Objs), (match evalOp P (lookR ops slots loc1 o.guard) objs0 o with
            | .bad => False
            | .val u => u = v ∧ objs1 = objs0
            | .ifb b u => (gb = true → b = true) ∧ u = v ∧ objs1 = objs0
            | .eff b u o2 => o.guard = none ∧ b = true ∧ u = v ∧ objs1 = o2
            | .upd u o2 => o.guard = none ∧ u = v ∧ objs1 = o2
            | .call f args => (gb = true → ACalls P f args objs0 fun r o2 => r = v ∧ o2 = objs1) ∧ (o.guard ≠ none → objs1 = objs0)) → OpGives P ops slots o o.guard gb loc1 G1 objs0 v objs1 := by
          intro objs0 v objs1 hh
          unfold OpGives
          split
          · rename_i c x y hop; exact (hne c x y hop).elim
          · exact hh
        split at hs
        · exact hs.elim
        · rename_i v he
          obtain ⟨k1, k2⟩ := evalOp_val he
          split at hs
          · have ef := effF k1 k2
            exact go gb loc1 G1 v objs Bs _ hg (fun e => by rw [ef] at e; cases e) (fun _ => ⟨rfl, gives _ _ _ (by rw [he]; exact ⟨rfl, rfl⟩), rfl, .inr ⟨_, rfl, fun o' hf => gives _ _ _ (by rw [hf]; exact ⟨rfl, rfl⟩)⟩⟩) (cput_iff.1 hs)
          · rename_i hlk
            refine pure' v k1 k2 (fun o' => gives _ _ _ ?_) hs
            rw [evalOp_objs o k1 hlk o' objs, he]
            exact ⟨rfl, rfl⟩
        · rename_i b v he
          obtain ⟨k1, k2, k3⟩ := evalOp_ifb he
          refine pure' v k1 k2 (fun o' => gives _ _ _ ?_) hs.2
          rw [evalOp_objs o k1 k3 o' objs, he]
          exact ⟨hs.1, rfl, rfl⟩
        · rename_i b v objs' he
          have k1 := evalOp_eff he
          split at hs
          · rename_i hgn
            rw [ceff_iff] at hs
            exact go gb loc1 G1 v objs' _ Rd hg (fun _ => ⟨gives _ _ _ (by rw [he]; exact ⟨hgn, hs.1, rfl, rfl⟩), rfl, rfl⟩) (fun e => by rw [effT k1] at e; cases e) (by rw [hgn]; exact cput_obj (K := fun loc G objs Bs Rd => cdops P nt ops slots (masks ops) (effList ops (masks ops)) (i + 1) (ops.toList.drop (i + 1)) loc G objs Bs Rd K) (cput_iff.1 hs.2))
          · exact hs.elim
        · rename_i v objs' he
          have k1 := evalOp_upd he
          split at hs
          · rename_i hgn
            rw [ceff_iff] at hs
            exact go gb loc1 G1 v objs' _ Rd hg (fun _ => ⟨gives _ _ _ (by rw [he]; exact ⟨hgn, rfl, rfl⟩), rfl, rfl⟩) (fun e => by rw [effT k1] at e; cases e) (by rw [hgn]; exact cput_obj (K := fun loc G objs Bs Rd => cdops P nt ops slots (masks ops) (effList ops (masks ops)) (i + 1) (ops.toList.drop (i + 1)) loc G objs Bs Rd K) (cput_iff.1 hs))
          · exact hs.elim
        · rename_i f args he
          rw [forceL1_iff] at hs
          split at hs
          · rename_i hany
            rw [effMem] at hany
            split at hs
            · rename_i hgn
              obtain ⟨r, objs', h1, h2⟩ := hs
              exact go gb loc1 G1 r objs' _ Rd hg (fun _ => ⟨gives _ _ _ (by rw [he]; exact ⟨fun _ => h1, fun hh => absurd hgn hh⟩), rfl, rfl⟩) (fun e => by rw [hany] at e; cases e) (by rw [hgn]; exact cput_obj (K := fun loc G objs Bs Rd => cdops P nt ops slots (masks ops) (effList ops (masks ops)) (i + 1) (ops.toList.drop (i + 1)) loc G objs Bs Rd K) (cput_iff.1 h2))
            · rename_i g hgn
              obtain ⟨r, h1, h2⟩ := hs
              exact go gb loc1 G1 r objs _ Rd hg (fun _ => ⟨gives _ _ _ (by rw [he]; exact ⟨fun hh => h1 hh, fun _ => rfl⟩), rfl, rfl⟩) (fun e => by rw [hany] at e; cases e) (by rw [hgn]; exact cput_obj (K := fun loc G objs Bs Rd => cdops P nt ops slots (masks ops) (effList ops (masks ops)) (i + 1) (ops.toList.drop (i + 1)) loc G objs Bs Rd K) (cput_iff.1 h2))
          · rename_i hany
            rw [effMem] at hany
            obtain ⟨r, h1, h2⟩ := hs
            have hcall : ∀ o', evalOp P (lookR ops slots loc1 o.guard) o' o = .call f args := by
              intro o'
              obtain ⟨k1, k3⟩ := evalOp_call he
              rw [evalOp_objs o k1 k3 o' objs, he]
            exact go gb loc1 G1 r objs Bs _ hg (fun e => by rw [hany] at e; cases e) (fun _ => ⟨rfl, gives _ _ _ (by rw [he]; exact ⟨fun hh => h1 hh, fun _ => rfl⟩), rfl, .inr ⟨_, rfl, fun o' hf => gives _ _ _ (by rw [hcall o']; exact ⟨fun hh => hf hh, fun _ => rfl⟩)⟩⟩) (cput_iff.1 h2)
    simp only [cdops] at h
    split at h
    · rename_i hg
      refine body true loc G ?_ (by rw [hg]; exact h)
      unfold GuardOK
      rw [hg]
      exact ⟨rfl, hi.symm⟩
    · rename_i g hg
      split at h
      · rename_i gb G' hgo
        refine body gb loc G' ?_ (by rw [hg]; exact h)
        unfold GuardOK
        rw [hg, hi]
        exact cgOf_some hgo
      · exact h.elim

theorem cdraw_draw {ops : Array Oper} {slots : List (Nat × AVal)} {objs : Objs} {K : Loc → Objs → Prop} (h : cdraw P nt ops slots objs K) : DrawW P nt ops slots objs K := by
  obtain ⟨h1, h2⟩ := h
  simp only [Bool.and_eq_true] at h1
  rw [forceNL_iff, forceNL_iff] at h2
  obtain ⟨tr, q1, q2, q3⟩ := cdops_trace (ops := ops) ops.size 0 (by omega) (fun _ => ⟨[], [], objs⟩) [] [] objs [(0, objs)] [] rfl
    ⟨rfl, rfl, fun k o hk => absurd hk (by omega), fun p o hm => by simp at hm; obtain ⟨rfl, rfl⟩ := hm; exact ⟨Nat.le_refl _, rfl⟩, by simp, fun k hk => absurd hk (by omega), by simp [lastB]⟩ (by simpa using h2)
  exact ⟨h1.1, h1.2, tr, q1, q2, q3⟩

theorem cwp_awp (c : Code) : ∀ (Q : CQ) (s : List (Nat × AVal)) (o : Objs), cwp P nt n0 keep c Q s o → awp P nt n0 keep c (fun e s => Q e s.slots s.objs) ⟨s, o⟩ := by
  induction c with
  | skip => exact fun Q s o h => h
  | label l => exact fun Q s o h => h
  | exit id => exact fun Q s o h => h
  | goto l => exact fun Q s o h => h
  | ret => exact fun Q s o h => h
  | refuse why => exact fun Q s o h => h
  | scope b _ => exact fun Q s o h => h
  | rangeFunc f ps x y _ _ => exact fun Q s o h => h
  | region id ops draw =>
    intro Q s o h
    cases draw with
    | false =>
      simp only [cwp, cmerge_iff] at h
      exact cops_ops h
    | true =>
      simp only [cwp, cmerge_iff] at h
      exact cdraw_draw h
  | seq x y ihx ihy =>
    intro Q s o h
    simp only [cwp] at h
    simp only [awp]
    split
    · rename_i hk
      rw [hk] at h
      have := ihx _ s o h
      refine awp_mono x _ _ _ ?_ this
      intro e s hq
      cases e with
      | normal => exact ihy Q s.slots s.objs hq
      | exit id => exact hq
      | goto l => exact hq
      | ret => exact hq
    · rename_i hk
      rw [hk] at h
      obtain ⟨J, hJ, h⟩ := h
      refine ⟨fun s => J s.slots s.objs, fun s hs => ihy Q s.slots s.objs (hJ s.slots s.objs hs), ?_⟩
      have := ihx _ s o h
      refine awp_mono x _ _ _ ?_ this
      intro e s hq
      cases e with
      | normal =>
        obtain ⟨s', o', hw, hj⟩ := hq
        exact ⟨⟨s', o'⟩, hw, hj⟩
      | exit id => exact hq
      | goto l => exact hq
      | ret => exact hq
  | cond c x y ihx ihy =>
    intro Q s o h
    simp only [cwp] at h
    simp only [awp]
    split
    · rename_i b hb
      rw [hb] at h
      exact ⟨fun ht => ihx Q s o (h.1 ht), fun hf => ihy Q s o (h.2 hf)⟩
    · rename_i hne
      split at h
      · rename_i b hb; exact (hne b hb).elim
      · exact h
  | block id body ih =>
    intro Q s o h
    refine awp_mono body _ _ _ ?_ (ih _ s o h)
    intro e s hs
    cases e with
    | normal => exact hs
    | exit i => exact hs
    | goto l => exact hs
    | ret => exact hs
  | loop body ih =>
    intro Q s o h
    obtain ⟨I, n, s1, o1, hw, hI, hr⟩ := h
    refine ⟨fun m s => I m s.slots s.objs, n, ⟨s1, o1⟩, hw, hI, fun m s hm => ?_⟩
    refine awp_mono body _ _ _ ?_ (ih _ s.slots s.objs (hr m s.slots s.objs hm))
    intro e s hs
    cases e with
    | normal =>
      obtain ⟨m', s', o', hlt, hw, hI'⟩ := hs
      exact ⟨m', ⟨s', o'⟩, hlt, hw, hI'⟩
    | exit i => exact hs
    | goto l => exact hs
    | ret => exact hs

/-- What is owed where a function returns. -/
def CRet (P : Program) (fn : Func) (n0 : Nat) (R : AVal → Objs → Prop) : CQ := fun e s o =>
  match e with
  | .normal => (match retA P fn ⟨s, o⟩ with | some r0 => forceA r0 fun r0 => ∃ r objs', Told n0 r0 o r objs' ∧ R r objs' | none => False)
  | .ret => (match retA P fn ⟨s, o⟩ with | some r0 => forceA r0 fun r0 => ∃ r objs', Told n0 r0 o r objs' ∧ R r objs' | none => False)
  | _ => False

theorem ACalls.of_cwp {f : FuncId} {fn : Func} {c : Code} {args : List AVal} {objs : Objs} {R : AVal → Objs → Prop} (keep : Nat → Bool) (hf : P.funcs[f]? = some fn) (hb : fn.body = some c) (hlen : Nat.ble args.length fn.ntmps = true)
    (h : cwp P fn.ntmps objs.length keep c (CRet P fn objs.length R) (initSlots 0 args) objs) : ACalls P f args objs R := by
  refine ACalls.of_awp keep hf hb (Nat.le_of_ble_eq_true hlen) (awp_mono c _ _ _ ?_ (cwp_awp c _ _ _ h))
  intro e s hs
  cases e with
  | normal => simp only [CRet, forceA_iff] at hs; exact hs
  | ret => simp only [CRet, forceA_iff] at hs; exact hs
  | exit id => exact hs
  | goto l => exact hs

end
end Go.Fw
