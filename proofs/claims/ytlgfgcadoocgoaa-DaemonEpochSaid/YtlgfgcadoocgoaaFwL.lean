/-
  A function's text: 'awp', its soundness; how a function is entered and left; the frame: a contract over no objects serves over all.
-/
import Derived.Test.YtlgfgcadoocgoaaFwP
import Derived.Tactics
namespace Go.Fw
set_option linter.unusedSimpArgs false
set_option linter.unusedVariables false
open Go.RowKit

inductive AExit where
  | normal
  | exit (id : Nat)
  | goto (l : Nat)
  | ret

def AExit.real : AExit → Exit
  | .normal => .normal
  | .exit id => .exit id
  | .goto l => .goto l
  | .ret => .ret

/-- What is known may be forgotten: s' holds wherever s does. -/
def Weaker (nt n0 : Nat) (s s' : St) : Prop := ∀ (K0 K : Ctx) (a : Act) (w : World), K0.n = n0 → K0.le K → Sat nt K s a w → ∃ K', K0.le K' ∧ Sat nt K' s' a w

def startR (s : St) : RSt := { loc := [], G := [], objs := s.objs }

/-- What is owed of a region that draws its order: a trace in the order of the text, and the checks. -/
def DrawW (P : Program) (nt : Nat) (ops : Array Oper) (slots : List (Nat × AVal)) (objs : Objs) (K : Loc → Objs → Prop) : Prop :=
  P.follows .mixedOrders = true ∧ drawCheck ops (masks ops) = true ∧ ∃ tr : Nat → RSt, Trace P nt ops slots tr ∧ (tr 0).objs = objs ∧ K (tr ops.size).loc (tr ops.size).objs

def lookO (s : St) : Operand → AVal
  | .tmp t => getSlot s.slots t
  | .const v => .lit v
  | _ => .any

/-- The number of a text's first region. -/
def firstId : Code → Nat
  | .region id _ _ => id
  | .seq a _ => firstId a
  | .cond _ x _ => firstId x
  | .block _ b => firstId b
  | .loop b => firstId b
  | _ => 0

/-- keep: which slots are kept; and (from 1000000 on, by a first region's number) where all ways that lead there are joined: keep is false there. -/
def awp (P : Program) (nt n0 : Nat) (keep : Nat → Bool) : Code → (AExit → St → Prop) → St → Prop
  | .skip, Q, s => Q .normal s
  | .region _ ops draw, Q, s =>
    (match draw with
     | false => awpOps P nt ops s.slots false ops.toList (startR s) fun rs => Q .normal { slots := mergeL keep s.slots rs.loc, objs := rs.objs }
     | true => DrawW P nt ops s.slots s.objs fun loc objs => Q .normal { slots := mergeL keep s.slots loc, objs := objs })
  | .seq a b, Q, s =>
    (match keep (1000000 + firstId b) with
     | true => awp P nt n0 keep a (fun e s' => match e with | .normal => awp P nt n0 keep b Q s' | e => Q e s') s
     | false => ∃ J : St → Prop, (∀ s, J s → awp P nt n0 keep b Q s) ∧ awp P nt n0 keep a (fun e s' => match e with | .normal => ∃ s'', Weaker nt n0 s' s'' ∧ J s'' | e => Q e s') s)
  | .cond c x y, Q, s =>
    (match lookO s c with
     | .lit (.bool b) => (b = true → awp P nt n0 keep x Q s) ∧ (b = false → awp P nt n0 keep y Q s)
     | _ => False)
  | .block id body, Q, s => awp P nt n0 keep body (fun e s' => match e with | .exit i => (match Nat.beq i id with | true => Q .normal s' | false => Q (.exit i) s') | e => Q e s') s
  | .loop body, Q, s => ∃ (I : Nat → St → Prop) (n : Nat) (s1 : St), Weaker nt n0 s s1 ∧ I n s1 ∧ ∀ m s, I m s → awp P nt n0 keep body (fun e s' => match e with | .normal => ∃ m' s'', m' < m ∧ Weaker nt n0 s' s'' ∧ I m' s'' | e => Q e s') s
  | .exit id, Q, s => Q (.exit id) s
  | .label _, Q, s => Q .normal s
  | .goto l, Q, s => Q (.goto l) s
  | .ret, Q, s => Q .ret s
  | _, _, _ => False

section
variable {P : Program} {nt n0 : Nat} {keep : Nat → Bool}

def Post (nt : Nat) (K0 : Ctx) (Q : AExit → St → Prop) (e : Exit) (a : Act) (w : World) : Prop := ∃ (e' : AExit) (K : Ctx) (s : St), e = e'.real ∧ K0.le K ∧ Sat nt K s a w ∧ Q e' s

theorem Sat.start {K : Ctx} {s : St} {a : Act} {w : World} {ops : Array Oper} (h : Sat nt K s a w) : RSat nt ops s.slots K (startR s) a w :=
  ⟨h.mem, fun t _ => h.slot t, fun t v h => by simp [startR, findL] at h, fun t g v h => by simp [startR, findL] at h, fun g b h => by simp [startR, findG] at h, h.size, h.defers, trivial⟩

theorem awp_sound (c : Code) : ∀ (Q : AExit → St → Prop) (s : St) (K0 K : Ctx) (a : Act) (w : World), K0.n = n0 → K0.le K → Sat nt K s a w → awp P nt n0 keep c Q s → c.wp P (Post nt K0 Q) a w := by
  induction c with
  | skip => exact fun Q s K0 K a w hn hle hs h => wp_skip ⟨.normal, K, s, rfl, hle, hs, h⟩
  | label l => exact fun Q s K0 K a w hn hle hs h => wp_label ⟨.normal, K, s, rfl, hle, hs, h⟩
  | exit id => exact fun Q s K0 K a w hn hle hs h => wp_exit ⟨.exit id, K, s, rfl, hle, hs, h⟩
  | goto l => exact fun Q s K0 K a w hn hle hs h => wp_goto ⟨.goto l, K, s, rfl, hle, hs, h⟩
  | ret => exact fun Q s K0 K a w hn hle hs h => wp_ret ⟨.ret, K, s, rfl, hle, hs, h⟩
  | refuse why => exact fun Q s K0 K a w hn hle hs h => h.elim
  | scope b _ => exact fun Q s K0 K a w hn hle hs h => h.elim
  | rangeFunc f ps x y _ _ => exact fun Q s K0 K a w hn hle hs h => h.elim
  | region id ops draw =>
    intro Q s K0 K a w hn hle hs h
    cases draw with
    | false =>
      simp only [awp] at h
      refine wp_region ?_
      rw [List.range_eq_range']
      refine awpOps_sound (K0 := K0) (Kt := fun rs => Q .normal { slots := mergeL keep s.slots rs.loc, objs := rs.objs }) ?_ ops.size 0 (by omega) K (startR s) a w hle hs.start (by simpa using h)
      intro K' rs a' w' hle' hr hk
      exact ⟨.normal, K', _, rfl, hle', mergeL_sound keep hr, hk⟩
    | true =>
      simp only [awp] at h
      obtain ⟨hmix, hck, tr, ht, ho, hq⟩ := h
      refine wp_draw (K0 := K0) hmix ht hck ho hle hs ?_
      intro K' a' w' hle' hr
      exact ⟨.normal, K', _, rfl, hle', mergeL_sound keep hr, hq⟩
  | seq x y ihx ihy =>
    intro Q s K0 K a w hn hle hs h
    simp only [awp] at h
    split at h
    · refine wp_seq (wp_mono (ihx _ s K0 K a w hn hle hs h) ?_)
      rintro e a' w' ⟨e', K', s', rfl, hle', hs', hq⟩
      cases e' with
      | normal => exact ihy Q s' K0 K' a' w' hn hle' hs' hq
      | exit id => exact ⟨.exit id, K', s', rfl, hle', hs', hq⟩
      | goto l => exact ⟨.goto l, K', s', rfl, hle', hs', hq⟩
      | ret => exact ⟨.ret, K', s', rfl, hle', hs', hq⟩
    · obtain ⟨J, hJ, h⟩ := h
      refine wp_seq (wp_mono (ihx _ s K0 K a w hn hle hs h) ?_)
      rintro e a' w' ⟨e', K', s', rfl, hle', hs', hq⟩
      cases e' with
      | normal =>
        obtain ⟨s'', hweak, hj⟩ := hq
        obtain ⟨K'', hle'', hs''⟩ := hweak K0 K' a' w' hn hle' hs'
        exact ihy Q s'' K0 K'' a' w' hn hle'' hs'' (hJ s'' hj)
      | exit id => exact ⟨.exit id, K', s', rfl, hle', hs', hq⟩
      | goto l => exact ⟨.goto l, K', s', rfl, hle', hs', hq⟩
      | ret => exact ⟨.ret, K', s', rfl, hle', hs', hq⟩
  | cond c x y ihx ihy =>
    intro Q s K0 K a w hn hle hs h
    simp only [awp] at h
    split at h
    · rename_i b hb
      have hv : a.eval c = .bool b := by
        cases c with
        | tmp t =>
          simp only [lookO] at hb
          have hr := hs.slot t
          rw [hb] at hr
          exact rep_lit hr
        | const v => simp only [lookO, AVal.lit.injEq] at hb; exact hb
        | global g => simp [lookO] at hb
        | func f => simp [lookO] at hb
      exact wp_cond_split hv (fun ht => ihx Q s K0 K a w hn hle hs (h.1 ht)) (fun hf => ihy Q s K0 K a w hn hle hs (h.2 hf))
    · exact h.elim
  | block id body ih =>
    intro Q s K0 K a w hn hle hs h
    refine wp_block (wp_mono (ih _ s K0 K a w hn hle hs h) ?_)
    rintro e a' w' ⟨e', K', s', rfl, hle', hs', hq⟩
    cases e' with
    | normal => exact ⟨.normal, K', s', rfl, hle', hs', hq⟩
    | exit i =>
      simp only at hq
      simp only [AExit.real, Exit.inBlock]
      cases hb : Nat.beq i id with
      | true =>
        rw [hb] at hq
        have := Nat.eq_of_beq_eq_true hb
        rw [if_pos this]
        exact ⟨.normal, K', s', rfl, hle', hs', hq⟩
      | false =>
        rw [hb] at hq
        have : i ≠ id := fun e => by subst e; simp at hb
        rw [if_neg this]
        exact ⟨.exit i, K', s', rfl, hle', hs', hq⟩
    | goto l => exact ⟨.goto l, K', s', rfl, hle', hs', hq⟩
    | ret => exact ⟨.ret, K', s', rfl, hle', hs', hq⟩
  | loop body ih =>
    intro Q s K0 K a w hn hle hs h
    obtain ⟨I, n, s1, hweak0, hI, hround⟩ := h
    -- the measure is not a function of the real state: strong induction, once more
    intro b k cs
    have key : ∀ n s K a w, K0.le K → Sat nt K s a w → I n s →
        ∃ e a' w', Post nt K0 Q e a' w' ∧ Arrives P (lone (b.at a (.code body :: .inLoop body :: k)) cs w) b k cs e a' w' := by
      intro n
      induction n using Nat.strongRecOn with
      | _ n ihn =>
        intro s K a w hle hs hI
        obtain ⟨e, a₁, w₁, hq, harr⟩ := ih _ s K0 K a w hn hle hs (hround n s hI) b (.inLoop body :: k) cs
        obtain ⟨e', K', s', rfl, hle', hs', hq⟩ := hq
        cases e' with
        | normal =>
          obtain ⟨m', s'', hlt, hweak, hI'⟩ := hq
          obtain ⟨K'', hle'', hs''⟩ := hweak K0 K' a₁ w₁ hn hle' hs'
          obtain ⟨e₂, a₂, w₂, hq₂, harr₂⟩ := ihn m' hlt s'' K'' a₁ w₁ hle'' hs'' hI'
          exact ⟨e₂, a₂, w₂, hq₂, .of_steps (Steps.trans harr (.one step_inLoop)) harr₂⟩
        | exit id => exact ⟨_, a₁, w₁, ⟨.exit id, K', s', rfl, hle', hs', hq⟩, .pass (x := .inLoop body) rfl (fun _ _ => .inl (by simp [AExit.real])) harr⟩
        | goto l => exact ⟨_, a₁, w₁, ⟨.goto l, K', s', rfl, hle', hs', hq⟩, .pass (x := .inLoop body) rfl (fun _ _ => .inl (by simp [AExit.real])) harr⟩
        | ret => exact ⟨_, a₁, w₁, ⟨.ret, K', s', rfl, hle', hs', hq⟩, .pass (x := .inLoop body) rfl (fun _ _ => .inl (by simp [AExit.real])) harr⟩
    obtain ⟨K1, hle1, hs1⟩ := hweak0 K0 K a w hn hle hs
    obtain ⟨e, a', w', hq, harr⟩ := key n s1 K1 a w hle1 hs1 hI
    exact ⟨e, a', w', hq, .of_steps (.one step_loop) harr⟩

/-- The results, as they lie when a function returns. -/
def resA (P : Program) (s : St) : List ResultVar → Option (List AVal)
  | [] => some []
  | .tmp t :: r => (match resA P s r with | some l => some (getSlot s.slots t :: l) | none => none)
  | .cell a t :: r => (match loadA P t (getSlot s.slots a) s.objs, resA P s r with | .val v, some l => some (v :: l) | _, _ => none)

def retA (P : Program) (fn : Func) (s : St) : Option AVal :=
  match resA P s fn.results.toList with
  | some [v] => some v
  | some l => some (.tup l)
  | none => none

/-- What is told of a result r0 and objects objs1 may be told as r, objs'. -/
def Told (n0 : Nat) (r0 : AVal) (objs1 : Objs) (r : AVal) (objs' : Objs) : Prop :=
  ∀ (K0 K : Ctx) (w : World) (v : Value), K0.n = n0 → K0.le K → MemSat K objs1 w → Rep K r0 v → ∃ K', K0.le K' ∧ MemSat K' objs' w ∧ Rep K' r v

def Leaves (P : Program) (fn : Func) (n0 : Nat) (R : AVal → Objs → Prop) (s : St) : Prop :=
  match retA P fn s with
  | some r0 => ∃ r objs', Told n0 r0 s.objs r objs' ∧ R r objs'
  | none => False

def RetQ (P : Program) (fn : Func) (n0 : Nat) (R : AVal → Objs → Prop) : AExit → St → Prop
  | .normal, s => Leaves P fn n0 R s
  | .ret, s => Leaves P fn n0 R s
  | _, _ => False

def initSlots : Nat → List AVal → List (Nat × AVal)
  | _, [] => []
  | i, a :: r => (i, a) :: initSlots (i + 1) r

theorem getSlot_init : ∀ (args : List AVal) (i t : Nat), getSlot (initSlots i args) t = if t < i then .any else (args[t - i]?).getD .any
  | [], i, t => by simp [initSlots, getSlot]
  | a :: r, i, t => by
    rw [initSlots, getSlot_cons, getSlot_init r (i + 1) t]
    rcases Nat.lt_trichotomy t i with h | h | h
    · rw [if_neg (by omega), if_pos (by omega), if_pos h]
    · subst h; simp
    · rw [if_neg (by omega), if_neg (by omega), if_neg (by omega)]
      have e : t - i = (t - (i + 1)) + 1 := by omega
      rw [e, List.getElem?_cons_succ]

def resOne (tmps : Array Value) : ResultVar → Sem Value
  | .tmp t => pure (tmps.getD t undef)
  | .cell a t => do loadVar t (← asAddr (tmps.getD a undef))

theorem results_eq (fn : Func) (tmps : Array Value) : results fn tmps = (do
    let vs ← fn.results.mapM (resOne tmps)
    pure (if h : vs.size = 1 then vs[0] else .tuple vs)) := by
  unfold results
  congr 1

theorem resA_sound {s : St} {a : Act} {w : World} {K : Ctx} (hs : Sat nt K s a w) : ∀ (rs : List ResultVar) (l : List AVal), resA P s rs = some l →
    ∃ vs : List Value, (rs.mapM (resOne a.tmps)).run P w = .ok vs w ∧ Reps K l vs
  | [], l, h => by simp only [resA, Option.some.injEq] at h; subst h; exact ⟨[], by simp, Reps.nil K⟩
  | .tmp t :: r, l, h => by
    simp only [resA] at h
    split at h
    · rename_i l' hl'
      simp only [Option.some.injEq] at h
      subst h
      obtain ⟨vs, hvs, hr⟩ := resA_sound hs r l' hl'
      refine ⟨a.tmps.getD t undef :: vs, ?_, Reps.cons (hs.slot t) hr⟩
      simp only [List.mapM_cons, resOne, Sem.run_bind, Sem.run_pure, Result.andThen_ok, hvs]
    · cases h
  | .cell c t :: r, l, h => by
    simp only [resA] at h
    split at h
    · rename_i v l' hv hl'
      simp only [Option.some.injEq] at h
      subst h
      obtain ⟨vs, hvs, hr⟩ := resA_sound hs r l' hl'
      obtain ⟨u, hu, hru⟩ := loadA_sound hs.mem (hs.slot c) hv
      refine ⟨u :: vs, ?_, Reps.cons hru hr⟩
      have hu' : (do loadVar t (← asAddr (a.tmps.getD c undef)) : Sem Value).run P w = .ok u w := by
        simp only [Instr.loadAt, Sem.run_bind] at hu ⊢
        generalize a.tmps.getD c undef = q at hu
        cases q with
        | pointer p => cases p with
          | none => simp [Instr.sureAddr] at hu
          | some x => simpa [Instr.sureAddr, asAddr] using hu
        | _ => simp [Instr.sureAddr] at hu
      simp only [Sem.run_bind] at hu'
      simp only [List.mapM_cons, resOne, Sem.run_bind, hu', Result.andThen_ok, hvs, Sem.run_pure]
    · cases h

theorem retA_sound {fn : Func} {s : St} {a : Act} {w : World} {K : Ctx} {r : AVal} (hs : Sat nt K s a w) (h : retA P fn s = some r) : ∃ v, (results fn a.tmps).run P w = .ok v w ∧ Rep K r v := by
  unfold retA at h
  have fin : ∀ (l : List AVal) (vs : List Value), Reps K l vs → (fn.results.toList.mapM (resOne a.tmps)).run P w = .ok vs w →
      (results fn a.tmps).run P w = .ok (match vs with | [v] => v | vs => .tuple vs.toArray) w := by
    intro l vs hr hvs
    rw [results_eq, Array.mapM_eq_mapM_toList]
    simp only [Sem.run_bind, map_eq_pure_bind, hvs, Result.andThen_ok, Sem.run_pure]
    match vs with
    | [] => rfl
    | [v] => rfl
    | v :: u :: t => simp
  split at h
  · rename_i v hl
    simp only [Option.some.injEq] at h
    subst h
    obtain ⟨vs, hvs, hr⟩ := resA_sound (P := P) hs _ _ hl
    match vs, hr with
    | [u], hr => exact ⟨u, fin _ _ hr hvs, hr.2 0 _ _ rfl rfl⟩
    | [], hr => exact absurd hr.1 (by simp)
    | _ :: _ :: _, hr => exact absurd hr.1 (by simp)
  · rename_i l hne hl
    simp only [Option.some.injEq] at h
    subst h
    obtain ⟨vs, hvs, hr⟩ := resA_sound (P := P) hs _ _ hl
    refine ⟨.tuple vs.toArray, ?_, .tup l vs hr.1 hr.2⟩
    have := fin _ _ hr hvs
    match vs, hr with
    | [u], hr =>
      match l, hne, hr with
      | [x], hne, _ => exact absurd rfl (hne x)
      | [], _, hr => exact absurd hr.1 (by simp)
      | _ :: _ :: _, _, hr => exact absurd hr.1 (by simp)
    | [], hr => exact this
    | _ :: _ :: _, hr => exact this
  · cases h

/-- A function's contract, from its text. -/
theorem ACalls.of_awp {f : FuncId} {fn : Func} {c : Code} {args : List AVal} {objs : Objs} {R : AVal → Objs → Prop} (keep : Nat → Bool) (hf : P.funcs[f]? = some fn) (hb : fn.body = some c) (hlen : args.length ≤ fn.ntmps)
    (h : awp P fn.ntmps objs.length keep c (RetQ P fn objs.length R) { slots := initSlots 0 args, objs := objs }) : ACalls P f args objs R := by
  intro K w vs hm hreps
  refine calls_of_wp hf hb ?_
  have hsat : Sat fn.ntmps K { slots := initSlots 0 args, objs := objs } { tmps := vs.toArray ++ Array.replicate (fn.ntmps - vs.toArray.size) undef, defers := [] } w := by
    refine ⟨hm, fun t => ?_, ?_, rfl⟩
    · show Rep K (getSlot (initSlots 0 args) t) _
      rw [getSlot_init, if_neg (by omega), Nat.sub_zero]
      cases ha : args[t]? with
      | none => exact .any _
      | some x =>
        obtain ⟨v, hv, hr⟩ := hreps.get ha
        have hlt : t < vs.length := (List.getElem?_eq_some_iff.1 hv).1
        have : (vs.toArray ++ Array.replicate (fn.ntmps - vs.toArray.size) undef).getD t undef = v := by
          rw [Array.getD_eq_getD_getElem?, Array.getElem?_append_left (by simpa using hlt)]
          simp [hv]
        simp only [this]
        exact hr
    · have := hreps.1
      simp
      omega
  refine wp_mono (awp_sound c _ _ K K _ w hm.len.symm (.refl K) hsat h) ?_
  rintro e a' w' ⟨e', K', s', rfl, hle, hs', hq⟩
  have leave : Leaves P fn objs.length R s' → ∃ v, (results fn a'.tmps).run P w' = .ok v w' ∧ ∃ (v' : Value) (r : AVal) (objs' : Objs) (K' : Ctx), Ending.returned v = .returned v' ∧ K.le K' ∧ MemSat K' objs' w' ∧ Rep K' r v' ∧ R r objs' := by
    intro hl
    unfold Leaves at hl
    split at hl
    · rename_i r0 hr0
      obtain ⟨r, objs', htold, hR⟩ := hl
      obtain ⟨v, hv, hrep⟩ := retA_sound hs' hr0
      obtain ⟨K'', hle'', hm'', hrep''⟩ := htold K K' w' v hm.len.symm hle hs'.mem hrep
      exact ⟨v, hv, v, r, objs', K'', rfl, hle'', hm'', hrep'', hR⟩
    · exact hl.elim
  cases e' with
  | normal => obtain ⟨v, hv, hrest⟩ := leave hq; exact ⟨hs'.defers, v, hv, hrest⟩
  | ret => obtain ⟨v, hv, hrest⟩ := leave hq; exact ⟨hs'.defers, v, hv, hrest⟩
  | exit id => exact hq.elim
  | goto l => exact hq.elim

end
end Go.Fw
