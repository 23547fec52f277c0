/-
  From a law's contract to the row's statement: the arguments are read, the law is called, they read as they did. Program-independent.
-/
import Derived.Test.YtlgfgcadoocgoaaFwS
import Derived.JoinedOf
import Derived.Handed
import Derived.OpenShut
import Derived.KernelRfl
namespace Go.Fw
set_option linter.unusedSimpArgs false
set_option linter.unusedVariables false
open Go.RowKit Go.ChangeShapes Go.WideShapes Go.Deep

/-- An argument of type t is told as x a, with what is known of a. -/
def ArgAs (P : Program) (t : TypeId) {α : Type} (x : α → AVal) (G : α → Prop) : Prop :=
  ∀ (H : Type) (enc : TypeId × Value → H) (w : World) (base : Nat) (v : Value) (d : DataW H) (ps : List MemPlace),
    Value.okWide P w .any base t v → DataW.Trod enc P w 0 (fun _ => true) true t v d ps → ∃ a, G a ∧ Rep (worldCtx w) (x a) v

variable {P : Program} {t : TypeId}

theorem CellsRep.head {K : Ctx} {x : AVal} {v : Value} (h : CellsRep K [x] [v]) : Rep K x v := h.1.2 0 x v rfl rfl

theorem ArgAs.int {k : IntKind} (ht : P.underlying t = some (.int k)) : ArgAs P t (fun n => .lit (.int k n)) fun n => (Lit.int k n).wf = true := by
  intro H enc w base v d ps hv hd
  obtain ⟨n, rfl, _, _, hw⟩ := open_int ht hv hd
  exact ⟨n, hw, .lit _⟩

theorem ArgAs.bool (ht : P.underlying t = some .bool) : ArgAs P t (fun b => .lit (.bool b)) fun _ => True := by
  intro H enc w base v d ps hv hd
  obtain ⟨b, rfl, _, _⟩ := open_bool ht hv hd
  exact ⟨b, trivial, .lit _⟩

theorem ArgAs.string (ht : P.underlying t = some .string) : ArgAs P t (fun s => .lit (.string s)) fun s => s.size ≤ maxLen := by
  intro H enc w base v d ps hv hd
  obtain ⟨s, rfl⟩ := okWide_string ht hv
  obtain ⟨fuel, hf⟩ := hd
  obtain ⟨s', h, _, hs⟩ := DataW.trod_string ht hf
  simp [Value.cells] at h
  subst h
  exact ⟨s, hs, .lit _⟩

theorem ArgAs.slice {α : Type} {x : α → AVal} {G : α → Prop} {e : TypeId} (ht : P.underlying t = some (.slice e)) (h : ReadAs P t (fun a => [x a]) G) : ArgAs P t x G := by
  intro H enc w base v d ps hv hd
  obtain ⟨a, len, cap, rfl⟩ := okWide_slice ht hv
  obtain ⟨fuel, hf⟩ := hd
  obtain ⟨y, hy, hr⟩ := h H enc w _ _ _ fuel _ _ hf
  refine ⟨y, hy, CellsRep.head (v := .slice a len cap) ?_⟩
  simpa [Value.cells] using hr

theorem ArgAs.struct {α : Type} {c : α → List AVal} {G : α → Prop} {fs : Array Field} (ht : P.underlying t = some (.struct fs)) (h : ReadAs P t c G) : ArgAs P t (fun a => .agg (c a)) G := by
  intro H enc w base v d ps hv hd
  obtain ⟨cs, rfl, _⟩ := okWide_struct ht hv
  obtain ⟨fuel, hf⟩ := hd
  obtain ⟨y, hy, hr⟩ := h H enc w _ _ _ fuel _ _ hf
  have hr : CellsRep (worldCtx w) (c y) cs.toList := by simpa [Value.cells] using hr
  refine ⟨y, hy, ?_⟩
  have := Rep.agg (K := worldCtx w) (c y) cs.toList hr.1.1 hr.2 hr.1.2
  simpa using this

/-- The arguments together. -/
inductive ArgsAs (P : Program) : List TypeId → (List AVal → Prop) → Prop where
  | nil : ArgsAs P [] (fun l => l = [])
  | cons (t : TypeId) (ts : List TypeId) {α : Type} (x : α → AVal) (G : α → Prop) (Q : List AVal → Prop) (h : ArgAs P t x G) (r : ArgsAs P ts Q) : ArgsAs P (t :: ts) (fun l => ∃ a m, G a ∧ Q m ∧ l = x a :: m)

theorem ArgsAs.read {ts : List TypeId} {Q : List AVal → Prop} (h : ArgsAs P ts Q) {H : Type} {enc : TypeId × Value → H} {w : World} {base : Nat} : ∀ {vs : List Value} {ds : List (DataW H)} {ps : List MemPlace},
    (∀ (j : Nat) t v, ts[j]? = some t → vs[j]? = some v → Value.okWide P w .any base t v) → DataW.TrodAll enc P w 0 (fun _ => true) true ts vs ds ps → ∃ l, Q l ∧ Reps (worldCtx w) l vs := by
  induction h with
  | nil =>
    intro vs ds ps hv h
    obtain ⟨rfl, rfl, rfl⟩ := trodAll_nil h
    exact ⟨[], rfl, .nil _⟩
  | cons t ts x G Q hx _ ih =>
    intro vs ds ps hv h
    obtain ⟨v, vs', d, ds', p, q, rfl, rfl, rfl, hd, hrest⟩ := trodAll_cons h
    obtain ⟨a, ha, hr⟩ := hx H enc w base v d p (hv 0 t v rfl rfl) hd
    obtain ⟨m, hm, hrm⟩ := ih (fun j t v hj hv' => hv (j + 1) t v (by simpa using hj) (by simpa using hv')) hrest
    exact ⟨x a :: m, ⟨a, m, ha, hm, rfl⟩, .cons hr hrm⟩

/-- Arguments read behind the call as they did before. -/
theorem trodAll_below {H : Type} {enc : TypeId × Value → H} {W W' : World} (hl : laidOutB P = true) (hb : Below W.heap.size W W') {sp : Nat → Bool} : ∀ {ts : List TypeId} {vs : List Value} {ds : List (DataW H)} {ps : List MemPlace},
    ts.all (fun t => P.readableRec t && decide (t < P.types.size)) = true → DataW.TrodAll enc P W 0 (fun _ => true) true ts vs ds ps → (∀ x ∈ ps, x.block < W.heap.size) → (∀ x ∈ ps, sp x.block = true) → DataW.TrodAll enc P W' 0 sp true ts vs ds ps
  | [], vs, ds, ps, _, h, _, _ => by
    obtain ⟨rfl, rfl, rfl⟩ := trodAll_nil h
    rfl
  | t :: ts, vs, ds, ps, ht, h, hlt, hsp => by
    obtain ⟨v, vs', d, ds', p, q, rfl, rfl, rfl, hd, hrest⟩ := trodAll_cons h
    simp only [List.all_cons, Bool.and_eq_true, decide_eq_true_eq] at ht
    refine ⟨p, q, ?_, trodAll_below hl hb (by simpa using ht.2) hrest (fun x hx => hlt x (List.mem_append_right _ hx)) (fun x hx => hsp x (List.mem_append_right _ hx)), rfl⟩
    exact WideElems.Trod_stays hl ht.1.1 ht.1.2 hd (fun x hx => hb.same (hlt x (List.mem_append_left _ hx))) (fun x hx => hsp x (List.mem_append_left _ hx))

/-- THE LAW's STEP. -/
theorem law_lifted {C : Checked} {os : Os} {f : FuncId} {fn : Func} {s : ChangeSpec} {conds : List PathCond} {apart fresh handsOn again : Bool} {H : Type} {enc : TypeId × Value → H} {Q : List AVal → Prop} {tb : TypeId}
    (own : ownKnob C.prog.godebug = none) (started : os.Started) (noInit : C.prog.inits.idxOf? f = none) (hfn : C.prog.funcs[f]? = some fn)
    (witness : ∃ (w : World) (tape : Tape) (i : Input), w.os = os ∧ (w.forCall tape i).Shaped C.prog ∧ i.vars = [] ∧ Input.okWide C.prog (w.forCall tape i) .any w.heap.size f i ∧
      s.pre6 enc C.prog fn conds apart (w.forCall tape i).memory i.args ∧ ({} : Assume).holds C.prog (lone (Frame.enter C.prog f i.args .normal) [] (w.forCall tape i)))
    (hvars : s.vars = []) (hres : fn.resultTypes = #[tb]) (hbool : C.prog.underlying tb = some .bool) (laid : laidOutB C.prog = true)
    (hts : fn.params.toList.all (fun t => C.prog.readableRec t && decide (t < C.prog.types.size)) = true)
    (hspec : ∀ ds : List (DataW H), ds.length = fn.params.size → s.fn H ds = { results := [.lit (.bool true)], args := ds })
    (hargs : ArgsAs C.prog fn.params.toList Q) (hlaw : ∀ l, Q l → AGives C.prog f l [] (.lit (.bool true))) :
    ReturnsInHanded {} C os f .any (s.pre6 enc C.prog fn conds apart) (s.post enc C.prog fn apart fresh handsOn again) := by
  refine returnsInHanded_of_change own started noInit hfn witness ?_
  intro W base args ds gs before hval hW hcnd _
  have hW' := hW
  obtain ⟨p, q, hA, hV, hpq, hfz, hnd⟩ := hW
  rw [hvars] at hV
  obtain ⟨rfl, rfl⟩ := trodVars_none hV
  rw [List.append_nil] at hpq
  subst hpq
  obtain ⟨l, hQ, hreps⟩ := hargs.read (base := base) (vs := args.toList) (fun j t v hj hv => hval j t v (by simpa using hj) (by simpa using hv)) hA
  have hc := law_calls (hlaw l hQ) hreps
  rw [show args.toList.toArray = args by simp] at hc
  refine hc.mono fun e W' ⟨he, hb⟩ => ?_
  subst he
  have hlen : ds.length = fn.params.size := by
    have : ∀ {ts : List TypeId} {vs : List Value} {ds : List (DataW H)} {ps : List MemPlace}, DataW.TrodAll enc C.prog W 0 (fun _ => true) true ts vs ds ps → ds.length = ts.length := by
      intro ts
      induction ts with
      | nil => intro vs ds ps h; obtain ⟨rfl, rfl, rfl⟩ := trodAll_nil h; rfl
      | cons t ts ih => intro vs ds ps h; obtain ⟨v, vs', d, ds', p, q, rfl, rfl, rfl, hd, hrest⟩ := trodAll_cons h; simp [ih hrest]
    simpa using this hA
  have hfn2 := hspec ds hlen
  have hold : ∀ p ∈ before, p.block < W.heap.size := fun p hp => by simpa using hW'.lt p hp
  have hR : ∀ (b : Nat) (sp : Nat → Bool) (hd : Bool), DataW.TrodAll enc C.prog W' b sp hd fn.resultTypes.toList ((Value.bool true).resultList fn.resultTypes.size) (s.fn H (ds ++ [])).results [] := by
    intro b sp hd
    rw [List.append_nil, hfn2, hres]
    exact trodAll_cons_mk (shut_bool hbool _) trodAll_mk0
  have hAr : ∀ sp : Nat → Bool, (∀ p ∈ before, sp p.block = true) → DataW.TrodAll enc C.prog W' 0 sp true fn.params.toList args.toList (s.fn H (ds ++ [])).args before := by
    intro sp hsp
    rw [List.append_nil, hfn2]
    exact trodAll_below laid hb hts hA hold hsp
  have hVr : ∀ sp : Nat → Bool, DataW.TrodVars enc C.prog W' sp s.vars (s.fn H (ds ++ [])).vars [] := by
    intro sp
    rw [List.append_nil, hfn2, hvars]
    rfl
  refine ⟨_, rfl, ds, [], before, [], before, [], hW', hR _ _ _, hAr _ (fun p hp => by simpa using hold p hp), hVr _, hb.frame _, fun _ => ⟨ok_one hres rfl (okWide_bool_mk hbool _), _, _, ([] ++ before) ++ [], ⟨[] ++ before, [], trodAll_append (hAr _ (fun _ _ => rfl)) (hR _ _ _), hVr _, rfl, ?_, ?_⟩, ?_⟩⟩
  · intro b off hp
    have hp : MemPlace.cell b off ∈ before := by simpa using hp
    rw [hb.frozen (p := ⟨b, off, none⟩) (hold _ hp)]
    exact hfz b off (by simpa using hp)
  · intro ha
    simpa using hnd ha
  · intro p hp _
    simpa using hp

end Go.Fw
