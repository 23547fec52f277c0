/-
  The evaluator of this claim, part 6: what it reckons is so of the program. No condition.
-/
import Derived.Test.YtalhamokkblnjaaGreatDoorQ5
import Derived.Deep.Slices
import Derived.ChangeSame
import Derived.Carry
import Derived.JoinedOf
import Derived.Handed
import Derived.OpenShut
import Derived.KernelRfl
import Derived.LaidMore
import Derived.Stop.Joined
import Derived.Test.YtalhamokkblnjaaGreatDoorProg

namespace Go.Fw
set_option linter.unusedSimpArgs false
set_option linter.unusedVariables false
open Go.RowKit Go.ChangeShapes Go.WideShapes Go.Deep

/-- Cells stand for abstract ones, and each is one cell. -/
def CellsRep (K : Ctx) (xs : List AVal) (vs : List Value) : Prop := Reps K xs vs ∧ ∀ v ∈ vs, v.oneCell' = true

/-- Whatever is read as data of type t is told by an element, with what is known of it. -/
def ReadAs (P : Program) (t : TypeId) {α : Type} (c : α → List AVal) (G : α → Prop) : Prop :=
  ∀ (H : Type) (enc : TypeId × Value → H) (w : World) (base : Nat) (spare : Nat → Bool) (held : Bool) (fuel : Nat) (cs : List Value) (x : DataW H × List MemPlace),
    DataW.trod enc P w base spare held fuel t cs = some x → ∃ a, G a ∧ CellsRep (worldCtx w) (c a) cs

variable {P : Program} {t : TypeId}

theorem CellsRep.one {K : Ctx} {x : AVal} {v : Value} (h : Rep K x v) (h1 : v.oneCell' = true) : CellsRep K [x] [v] :=
  ⟨.cons h (.nil K), fun u hu => by simp at hu; subst hu; exact h1⟩

theorem ReadAs.int {k : IntKind} (ht : P.underlying t = some (.int k)) : ReadAs P t (fun n => [.lit (.int k n)]) fun n => (Lit.int k n).wf = true := by
  intro H enc w base spare held fuel cs x h
  obtain ⟨n, rfl, _, hw⟩ := DataW.trod_int ht h
  exact ⟨n, hw, .one (.lit _) rfl⟩

theorem ReadAs.bool (ht : P.underlying t = some .bool) : ReadAs P t (fun b => [.lit (.bool b)]) fun _ => True := by
  intro H enc w base spare held fuel cs x h
  obtain ⟨b, rfl, _⟩ := DataW.trod_bool ht h
  exact ⟨b, trivial, .one (.lit _) rfl⟩

theorem ReadAs.string (ht : P.underlying t = some .string) : ReadAs P t (fun s => [.lit (.string s)]) fun s => s.size ≤ maxLen := by
  intro H enc w base spare held fuel cs x h
  obtain ⟨s, rfl, _, hs⟩ := DataW.trod_string ht h
  exact ⟨s, hs, .one (.lit _) rfl⟩

theorem ReadAs.map {α β : Type} {c : α → List AVal} {c' : β → List AVal} {G : α → Prop} {G' : β → Prop} (h : ReadAs P t c G) (g : α → β) (hc : ∀ a, c' (g a) = c a) (hG : ∀ a, G a → G' (g a)) : ReadAs P t c' G' := by
  intro H enc w base spare held fuel cs x hx
  obtain ⟨a, ha, hr⟩ := h H enc w base spare held fuel cs x hx
  exact ⟨g a, hG a ha, by rw [hc]; exact hr⟩

theorem worldCtx_M {w : World} {b i : Nat} {u : Value} (h : w.cell? ⟨b, i, none⟩ = some u) (h1 : u.oneCell' = true) : (worldCtx w).M b i = some u := by
  simp [worldCtx, h, h1]

theorem add_none (b off n : Nat) : (⟨b, off, none⟩ : Addr).add n = ⟨b, off + n, none⟩ := by
  unfold Addr.add
  by_cases h : n = 0
  · subst h; simp
  · simp [h]

theorem cell?_spot {w : World} {a : Addr} {u : Value} (h : w.cell? a = some u) : a.spot = none := by
  unfold World.cell? at h
  split at h
  · split at h
    · cases h
    · rename_i hs
      cases hsp : a.spot with
      | none => rfl
      | some n => rw [hsp] at hs; simp at hs
  · cases h

theorem ReadAs.slice {α : Type} {c : α → List AVal} {G : α → Prop} {e : TypeId} {k : Nat} (d : α) (ht : P.underlying t = some (.slice e)) (hk : P.cellsOf e = k) (hpos : 0 < k) (he : ReadAs P e c G) (hlen : ∀ a, (c a).length = k) :
    ReadAs P t (fun l => [listA k c d l]) fun l => l.length ≤ maxLen ∧ ∀ a ∈ l, G a := by
  intro H enc w base spare held fuel cs x h
  rcases open_slice ht h with ⟨rfl, _⟩ | ⟨a, len, cap, m, n, D, Pl, rfl, -, hl, hcap, hm, -, hi⟩
  · exact ⟨[], ⟨Nat.zero_le _, fun a ha => by simp at ha⟩, .one (.nil _ _ _) rfl⟩
  have hlm : len ≤ m := by rw [hm]; split <;> omega
  have hel : ∀ i, i < len → ∃ y, G y ∧ ∃ vs : List Value, vs.length = k ∧ (∀ j, j < k → w.cell? (a.add (i * k + j)) = vs[j]?) ∧ CellsRep (worldCtx w) (c y) vs := by
    intro i hlt
    obtain ⟨cs', hc, htr⟩ := hi i (by omega)
    obtain ⟨y, hy, hr⟩ := he H enc w base spare held n cs' _ htr
    rw [hk] at hc
    obtain ⟨_, hcl, hat⟩ := World.cells?_some hc
    refine ⟨y, hy, cs', hcl, fun j hj => ?_, hr⟩
    rw [← Go.Deep.add_add]
    exact hat j hj
  -- choose the elements
  have hch : ∃ ys : List α, ys.length = len ∧ ∀ i, i < len → G (ys.getD i d) ∧ ∃ vs : List Value, vs.length = k ∧ (∀ j, j < k → w.cell? (a.add (i * k + j)) = vs[j]?) ∧ CellsRep (worldCtx w) (c (ys.getD i d)) vs := by
    clear hi hm hl hcap hlm h
    induction len with
    | zero => exact ⟨[], rfl, fun i hi => by omega⟩
    | succ len ih =>
      obtain ⟨ys, hys, hall⟩ := ih fun i hlt => hel i (by omega)
      obtain ⟨y, hy, hv⟩ := hel len (by omega)
      refine ⟨ys ++ [y], by simp [hys], fun i hlt => ?_⟩
      rcases Nat.lt_or_ge i len with h' | h'
      · have e : (ys ++ [y]).getD i d = ys.getD i d := by simp [List.getD, List.getElem?_append_left (show i < ys.length by omega)]
        rw [e]
        exact hall i h'
      · have : i = len := by omega
        subst this
        have e : (ys ++ [y]).getD i d = y := by simp [List.getD, List.getElem?_append_right (show ys.length ≤ i by omega), hys]
        rw [e]
        exact ⟨hy, hv⟩
  obtain ⟨ys, hys, hall⟩ := hch
  refine ⟨ys, ⟨by omega, fun y hy => ?_⟩, .one ?_ rfl⟩
  · obtain ⟨i, hlt, rfl⟩ := List.getElem_of_mem hy
    have := (hall i (by omega)).1
    simpa [List.getD, List.getElem?_eq_getElem hlt] using this
  · rcases Nat.eq_zero_or_pos len with h0 | h0
    · subst h0
      have : ys = [] := by cases ys with | nil => rfl | cons _ _ => simp at hys
      subst this
      exact .empty _ _ _ _ _ (fun h => by cases h)
    · have hsp : a.spot = none := by
        obtain ⟨_, vs, hvl, hvc, _⟩ := hall 0 h0
        have := hvc 0 hpos
        rw [List.getElem?_eq_getElem (by omega)] at this
        have := cell?_spot this
        simpa [Addr.add] using this
      obtain ⟨b, off, sp⟩ := a
      simp only at hsp
      subst hsp
      have hu : ∀ i j, i < len → j < k → ∃ u, w.cell? ⟨b, off + (i * k + j), none⟩ = some u ∧ u.oneCell' = true ∧ ∀ x, (c (ys.getD i d))[j]? = some x → Rep (worldCtx w) x u := by
        intro i j hlt hj
        obtain ⟨_, vs, hvl, hvc, hr⟩ := hall i hlt
        have h1 := hvc j hj
        rw [List.getElem?_eq_getElem (by omega)] at h1
        rw [add_none] at h1
        refine ⟨vs[j]'(by omega), h1, hr.2 _ (List.getElem_mem _), fun x hx => hr.1.2 j x _ hx (List.getElem?_eq_getElem (by omega))⟩
      have hrep := Rep.seq (K := worldCtx w) k len false (fun i => c (ys.getD i d)) b off cap (fun i j => (w.cell? ⟨b, off + (i * k + j), none⟩).getD default) hl (fun h => by cases h) (fun i _ => hlen _)
        (fun i j hlt hj => by
          obtain ⟨u, h1, h2, _⟩ := hu i j hlt hj
          rw [h1]
          exact worldCtx_M h1 h2)
        (fun i j x hlt hx => by
          have hj : j < k := by
            have := (List.getElem?_eq_some_iff.1 hx).1
            rw [hlen] at this
            exact this
          obtain ⟨u, h1, _, h3⟩ := hu i j hlt hj
          rw [h1]
          exact h3 x hx)
      unfold listA
      rw [hys]
      exact hrep

/-- Some fields, one behind another from off on. -/
def ReadFs (P : Program) (off : Nat) (fs : List Field) {α : Type} (c : α → List AVal) (G : α → Prop) : Prop :=
  ∀ (H : Type) (enc : TypeId × Value → H) (w : World) (base : Nat) (spare : Nat → Bool) (held : Bool) (fuel : Nat) (cs : List Value),
    (∀ f ∈ fs, ∃ x, DataW.trod enc P w base spare held fuel f.type ((cs.drop f.offset).take (P.cellsOf f.type)) = some x) → ∃ a, G a ∧ CellsRep (worldCtx w) (c a) ((cs.drop off).take ((fs.map fun f => P.cellsOf f.type).sum))

theorem ReadFs.nil {off : Nat} : ReadFs P off [] (fun _ : Unit => []) fun _ => True := by
  intro H enc w base spare held fuel cs _
  exact ⟨(), trivial, by simp only [List.map_nil, List.sum_nil, List.take_zero]; exact ⟨.nil _, fun v hv => by simp at hv⟩⟩

theorem ReadFs.cons {off : Nat} {f : Field} {fs : List Field} {α β : Type} {c1 : α → List AVal} {G1 : α → Prop} {c2 : β → List AVal} {G2 : β → Prop} (ho : f.offset = off) (h1 : ReadAs P f.type c1 G1) (h2 : ReadFs P (off + P.cellsOf f.type) fs c2 G2) :
    ReadFs P off (f :: fs) (fun p : α × β => c1 p.1 ++ c2 p.2) fun p => G1 p.1 ∧ G2 p.2 := by
  intro H enc w base spare held fuel cs hall
  obtain ⟨x, hx⟩ := hall f (List.mem_cons_self ..)
  obtain ⟨a, ha, hra⟩ := h1 H enc w base spare held fuel _ x hx
  obtain ⟨b, hb, hrb⟩ := h2 H enc w base spare held fuel cs fun g hg => hall g (List.mem_cons_of_mem _ hg)
  refine ⟨(a, b), ⟨ha, hb⟩, ?_⟩
  rw [ho] at hra
  rw [← List.drop_drop] at hrb
  simp only [List.map_cons, List.sum_cons]
  rw [List.take_add]
  exact ⟨hra.1.append hrb.1, fun v hv => by
    rcases List.mem_append.1 hv with h | h
    · exact hra.2 v h
    · exact hrb.2 v h⟩

theorem ReadAs.struct {fs : Array Field} {α : Type} {c : α → List AVal} {G : α → Prop} (ht : P.underlying t = some (.struct fs)) (hs : (fs.toList.map fun f => P.cellsOf f.type).sum = P.cellsOf t) (h : ReadFs P 0 fs.toList c G) : ReadAs P t c G := by
  intro H enc w base spare held fuel cs x hx
  obtain ⟨xs, n, _, _, hlen, hxs, hf⟩ := DataW.trod_struct ht hx
  obtain ⟨a, ha, hr⟩ := h H enc w base spare held n cs fun f hfm => by
    obtain ⟨i, hi, rfl⟩ := List.getElem_of_mem hfm
    have hi' : i < fs.size := by simpa using hi
    have := hf i fs[i] (Array.getElem?_eq_getElem hi')
    rw [List.getElem?_eq_getElem (by omega)] at this
    exact ⟨_, by simpa using this⟩
  refine ⟨a, ha, ?_⟩
  rw [hs, List.drop_zero, List.take_of_length_le (by omega)] at hr
  exact hr

end Go.Fw

namespace Go.Fw
set_option linter.unusedSimpArgs false
set_option linter.unusedVariables false
open Go.RowKit Go.ChangeShapes Go.WideShapes Go.Deep

/-- An argument of type t is told as x a, with what is known of a. -/
def ArgAs (P : Program) (t : TypeId) {α : Type} (x : α → AVal) (G : α → Prop) : Prop :=
  ∀ (H : Type) (enc : TypeId × Value → H) (w : World) (base : Nat) (v : Value) (d : DataW H) (ps : List MemPlace),
    Value.okWide P w .any base t v → DataW.Trod enc P w 0 (fun _ => true) true t v d ps → ∃ a, G a ∧ Rep (worldCtx w) (x a) v

variable {P : Program} {t : TypeId}

theorem CellsRep.head {K : Ctx} {x : AVal} {v : Value} (h : CellsRep K [x] [v]) : Rep K x v := h.1.2 0 x v rfl rfl

theorem ArgAs.int {k : IntKind} (ht : P.underlying t = some (.int k)) : ArgAs P t (fun n => .lit (.int k n)) fun n => (Lit.int k n).wf = true := by
  intro H enc w base v d ps hv hd
  obtain ⟨n, rfl, _, _, hw⟩ := open_int ht hv hd
  exact ⟨n, hw, .lit _⟩

theorem ArgAs.bool (ht : P.underlying t = some .bool) : ArgAs P t (fun b => .lit (.bool b)) fun _ => True := by
  intro H enc w base v d ps hv hd
  obtain ⟨b, rfl, _, _⟩ := open_bool ht hv hd
  exact ⟨b, trivial, .lit _⟩

theorem ArgAs.string (ht : P.underlying t = some .string) : ArgAs P t (fun s => .lit (.string s)) fun s => s.size ≤ maxLen := by
  intro H enc w base v d ps hv hd
  obtain ⟨s, rfl⟩ := okWide_string ht hv
  obtain ⟨fuel, hf⟩ := hd
  obtain ⟨s', h, _, hs⟩ := DataW.trod_string ht hf
  simp [Value.cells] at h
  subst h
  exact ⟨s, hs, .lit _⟩

theorem ArgAs.slice {α : Type} {x : α → AVal} {G : α → Prop} {e : TypeId} (ht : P.underlying t = some (.slice e)) (h : ReadAs P t (fun a => [x a]) G) : ArgAs P t x G := by
  intro H enc w base v d ps hv hd
  obtain ⟨a, len, cap, rfl⟩ := okWide_slice ht hv
  obtain ⟨fuel, hf⟩ := hd
  obtain ⟨y, hy, hr⟩ := h H enc w _ _ _ fuel _ _ hf
  refine ⟨y, hy, CellsRep.head (v := .slice a len cap) ?_⟩
  simpa [Value.cells] using hr

theorem ArgAs.struct {α : Type} {c : α → List AVal} {G : α → Prop} {fs : Array Field} (ht : P.underlying t = some (.struct fs)) (h : ReadAs P t c G) : ArgAs P t (fun a => .agg (c a)) G := by
  intro H enc w base v d ps hv hd
  obtain ⟨cs, rfl, _⟩ := okWide_struct ht hv
  obtain ⟨fuel, hf⟩ := hd
  obtain ⟨y, hy, hr⟩ := h H enc w _ _ _ fuel _ _ hf
  have hr : CellsRep (worldCtx w) (c y) cs.toList := by simpa [Value.cells] using hr
  refine ⟨y, hy, ?_⟩
  have := Rep.agg (K := worldCtx w) (c y) cs.toList hr.1.1 hr.2 hr.1.2
  simpa using this

/-- The arguments together. -/
inductive ArgsAs (P : Program) : List TypeId → (List AVal → Prop) → Prop where
  | nil : ArgsAs P [] (fun l => l = [])
  | cons (t : TypeId) (ts : List TypeId) {α : Type} (x : α → AVal) (G : α → Prop) (Q : List AVal → Prop) (h : ArgAs P t x G) (r : ArgsAs P ts Q) : ArgsAs P (t :: ts) (fun l => ∃ a m, G a ∧ Q m ∧ l = x a :: m)

theorem ArgsAs.read {ts : List TypeId} {Q : List AVal → Prop} (h : ArgsAs P ts Q) {H : Type} {enc : TypeId × Value → H} {w : World} {base : Nat} : ∀ {vs : List Value} {ds : List (DataW H)} {ps : List MemPlace},
    (∀ (j : Nat) t v, ts[j]? = some t → vs[j]? = some v → Value.okWide P w .any base t v) → DataW.TrodAll enc P w 0 (fun _ => true) true ts vs ds ps → ∃ l, Q l ∧ Reps (worldCtx w) l vs := by
  induction h with
  | nil =>
    intro vs ds ps hv h
    obtain ⟨rfl, rfl, rfl⟩ := trodAll_nil h
    exact ⟨[], rfl, .nil _⟩
  | cons t ts x G Q hx _ ih =>
    intro vs ds ps hv h
    obtain ⟨v, vs', d, ds', p, q, rfl, rfl, rfl, hd, hrest⟩ := trodAll_cons h
    obtain ⟨a, ha, hr⟩ := hx H enc w base v d p (hv 0 t v rfl rfl) hd
    obtain ⟨m, hm, hrm⟩ := ih (fun j t v hj hv' => hv (j + 1) t v (by simpa using hj) (by simpa using hv')) hrest
    exact ⟨x a :: m, ⟨a, m, ha, hm, rfl⟩, .cons hr hrm⟩

/-- Arguments read behind the call as they did before. -/
theorem trodAll_below {H : Type} {enc : TypeId × Value → H} {W W' : World} (hl : laidOutB P = true) (hb : Below W.heap.size W W') {sp : Nat → Bool} : ∀ {ts : List TypeId} {vs : List Value} {ds : List (DataW H)} {ps : List MemPlace},
    ts.all (fun t => P.readableRec t && decide (t < P.types.size)) = true → DataW.TrodAll enc P W 0 (fun _ => true) true ts vs ds ps → (∀ x ∈ ps, x.block < W.heap.size) → (∀ x ∈ ps, sp x.block = true) → DataW.TrodAll enc P W' 0 sp true ts vs ds ps
  | [], vs, ds, ps, _, h, _, _ => by
    obtain ⟨rfl, rfl, rfl⟩ := trodAll_nil h
    rfl
  | t :: ts, vs, ds, ps, ht, h, hlt, hsp => by
    obtain ⟨v, vs', d, ds', p, q, rfl, rfl, rfl, hd, hrest⟩ := trodAll_cons h
    simp only [List.all_cons, Bool.and_eq_true, decide_eq_true_eq] at ht
    refine ⟨p, q, ?_, trodAll_below hl hb (by simpa using ht.2) hrest (fun x hx => hlt x (List.mem_append_right _ hx)) (fun x hx => hsp x (List.mem_append_right _ hx)), rfl⟩
    exact WideElems.Trod_stays hl ht.1.1 ht.1.2 hd (fun x hx => hb.same (hlt x (List.mem_append_left _ hx))) (fun x hx => hsp x (List.mem_append_left _ hx))

/-- THE LAW's STEP. -/
theorem law_lifted {C : Checked} {os : Os} {f : FuncId} {fn : Func} {s : ChangeSpec} {conds : List PathCond} {apart fresh handsOn again : Bool} {H : Type} {enc : TypeId × Value → H} {Q : List AVal → Prop} {tb : TypeId}
    (own : ownKnob C.prog.godebug = none) (started : os.Started) (noInit : C.prog.inits.idxOf? f = none) (hfn : C.prog.funcs[f]? = some fn)
    (witness : ∃ (w : World) (tape : Tape) (i : Input), w.os = os ∧ (w.forCall tape i).Shaped C.prog ∧ i.vars = [] ∧ Input.okWide C.prog (w.forCall tape i) .any w.heap.size f i ∧
      s.pre6 enc C.prog fn conds apart (w.forCall tape i).memory i.args ∧ ({} : Assume).holds C.prog (lone (Frame.enter C.prog f i.args .normal) [] (w.forCall tape i)))
    (hvars : s.vars = []) (hres : fn.resultTypes = #[tb]) (hbool : C.prog.underlying tb = some .bool) (laid : laidOutB C.prog = true)
    (hts : fn.params.toList.all (fun t => C.prog.readableRec t && decide (t < C.prog.types.size)) = true)
    (hspec : ∀ ds : List (DataW H), ds.length = fn.params.size → s.fn H ds = { results := [.lit (.bool true)], args := ds })
    (hargs : ArgsAs C.prog fn.params.toList Q) (hlaw : ∀ l, Q l → AGives C.prog f l [] (.lit (.bool true))) :
    ReturnsInHanded {} C os f .any (s.pre6 enc C.prog fn conds apart) (s.post enc C.prog fn apart fresh handsOn again) := by
  refine returnsInHanded_of_change own started noInit hfn witness ?_
  intro W base args ds gs before hval hW hcnd _
  have hW' := hW
  obtain ⟨p, q, hA, hV, hpq, hfz, hnd⟩ := hW
  rw [hvars] at hV
  obtain ⟨rfl, rfl⟩ := trodVars_none hV
  rw [List.append_nil] at hpq
  subst hpq
  obtain ⟨l, hQ, hreps⟩ := hargs.read (base := base) (vs := args.toList) (fun j t v hj hv => hval j t v (by simpa using hj) (by simpa using hv)) hA
  have hc := law_calls (hlaw l hQ) hreps
  rw [show args.toList.toArray = args by simp] at hc
  refine hc.mono fun e W' ⟨he, hb⟩ => ?_
  subst he
  have hlen : ds.length = fn.params.size := by
    have : ∀ {ts : List TypeId} {vs : List Value} {ds : List (DataW H)} {ps : List MemPlace}, DataW.TrodAll enc C.prog W 0 (fun _ => true) true ts vs ds ps → ds.length = ts.length := by
      intro ts
      induction ts with
      | nil => intro vs ds ps h; obtain ⟨rfl, rfl, rfl⟩ := trodAll_nil h; rfl
      | cons t ts ih => intro vs ds ps h; obtain ⟨v, vs', d, ds', p, q, rfl, rfl, rfl, hd, hrest⟩ := trodAll_cons h; simp [ih hrest]
    simpa using this hA
  have hfn2 := hspec ds hlen
  have hold : ∀ p ∈ before, p.block < W.heap.size := fun p hp => by simpa using hW'.lt p hp
  have hR : ∀ (b : Nat) (sp : Nat → Bool) (hd : Bool), DataW.TrodAll enc C.prog W' b sp hd fn.resultTypes.toList ((Value.bool true).resultList fn.resultTypes.size) (s.fn H (ds ++ [])).results [] := by
    intro b sp hd
    rw [List.append_nil, hfn2, hres]
    exact trodAll_cons_mk (shut_bool hbool _) trodAll_mk0
  have hAr : ∀ sp : Nat → Bool, (∀ p ∈ before, sp p.block = true) → DataW.TrodAll enc C.prog W' 0 sp true fn.params.toList args.toList (s.fn H (ds ++ [])).args before := by
    intro sp hsp
    rw [List.append_nil, hfn2]
    exact trodAll_below laid hb hts hA hold hsp
  have hVr : ∀ sp : Nat → Bool, DataW.TrodVars enc C.prog W' sp s.vars (s.fn H (ds ++ [])).vars [] := by
    intro sp
    rw [List.append_nil, hfn2, hvars]
    rfl
  refine ⟨_, rfl, ds, [], before, [], before, [], hW', hR _ _ _, hAr _ (fun p hp => by simpa using hold p hp), hVr _, hb.frame _, fun _ => ⟨ok_one hres rfl (okWide_bool_mk hbool _), _, _, ([] ++ before) ++ [], ⟨[] ++ before, [], trodAll_append (hAr _ (fun _ _ => rfl)) (hR _ _ _), hVr _, rfl, ?_, ?_⟩, ?_⟩⟩
  · intro b off hp
    have hp : MemPlace.cell b off ∈ before := by simpa using hp
    rw [hb.frozen (p := ⟨b, off, none⟩) (hold _ hp)]
    exact hfz b off (by simpa using hp)
  · intro ha
    simpa using hnd ha
  · intro p hp _
    simpa using hp

end Go.Fw

namespace Go.Fw
set_option linter.unusedSimpArgs false
set_option linter.unusedVariables false
open Go.RowKit Go.ChangeShapes Go.WideShapes Go.Deep

/-- THE LAW's STEP. -/
theorem law_lifted_laid {C : Checked} {os : Os} {f : FuncId} {fn : Func} {s : ChangeSpec} {laid0 : List (String × DataW Unit)} {conds : List PathCond} {apart fresh handsOn again : Bool} {H : Type} {enc : TypeId × Value → H} {Q : List AVal → Prop} {tb : TypeId}
    (own : ownKnob C.prog.godebug = none) (started : os.Started) (noInit : C.prog.inits.idxOf? f = none) (hfn : C.prog.funcs[f]? = some fn)
    (witness : ∃ (w : World) (tape : Tape) (i : Input), w.os = os ∧ (w.forCall tape i).Shaped C.prog ∧ i.vars = [] ∧ Input.okWide C.prog (w.forCall tape i) .any w.heap.size f i ∧
      ((s.pre enc C.prog fn conds apart (w.forCall tape i).memory i.args ∧ laidMetH C.prog laid0 (w.forCall tape i).memory) ∧ sizedMet enc C.prog fn (OpenSpec.ofChange s) apart (w.forCall tape i).memory i.args) ∧ ({} : Assume).holds C.prog (lone (Frame.enter C.prog f i.args .normal) [] (w.forCall tape i)))
    (hvars : s.vars = []) (hres : fn.resultTypes = #[tb]) (hbool : C.prog.underlying tb = some .bool) (laid : laidOutB C.prog = true)
    (hts : fn.params.toList.all (fun t => C.prog.readableRec t && decide (t < C.prog.types.size)) = true)
    (hspec : ∀ ds : List (DataW H), ds.length = fn.params.size → s.fn H ds = { results := [.lit (.bool true)], args := ds })
    (hargs : ArgsAs C.prog fn.params.toList Q) (hlaw : ∀ l, Q l → AGives C.prog f l [] (.lit (.bool true))) :
    ReturnsInHanded {} C os f .any (fun w args => (s.pre enc C.prog fn conds apart w args ∧ laidMetH C.prog laid0 w) ∧ sizedMet enc C.prog fn (OpenSpec.ofChange s) apart w args) (s.post enc C.prog fn apart fresh handsOn again) := by
  refine returnsInHanded_of_change_and (X := fun w _ => laidMetH C.prog laid0 w) (fun _ _ _ hh h => h.of_heap hh) own started noInit hfn witness ?_
  intro W base args ds gs before hval hW hcnd _ _ _
  have hW' := hW
  obtain ⟨p, q, hA, hV, hpq, hfz, hnd⟩ := hW
  rw [hvars] at hV
  obtain ⟨rfl, rfl⟩ := trodVars_none hV
  rw [List.append_nil] at hpq
  subst hpq
  obtain ⟨l, hQ, hreps⟩ := hargs.read (base := base) (vs := args.toList) (fun j t v hj hv => hval j t v (by simpa using hj) (by simpa using hv)) hA
  have hc := law_calls (hlaw l hQ) hreps
  rw [show args.toList.toArray = args by simp] at hc
  refine hc.mono fun e W' ⟨he, hb⟩ => ?_
  subst he
  have hlen : ds.length = fn.params.size := by
    have : ∀ {ts : List TypeId} {vs : List Value} {ds : List (DataW H)} {ps : List MemPlace}, DataW.TrodAll enc C.prog W 0 (fun _ => true) true ts vs ds ps → ds.length = ts.length := by
      intro ts
      induction ts with
      | nil => intro vs ds ps h; obtain ⟨rfl, rfl, rfl⟩ := trodAll_nil h; rfl
      | cons t ts ih => intro vs ds ps h; obtain ⟨v, vs', d, ds', p, q, rfl, rfl, rfl, hd, hrest⟩ := trodAll_cons h; simp [ih hrest]
    simpa using this hA
  have hfn2 := hspec ds hlen
  have hold : ∀ p ∈ before, p.block < W.heap.size := fun p hp => by simpa using hW'.lt p hp
  have hR : ∀ (b : Nat) (sp : Nat → Bool) (hd : Bool), DataW.TrodAll enc C.prog W' b sp hd fn.resultTypes.toList ((Value.bool true).resultList fn.resultTypes.size) (s.fn H (ds ++ [])).results [] := by
    intro b sp hd
    rw [List.append_nil, hfn2, hres]
    exact trodAll_cons_mk (shut_bool hbool _) trodAll_mk0
  have hAr : ∀ sp : Nat → Bool, (∀ p ∈ before, sp p.block = true) → DataW.TrodAll enc C.prog W' 0 sp true fn.params.toList args.toList (s.fn H (ds ++ [])).args before := by
    intro sp hsp
    rw [List.append_nil, hfn2]
    exact trodAll_below laid hb hts hA hold hsp
  have hVr : ∀ sp : Nat → Bool, DataW.TrodVars enc C.prog W' sp s.vars (s.fn H (ds ++ [])).vars [] := by
    intro sp
    rw [List.append_nil, hfn2, hvars]
    rfl
  refine ⟨_, rfl, ds, [], before, [], before, [], hW', hR _ _ _, hAr _ (fun p hp => by simpa using hold p hp), hVr _, hb.frame _, fun _ => ⟨ok_one hres rfl (okWide_bool_mk hbool _), _, _, ([] ++ before) ++ [], ⟨[] ++ before, [], trodAll_append (hAr _ (fun _ _ => rfl)) (hR _ _ _), hVr _, rfl, ?_, ?_⟩, ?_⟩⟩
  · intro b off hp
    have hp : MemPlace.cell b off ∈ before := by simpa using hp
    rw [hb.frozen (p := ⟨b, off, none⟩) (hold _ hp)]
    exact hfz b off (by simpa using hp)
  · intro ha
    simpa using hnd ha
  · intro p hp _
    simpa using hp

end Go.Fw

namespace Go.Proofs.YtalhamokkblnjaaGreatDoor
set_option linter.unusedSimpArgs false
set_option linter.unusedVariables false
open Go.Fw

set_option maxRecDepth 100000

theorem ty2 : Tryz.prog.underlying 9 = some (.string) := by kernel_rfl
theorem ty1 : Tryz.prog.underlying 4 = some (.bool) := by kernel_rfl
theorem ty0 : Tryz.prog.underlying 3 = some (.int .i64) := by kernel_rfl

structure Ac where
  kind : Int
  n : Int
  m : Int
  good : Bool
  text : ByteArray
def Ac.cells (x : Ac) : List AVal := [.lit (.int .i64 x.kind), .lit (.int .i64 x.n), .lit (.int .i64 x.m), .lit (.bool x.good), .lit (.string x.text)]
def Ac.a (x : Ac) : AVal := .agg x.cells
def Ac.wf (x : Ac) : Prop := (Lit.int .i64 x.kind).wf = true ∧ (Lit.int .i64 x.n).wf = true ∧ (Lit.int .i64 x.m).wf = true ∧ True ∧ x.text.size ≤ maxLen ∧ True
theorem readAc : ReadAs Tryz.prog 23 Ac.cells Ac.wf := by
  have h := ReadAs.struct (P := Tryz.prog) (t := 23) rfl (by kernel_rfl) (.cons rfl (ReadAs.int ty0) (.cons rfl (ReadAs.int ty0) (.cons rfl (ReadAs.int ty0) (.cons rfl (ReadAs.bool ty1) (.cons rfl (ReadAs.string ty2) .nil)))))
  exact h.map (fun p => (⟨p.1, p.2.1, p.2.2.1, p.2.2.2.1, p.2.2.2.2.1⟩ : Ac)) (fun _ => rfl) (fun _ h => h)

end Go.Proofs.YtalhamokkblnjaaGreatDoor

namespace Go.Fw
set_option linter.unusedSimpArgs false
set_option linter.unusedVariables false
open Go.RowKit

/-- A block of an object that is kept. -/
def keptB (K : Ctx) (objs : Objs) (n : Nat) (ks : List Nat) (b : Nat) : Prop :=
  ∃ (o : Nat) (p : Nat × AObj), objs[o]? = some p ∧ p.2.live = true ∧ (o < n ∨ o ∈ ks) ∧ K.C o p.1 ≠ 0 ∧ K.ρ o p.1 = b

open Classical in
/-- The context behind a turn: the first n objects as they are, then those of ks, each as of its first version. -/
noncomputable def Ctx.shed (K : Ctx) (w : World) (objs : Objs) (n : Nat) (ks : List Nat) : Ctx :=
  { K with
    n := n + ks.length
    ρ := fun o v => if o < n then K.ρ o v else K.ρ (ks.getD (o - n) 0) (K.vs (ks.getD (o - n) 0))
    C := fun o v => if o < n then K.C o v else K.C (ks.getD (o - n) 0) (K.vs (ks.getD (o - n) 0))
    vs := fun o => if o < n then K.vs o else 0
    M := fun b i => match K.M b i with
      | some u => some u
      | none => if K.B b = none ∧ ¬ keptB K objs n ks b then (match w.cell? ⟨b, i, none⟩ with | some u => if u.oneCell' then some u else none | none => none) else none }

theorem nodup_inj : ∀ {ks : List Nat}, ks.Nodup → ∀ {i j : Nat} (hi : i < ks.length) (hj : j < ks.length), ks[i] = ks[j] → i = j
  | [], _, _, _, hi, _, _ => by simp at hi
  | k :: ks, hnd, i, j, hi, hj, h => by
    rw [List.nodup_cons] at hnd
    cases i with
    | zero => cases j with
      | zero => rfl
      | succ j => simp at h; exact absurd (h ▸ List.getElem_mem _) hnd.1
    | succ i => cases j with
      | zero => simp at h; exact absurd (h ▸ List.getElem_mem _) hnd.1
      | succ j => simp at h; exact congrArg (· + 1) (nodup_inj hnd.2 _ _ h)

section
variable {objs : Objs} {n : Nat} {ks : List Nat}

/-- x is told as y behind the turn. -/
def TurnV (objs : Objs) (n : Nat) (ks : List Nat) (x y : AVal) : Prop := ∀ (K : Ctx) (w : World) (v : Value), MemSat K objs w → Rep K x v → Rep (K.shed w objs n ks) y v

theorem turn_M {K : Ctx} {w : World} {b i : Nat} {u : Value} (h : K.M b i = some u) : (K.shed w objs n ks).M b i = some u := by simp [Ctx.shed, h]

theorem turn_low {x : AVal} (h : Low n x) : TurnV objs n ks x x := by
  intro K w v hm hr
  refine Rep.low (K := K) (L := K.shed w objs n ks) (n := n) (fun _ _ _ h => turn_M h) (by simp [Ctx.shed]) (fun o v ho => by simp [Ctx.shed, ho]) (fun o v ho => by simp [Ctx.shed, ho]) (fun o ho => by simp [Ctx.shed, ho]) hr h

theorem turn_eq {x y : AVal} (e : x = y) (h : Low n x) : TurnV objs n ks x y := by subst e; exact turn_low h

theorem turn_own {o ver k off len len' : Nat} {p : AObj} (i : Nat) (hi : ks[i]? = some o) (hp : objs[o]? = some (ver, p)) (hl : len = len') : TurnV objs n ks (.own o ver k off len) (.own (n + i) 0 k off len') := by
  intro K w v hm hr
  subst hl
  have hver : ver = K.vs o := hm.ver o _ hp
  have hlt : i < ks.length := (List.getElem?_eq_some_iff.1 hi).1
  have hg : ks.getD i 0 = o := by simp [List.getD, hi]
  obtain ⟨_, _, hcase⟩ := rep_own hr
  rcases hcase with ⟨rfl, rfl, rfl⟩ | ⟨a, c, rfl, q1, q2, q3⟩
  · exact .ownNil _ _ _ (by simp [Ctx.shed]; omega) (Nat.zero_le _)
  · refine .own _ _ _ _ _ (by simp [Ctx.shed]; omega) (Nat.zero_le _) a c q1 ?_ ?_
    · simp only [Ctx.shed, if_neg (show ¬ n + i < n by omega), show n + i - n = i by omega, hg]; rw [← hver]; exact q2
    · simp only [Ctx.shed, if_neg (show ¬ n + i < n by omega), show n + i - n = i by omega, hg]; rw [← hver]; exact q3

theorem turn_ptr {o ver k i' j : Nat} {p : AObj} (i : Nat) (hi : ks[i]? = some o) (hp : objs[o]? = some (ver, p)) : TurnV objs n ks (.ptr o ver k i' j) (.ptr (n + i) 0 k i' j) := by
  intro K w v hm hr
  have hver : ver = K.vs o := hm.ver o _ hp
  have hlt : i < ks.length := (List.getElem?_eq_some_iff.1 hi).1
  have hg : ks.getD i 0 = o := by simp [List.getD, hi]
  obtain ⟨rfl, _, _⟩ := rep_ptr hr
  have := Rep.ptr (K := K.shed w objs n ks) (n + i) 0 k i' j (by simp [Ctx.shed]; omega) (Nat.zero_le _)
  simp only [Ctx.shed, if_neg (show ¬ n + i < n by omega), show n + i - n = i by omega, hg] at this
  rw [hver]
  exact this

/-- A block of an object that is let go is never written again. -/
theorem turn_cell {K : Ctx} {w : World} (hm : MemSat K objs w) {o ver k : Nat} {t : TypeId} {es : List (List AVal)} (hp : objs[o]? = some (ver, .row t k es)) (hn : n ≤ o) (hk : o ∉ ks) (hC : K.C o ver ≠ 0) {i : Nat} {u : Value}
    (hc : w.cell? ⟨K.ρ o ver, i, none⟩ = some u) (h1 : u.oneCell' = true) : (K.shed w objs n ks).M (K.ρ o ver) i = some u := by
  have hlo := hm.lo o _ hp rfl hC
  have hnot : ¬ keptB K objs n ks (K.ρ o ver) := by
    rintro ⟨o', p', hp', hl', hin, hC', he⟩
    have hne : o ≠ o' := by
      rintro rfl
      rcases hin with h | h
      · omega
      · exact hk h
    exact hm.dis o o' _ p' hp hp' rfl hl' hC hC' hne he.symm
  have hM : K.M (K.ρ o ver) i = none := hlo.2.2 i
  have hB : K.B (K.ρ o ver) = none := hlo.1
  simp only [Ctx.shed, hM, hc, h1, if_true]
  rw [if_pos ⟨hB, hnot⟩]

/-- Cells told anew, element by element. -/
inductive TurnCs (objs : Objs) (n : Nat) (ks : List Nat) : List AVal → List AVal → Prop where
  | nil : TurnCs objs n ks [] []
  | cons (x y : AVal) (xs ys : List AVal) (h : TurnV objs n ks x y) (t : TurnCs objs n ks xs ys) : TurnCs objs n ks (x :: xs) (y :: ys)

theorem TurnCs.length {xs ys : List AVal} (h : TurnCs objs n ks xs ys) : ys.length = xs.length := by
  induction h with
  | nil => rfl
  | cons _ _ _ _ _ _ ih => simp [ih]

theorem TurnCs.get {xs ys : List AVal} (h : TurnCs objs n ks xs ys) : ∀ {j : Nat} {y : AVal}, ys[j]? = some y → ∃ x, xs[j]? = some x ∧ TurnV objs n ks x y := by
  induction h with
  | nil => intro j y hy; simp at hy
  | cons x y xs ys h _ ih =>
    intro j z hz
    cases j with
    | zero => simp at hz; subst hz; exact ⟨x, rfl, h⟩
    | succ j => simp at hz; obtain ⟨x', hx', ht⟩ := ih hz; exact ⟨x', by simpa using hx', ht⟩

theorem TurnCs.low : ∀ {xs : List AVal}, LowL n xs → TurnCs objs n ks xs xs
  | [], _ => .nil
  | x :: xs, h => .cons x x xs xs (turn_low (h x (List.mem_cons_self ..))) (TurnCs.low fun y hy => h y (List.mem_cons_of_mem _ hy))

inductive TurnEs (objs : Objs) (n : Nat) (ks : List Nat) : List (List AVal) → List (List AVal) → Prop where
  | nil : TurnEs objs n ks [] []
  | cons (x y : List AVal) (xs ys : List (List AVal)) (h : TurnCs objs n ks x y) (t : TurnEs objs n ks xs ys) : TurnEs objs n ks (x :: xs) (y :: ys)

theorem TurnEs.length {xs ys : List (List AVal)} (h : TurnEs objs n ks xs ys) : ys.length = xs.length := by
  induction h with
  | nil => rfl
  | cons _ _ _ _ _ _ ih => simp [ih]

theorem TurnEs.get {xs ys : List (List AVal)} (h : TurnEs objs n ks xs ys) : ∀ {j : Nat} {y : List AVal}, ys[j]? = some y → ∃ x, xs[j]? = some x ∧ TurnCs objs n ks x y := by
  induction h with
  | nil => intro j y hy; simp at hy
  | cons x y xs ys h _ ih =>
    intro j z hz
    cases j with
    | zero => simp at hz; subst hz; exact ⟨x, rfl, h⟩
    | succ j => simp at hz; obtain ⟨x', hx', ht⟩ := ih hz; exact ⟨x', by simpa using hx', ht⟩

theorem TurnEs.low : ∀ {xs : List (List AVal)}, (∀ e ∈ xs, LowL n e) → TurnEs objs n ks xs xs
  | [], _ => .nil
  | x :: xs, h => .cons x x xs xs (.low (h x (List.mem_cons_self ..))) (TurnEs.low fun y hy => h y (List.mem_cons_of_mem _ hy))

theorem TurnEs.map {α : Type} {c c' : α → List AVal} (h : ∀ x, TurnCs objs n ks (c x) (c' x)) : ∀ (l : List α), TurnEs objs n ks (l.map c) (l.map c')
  | [] => .nil
  | x :: l => .cons _ _ _ _ (h x) (TurnEs.map h l)

theorem TurnEs.append {a b a' b' : List (List AVal)} (h : TurnEs objs n ks a a') (g : TurnEs objs n ks b b') : TurnEs objs n ks (a ++ b) (a' ++ b') := by
  induction h with
  | nil => exact g
  | cons x y xs ys h _ ih => exact .cons _ _ _ _ h ih

/-- An own slice of an object that is let go. -/
theorem turn_frozen {o ver k off len : Nat} {t : TypeId} {es es' : List (List AVal)} (hp : objs[o]? = some (ver, .row t k es)) (hn : n ≤ o) (hk : o ∉ ks) (he : TurnEs objs n ks es es') (hle : off + len ≤ es.length) :
    TurnV objs n ks (.own o ver k off len) (.seq k len false fun i => es'.getD (off + i) []) := by
  intro K w v hm hr
  obtain ⟨ho, hv, hcase⟩ := rep_own hr
  rcases hcase with ⟨rfl, rfl, rfl⟩ | ⟨a, c, rfl, hlc, hC, ha⟩
  · exact .nil _ _ _
  · refine rep_seq_mk hlc (fun h => by cases h) (fun h => by cases h) (fun hpos => ?_)
    have := ha (by omega)
    subst this
    have hC0 : K.C o ver ≠ 0 := by omega
    obtain ⟨cc, hcc, hs, h1, hrep⟩ := hm.rowBlock hp hC0
    have hel := (hm.obj o _ hp).1
    have get : ∀ i, i < len → ∃ e e', es[off + i]? = some e ∧ es'[off + i]? = some e' ∧ es'.getD (off + i) [] = e' ∧ e.length = k ∧ e'.length = k ∧ TurnCs objs n ks e e' := by
      intro i hi
      have hlt' : off + i < es'.length := by rw [he.length]; omega
      obtain ⟨e, h1, h2⟩ := he.get (List.getElem?_eq_getElem hlt')
      have hke := hel e (mem_get h1)
      exact ⟨e, es'[off + i], h1, List.getElem?_eq_getElem hlt', by simp [hlt'], hke, by rw [h2.length]; exact hke, h2⟩
    refine ⟨K.ρ o ver, off * k, fun i j => (cc[(off + i) * k + j]?).getD undef, rfl, fun i hi => ?_, fun i j hi hj => ?_, fun i j x hi hx => ?_⟩
    · obtain ⟨e, e', _, _, he', _, hk', _⟩ := get i hi; rw [he']; exact hk'
    · obtain ⟨e, e', he1, _, _, hke, _, _⟩ := get i hi
      obtain ⟨u, hu, _⟩ := hrep (off + i) j e _ he1 (List.getElem?_eq_getElem (by omega))
      have hcell : w.cell? ⟨K.ρ o ver, off * k + (i * k + j), none⟩ = some u := by
        obtain ⟨fr, _, hcb⟩ := hcc
        rw [← Nat.add_assoc, ← Nat.add_mul]
        simp [World.cell?, hcb, hu]
      rw [turn_cell hm hp hn hk hC0 hcell (h1 u (Array.mem_toList_iff.2 (Array.mem_of_getElem? hu)))]
      simp [hu]
    · obtain ⟨e, e', he1, he2, he3, hke, hke', ht⟩ := get i hi
      rw [he3] at hx
      obtain ⟨y, hy, hty⟩ := ht.get hx
      obtain ⟨u, hu, hru⟩ := hrep (off + i) j e y he1 hy
      simp only [hu, Option.getD_some]
      exact hty K w u hm hru

/-- .. told as a list. -/
theorem turn_list {α : Type} {o ver k len : Nat} {t : TypeId} {es : List (List AVal)} {c : α → List AVal} (d : α) (l : List α) (hp : objs[o]? = some (ver, .row t k es)) (hn : n ≤ o) (hk : o ∉ ks) (he : TurnEs objs n ks es (l.map c)) (hlen : len = l.length) :
    TurnV objs n ks (.own o ver k 0 len) (listA k c d l) := by
  have hl : l.length = es.length := by have := he.length; simpa using this
  have h := turn_frozen (off := 0) (len := len) hp hn hk he (by omega)
  intro K w v hm hr
  subst hlen
  refine rep_seqCongr (fun i hi => ?_) (fun h => h) (h K w v hm hr)
  simp [List.getD, List.getElem?_map, List.getElem?_eq_getElem hi]

/-- .. whose cells name no object. -/
theorem turn_list0 {α : Type} {o ver k len : Nat} {t : TypeId} {es : List (List AVal)} {c : α → List AVal} (d : α) (l : List α) (hp : objs[o]? = some (ver, .row t k es)) (hn : n ≤ o) (hk : o ∉ ks) (he : es = l.map c) (hc : ∀ x, (c x).all low0 = true) (hlen : len = l.length) :
    TurnV objs n ks (.own o ver k 0 len) (listA k c d l) :=
  turn_list d l hp hn hk (by subst he; exact .map (fun x => .low fun y hy => low0_sound (List.all_eq_true.1 (hc x) y hy)) l) hlen

theorem turn_seqCongr {k m : Nat} {t t' : Bool} {f g : Nat → List AVal} (h : ∀ i, i < m → f i = g i) (ht : t' = true → t = true) (hl : Low n (.seq k m t f)) : TurnV objs n ks (.seq k m t f) (.seq k m t' g) := by
  intro K w v hm hr
  exact rep_seqCongr h ht (turn_low hl K w v hm hr)

theorem turn_agg {xs ys : List AVal} (h : TurnCs objs n ks xs ys) : TurnV objs n ks (.agg xs) (.agg ys) := by
  intro K w v hm hr
  obtain ⟨vs, rfl, hr2, h1⟩ := rep_agg hr
  refine .agg ys vs (hr2.1.trans h.length.symm) h1 fun i y v hy hv => ?_
  obtain ⟨x, hx, ht⟩ := h.get hy
  exact ht K w v hm (hr2.2 i x v hx hv)

theorem turn_tup {xs ys : List AVal} (h : TurnCs objs n ks xs ys) : TurnV objs n ks (.tup xs) (.tup ys) := by
  intro K w v hm hr
  obtain ⟨vs, rfl, hr2⟩ := rep_tup hr
  refine .tup ys vs (hr2.1.trans h.length.symm) fun i y v hy hv => ?_
  obtain ⟨x, hx, ht⟩ := h.get hy
  exact ht K w v hm (hr2.2 i x v hx hv)

theorem turn_nil {k : Nat} {t : Bool} {f : Nat → List AVal} : TurnV objs n ks (.lit (.slice none 0 0)) (.seq k 0 t f) := by
  intro K w v hm hr
  have := rep_lit hr
  subst this
  exact .nil k t f

theorem turn_any {x : AVal} : TurnV objs n ks x .any := fun _ _ v _ _ => .any v

/-- An object told anew. -/
inductive TurnO (objs : Objs) (n : Nat) (ks : List Nat) : AObj → AObj → Prop where
  | row (t : TypeId) (k : Nat) (es es' : List (List AVal)) (h : TurnEs objs n ks es es') : TurnO objs n ks (.row t k es) (.row t k es')
  | dead (p : AObj) : TurnO objs n ks p .dead
  | strIter (s : ByteArray) (pos : Nat) : TurnO objs n ks (.other (.strIter s pos)) (.other (.strIter s pos))
  | map (es es' : List (Value × AVal × Nat)) (clock : Nat) (hl : es'.length = es.length) (h : ∀ (i : Nat) (k : Value) (y : AVal) (st : Nat), es'[i]? = some (k, y, st) → ∃ x, es[i]? = some (k, x, st) ∧ TurnV objs n ks x y) : TurnO objs n ks (.other (.map es clock)) (.other (.map es' clock))
  | mapIter (o i since : Nat) (seen : Array Nat) (last : Nat) (p : AObj) (hi : ks[i]? = some o) (hp : objs[o]? = some (0, p)) : TurnO objs n ks (.other (.mapIter o since seen last)) (.other (.mapIter (n + i) since seen last))

theorem TurnO.same {t : TypeId} {k : Nat} {es es' : List (List AVal)} (he : es = es') (h : ∀ e ∈ es, LowL n e) : TurnO objs n ks (.row t k es) (.row t k es') := by
  subst he
  exact .row t k es es (.low h)

/-- The objects that are kept, one by one. -/
inductive TurnL (objs : Objs) (n : Nat) (ks : List Nat) : List Nat → Objs → Prop where
  | nil : TurnL objs n ks [] []
  | cons (o : Nat) (os : List Nat) (p : Nat × AObj) (q : AObj) (r : Objs) (hp : objs[o]? = some p) (hq : TurnO objs n ks p.2 q) (hr : TurnL objs n ks os r) : TurnL objs n ks (o :: os) ((0, q) :: r)

theorem TurnL.length {os : List Nat} {r : Objs} (h : TurnL objs n ks os r) : r.length = os.length := by
  induction h with
  | nil => rfl
  | cons _ _ _ _ _ _ _ _ ih => simp [ih]

theorem TurnL.get {os : List Nat} {r : Objs} (h : TurnL objs n ks os r) : ∀ {i : Nat} {q : Nat × AObj}, r[i]? = some q → ∃ o p, os[i]? = some o ∧ objs[o]? = some p ∧ q.1 = 0 ∧ TurnO objs n ks p.2 q.2 := by
  induction h with
  | nil => intro i q hq; simp at hq
  | cons o os p q r hp hq _ ih =>
    intro i z hz
    cases i with
    | zero => simp at hz; subst hz; exact ⟨o, p, rfl, hp, rfl, hq⟩
    | succ i => simp at hz; obtain ⟨o', p', h1, h2⟩ := ih hz; exact ⟨o', p', by simpa using h1, h2⟩

theorem TurnO.live {p q : AObj} (h : TurnO objs n ks p q) (hl : q.live = true) : p.live = true := by
  cases h with
  | row t k es es' h => rfl
  | dead p => cases hl
  | strIter s pos => rfl
  | map es es' clock hl h => rfl
  | mapIter o i since seen last p hi hp => rfl

theorem TurnO.sat {K : Ctx} {w : World} (hm : MemSat K objs w) {o ver i : Nat} {p q : AObj} (hp : objs[o]? = some (ver, p)) (h : TurnO objs n ks p q) (hρ : (K.shed w objs n ks).ρ i 0 = K.ρ o ver) (hC : (K.shed w objs n ks).C i 0 = K.C o ver) : ObjSat (K.shed w objs n ks) w i 0 q := by
  cases h with
  | dead p => trivial
  | strIter s pos =>
    obtain ⟨h1, b, h2, h3⟩ := hm.obj o _ hp
    exact ⟨by rw [hC]; exact h1, b, by rw [hρ]; exact h2, h3⟩
  | map es es' clock hl h =>
    obtain ⟨h1, b, h2, arr, h3, h4, h5⟩ := hm.obj o _ hp
    refine ⟨by rw [hC]; exact h1, b, by rw [hρ]; exact h2, arr, h3, by rw [hl]; exact h4, fun i' k y st e he ha => ?_⟩
    obtain ⟨x, hx, ht⟩ := h i' k y st he
    obtain ⟨q1, q2, q3⟩ := h5 i' k x st e hx ha
    exact ⟨q1, q2, ht K w _ hm q3⟩
  | mapIter o' i' since seen last p hi hp' =>
    obtain ⟨h1, b, h2, h3, h4⟩ := hm.obj o _ hp
    have hlt : i' < ks.length := (List.getElem?_eq_some_iff.1 hi).1
    have hv : K.vs o' = 0 := (hm.ver o' _ hp').symm
    have hg : ks.getD i' 0 = o' := by simp [List.getD, hi]
    refine ⟨by rw [hC]; exact h1, b, by rw [hρ]; exact h2, by simp [Ctx.shed]; omega, ?_⟩
    rw [show (K.shed w objs n ks).ρ (n + i') 0 = K.ρ o' 0 by simp only [Ctx.shed, if_neg (show ¬ n + i' < n by omega), show n + i' - n = i' by omega, hg, hv]]
    exact h4
  | row t k es es' h =>
    obtain ⟨h1, h2, h3⟩ := hm.obj o _ hp
    refine ⟨fun e he => ?_, by rw [hC, h.length]; exact h2, fun hc => ?_⟩
    · obtain ⟨j, hj, rfl⟩ := List.getElem_of_mem he
      obtain ⟨e, q1, q2⟩ := h.get (List.getElem?_eq_getElem hj)
      rw [q2.length]
      exact h1 e (mem_get q1)
    · rw [hC] at hc
      obtain ⟨c, q1, q2, q3, q4⟩ := h3 hc
      refine ⟨c, by rw [hρ]; exact q1, by rw [hC]; exact q2, q3, fun i' j e x he hx => ?_⟩
      obtain ⟨e0, r1, r2⟩ := h.get he
      obtain ⟨x0, r3, r4⟩ := r2.get hx
      obtain ⟨u, hu, hr⟩ := q4 i' j e0 x0 r1 r3
      exact ⟨u, hu, r4 K w u hm hr⟩

theorem MemSat.shed {K : Ctx} {w : World} {new : Objs} (hm : MemSat K objs w) (hn : n ≤ objs.length) (hl : ∀ o p, objs[o]? = some p → o < n → LowObj n p.2) (hks : ∀ o ∈ ks, n ≤ o) (hnd : ks.Nodup) (hT : TurnL objs n ks ks new) : MemSat (K.shed w objs n ks) (objs.take n ++ new) w := by
  -- an object of the new list, and where it comes from
  have src : ∀ (i : Nat) (q : Nat × AObj), (objs.take n ++ new)[i]? = some q → ∃ o p, objs[o]? = some p ∧ q.1 = (if i < n then p.1 else 0) ∧ ((i < n ∧ o = i ∧ q = p) ∨ (n ≤ i ∧ ks[i - n]? = some o ∧ TurnO objs n ks p.2 q.2)) := by
    intro i q hq
    by_cases hi : i < n
    · rw [List.getElem?_append_left (by simp; omega), List.getElem?_take, if_pos hi] at hq
      exact ⟨i, q, hq, by rw [if_pos hi], .inl ⟨hi, rfl, rfl⟩⟩
    · rw [List.getElem?_append_right (by simp; omega)] at hq
      have e : (objs.take n).length = n := by simp; omega
      rw [e] at hq
      obtain ⟨o, p, h1, h2, h3, h4⟩ := hT.get hq
      exact ⟨o, p, h2, by rw [if_neg hi]; exact h3, .inr ⟨by omega, h1, h4⟩⟩
  have rhoC : ∀ (i : Nat) (q : Nat × AObj) (o : Nat) (p : Nat × AObj), objs[o]? = some p → q.1 = (if i < n then p.1 else 0) → ((i < n ∧ o = i ∧ q = p) ∨ (n ≤ i ∧ ks[i - n]? = some o ∧ TurnO objs n ks p.2 q.2)) → (K.shed w objs n ks).ρ i q.1 = K.ρ o p.1 ∧ (K.shed w objs n ks).C i q.1 = K.C o p.1 ∧ (o < n ∨ o ∈ ks) ∧ (q.2.live = true → p.2.live = true) := by
    intro i q o p hp hq hc
    rcases hc with ⟨hi, rfl, rfl⟩ | ⟨hi, hk, ht⟩
    · exact ⟨by simp [Ctx.shed, hi], by simp [Ctx.shed, hi], .inl hi, fun h => h⟩
    · have hv := hm.ver o p hp
      have hg : ks.getD (i - n) 0 = o := by simp [List.getD, hk]
      refine ⟨?_, ?_, .inr (mem_get hk), ht.live⟩
      · simp only [Ctx.shed, if_neg (show ¬ i < n by omega), hg, hv]
      · simp only [Ctx.shed, if_neg (show ¬ i < n by omega), hg, hv]
  refine ⟨?_, fun i q hq => ?_, fun i q hq => ?_, fun i q hq hlv hC => ?_, fun i i' q q' hq hq' hlv hlv' hC hC' hne => ?_, fun b i u hu => ?_, hm.below.step (L := K.shed w objs n ks) rfl rfl rfl rfl rfl (Nat.le_refl _) fun _ _ _ => rfl⟩
  · have := hT.length
    simp [Ctx.shed]
    omega
  · obtain ⟨o, p, hp, h1, hc⟩ := src i q hq
    rw [h1]
    by_cases hi : i < n
    · rw [if_pos hi]
      rcases hc with ⟨_, rfl, _⟩ | ⟨h, _⟩
      · simp only [Ctx.shed, if_pos hi]; exact hm.ver o p hp
      · omega
    · simp [Ctx.shed, hi]
  · obtain ⟨o, p, hp, h1, hc⟩ := src i q hq
    obtain ⟨r1, r2, _, _⟩ := rhoC i q o p hp h1 hc
    rcases hc with ⟨hi, rfl, rfl⟩ | ⟨hi, hk, ht⟩
    · have hs := hm.obj o q hp
      have hlo := hl o q hp hi
      cases hq2 : q.2 with
      | dead => trivial
      | row t k es =>
        rw [hq2] at hs hlo
        obtain ⟨h1, h2, h3⟩ := hs
        refine ⟨h1, by rw [r2]; exact h2, fun hC => ?_⟩
        rw [r2] at hC
        obtain ⟨c, q1, q2, q3, q4⟩ := h3 hC
        refine ⟨c, by rw [r1]; exact q1, by rw [r2]; exact q2, q3, fun i' j e x he hx => ?_⟩
        obtain ⟨u, hu, hr⟩ := q4 i' j e x he hx
        exact ⟨u, hu, turn_low (hlo e (mem_get he) x (mem_get hx)) K w u hm hr⟩
      | other x =>
        rw [hq2] at hs hlo
        obtain ⟨h1, b, h2, h3⟩ := hs
        exact ⟨by rw [r2]; exact h1, b, by rw [r1]; exact h2, OtherSat.low (K := K) (L := K.shed w objs n ks) (n := n) (fun _ _ _ h => turn_M h) (by simp [Ctx.shed]) (fun o v ho => by simp [Ctx.shed, ho]) (fun o v ho => by simp [Ctx.shed, ho]) (fun o ho => by simp [Ctx.shed, ho]) hlo h3⟩
    · have h0 : q.1 = 0 := by rw [h1, if_neg (by omega)]
      rw [h0] at r1 r2 ⊢
      exact ht.sat hm (show objs[o]? = some (p.1, p.2) from hp) r1 r2
  · obtain ⟨o, p, hp, h1, hc⟩ := src i q hq
    obtain ⟨r1, r2, r3, r4⟩ := rhoC i q o p hp h1 hc
    rw [r2] at hC
    rw [r1]
    obtain ⟨l1, l2, l3⟩ := hm.lo o p hp (r4 hlv) hC
    refine ⟨l1, l2, fun j => ?_⟩
    have hk : keptB K objs n ks (K.ρ o p.1) := ⟨o, p, hp, r4 hlv, r3, hC, rfl⟩
    simp [Ctx.shed, l3 j, hk]
  · obtain ⟨o, p, hp, h1, hc⟩ := src i q hq
    obtain ⟨o', p', hp', h1', hc'⟩ := src i' q' hq'
    obtain ⟨r1, r2, r3, r4⟩ := rhoC i q o p hp h1 hc
    obtain ⟨r1', r2', r3', r4'⟩ := rhoC i' q' o' p' hp' h1' hc'
    rw [r1, r1']
    rw [r2] at hC
    rw [r2'] at hC'
    refine hm.dis o o' p p' hp hp' (r4 hlv) (r4' hlv') hC hC' ?_
    rintro rfl
    rcases hc with ⟨hi, rfl, _⟩ | ⟨hi, hk, _⟩
    · rcases hc' with ⟨_, h, _⟩ | ⟨hi', hk', _⟩
      · exact hne h
      · have := hks o (mem_get hk'); omega
    · rcases hc' with ⟨hi', rfl, _⟩ | ⟨hi', hk', _⟩
      · have := hks o (mem_get hk); omega
      · have h2 := (List.getElem?_eq_some_iff.1 hk)
        have h3 := (List.getElem?_eq_some_iff.1 hk')
        have : i - n = i' - n := nodup_inj hnd h2.1 h3.1 (h2.2.trans h3.2.symm)
        omega
  · simp only [Ctx.shed] at hu
    split at hu
    · rename_i u' hM; simp only [Option.some.injEq] at hu; subst hu; exact hm.mem b i u' hM
    · split at hu
      · split at hu
        · rename_i u' hc
          split at hu
          · rename_i h1; simp only [Option.some.injEq] at hu; subst hu; exact ⟨hc, h1⟩
          · cases hu
        · cases hu
      · cases hu

theorem le_shed {K0 K : Ctx} {w : World} (hn : K0.n = n) (h : K0.le K) : K0.le (K.shed w objs n ks) := by
  refine ⟨fun b i u hu => turn_M (h.M b i u hu), fun o v ho hv => ?_, fun o v ho hv => ?_, by simp [Ctx.shed, hn], fun o ho => ?_, h.w0, h.B, fun b i x hx => ?_⟩
  · simp only [Ctx.shed, if_pos (show o < n by omega)]; exact h.ρ o v ho hv
  · simp only [Ctx.shed, if_pos (show o < n by omega)]; exact h.C o v ho hv
  · simp only [Ctx.shed, if_pos (show o < n by omega)]; exact h.vs o ho
  · have hb : K.B b = some x := h.B b x hx
    have hm0 := h.M0 b i x hx
    rw [← hm0]
    simp only [Ctx.shed]
    cases hM : K.M b i with
    | some u => rfl
    | none => simp [hb]

/-- Slots told anew. -/
inductive SubT (objs : Objs) (n : Nat) (ks : List Nat) (s : List (Nat × AVal)) : List (Nat × AVal) → Prop where
  | nil : SubT objs n ks s []
  | cons (t : Nat) (v : AVal) (r : List (Nat × AVal)) (h : TurnV objs n ks (getSlot s t) v) (hr : SubT objs n ks s r) : SubT objs n ks s ((t, v) :: r)

theorem SubT.get {s s' : List (Nat × AVal)} (h : SubT objs n ks s s') (t : Nat) : TurnV objs n ks (getSlot s t) (getSlot s' t) := by
  induction h with
  | nil => exact turn_any
  | cons t' v r h _ ih =>
    rw [getSlot_cons]
    by_cases ht : t' = t
    · subst ht; rw [if_pos rfl]; exact h
    · rw [if_neg ht]; exact ih

/-- At a loop's head. -/
theorem weaker_turn {nt : Nat} {s s' : List (Nat × AVal)} {new : Objs} (ks : List Nat) (hn : n ≤ objs.length) (hl : ∀ o p, objs[o]? = some p → o < n → LowObj n p.2) (hks : ∀ o ∈ ks, n ≤ o) (hnd : ks.Nodup) (hT : TurnL objs n ks ks new) (hs : SubT objs n ks s s') :
    Weaker nt n ⟨s, objs⟩ ⟨s', objs.take n ++ new⟩ := by
  intro K0 K a w h0 hle hsat
  exact ⟨K.shed w objs n ks, le_shed h0 hle, hsat.mem.shed hn hl hks hnd hT, fun t => hs.get t K w _ hsat.mem (hsat.slot t), hsat.size, hsat.defers⟩

/-- .. in a function that began without objects. -/
theorem weaker_turn0 {nt : Nat} {s s' : List (Nat × AVal)} {new : Objs} (ks : List Nat) (hnd : ks.Nodup) (hT : TurnL objs 0 ks ks new) (hs : SubT objs 0 ks s s') : Weaker nt 0 ⟨s, objs⟩ ⟨s', new⟩ := by
  have := weaker_turn (nt := nt) ks (Nat.zero_le _) (fun o p _ h => absurd h (by omega)) (fun _ _ => Nat.zero_le _) hnd hT hs
  simpa using this

/-- A result told anew, with objects that are kept. -/
theorem told_turn {r0 r : AVal} {new : Objs} (ks : List Nat) (hn : n ≤ objs.length) (hl : ∀ o p, objs[o]? = some p → o < n → LowObj n p.2) (hks : ∀ o ∈ ks, n ≤ o) (hnd : ks.Nodup) (hT : TurnL objs n ks ks new) (hr : TurnV objs n ks r0 r) : Told n r0 objs r (objs.take n ++ new) := by
  intro K0 K w v h0 hle hm hrep
  exact ⟨K.shed w objs n ks, le_shed h0 hle, hm.shed hn hl hks hnd hT, hr K w v hm hrep⟩

theorem told_turn0 {r0 r : AVal} {new : Objs} (ks : List Nat) (hnd : ks.Nodup) (hT : TurnL objs 0 ks ks new) (hr : TurnV objs 0 ks r0 r) : Told 0 r0 objs r new := by
  have := told_turn (objs := objs) (n := 0) ks (Nat.zero_le _) (fun o p _ h => absurd h (by omega)) (fun _ _ => Nat.zero_le _) hnd hT hr
  simpa using this

end
end Go.Fw

namespace Go.Fw
set_option linter.unusedSimpArgs false
set_option linter.unusedVariables false
open Go.RowKit

/-- An int, a bool, a string .. as abstract values. -/
abbrev I (n : Int) : AVal := .lit (.int .i64 n)
abbrev Bo (b : Bool) : AVal := .lit (.bool b)
abbrev Sg (s : ByteArray) : AVal := .lit (.string s)
abbrev U (n : Int) : AVal := .lit (.int .u64 n)
abbrev J (n : Int) : AVal := .lit (.int .i32 n)
abbrev Y (n : Int) : AVal := .lit (.int .u8 n)
abbrev V (n : Int) : AVal := .lit (.int .u32 n)

abbrev w64 (n : Int) : Int := IntKind.i64.wrap n
abbrev wu64 (n : Int) : Int := IntKind.u64.wrap n
abbrev w32 (n : Int) : Int := IntKind.i32.wrap n
abbrev wu32 (n : Int) : Int := IntKind.u32.wrap n
abbrev wu8 (n : Int) : Int := IntKind.u8.wrap n

theorem cond_t {α : Type} {c : Bool} {a b : α} (h : c = true) : (bif c then a else b) = a := by rw [h]; rfl
theorem cond_f {α : Type} {c : Bool} {a b : α} (h : c = false) : (bif c then a else b) = b := by rw [h]; rfl

theorem dchk {x : Bool} {ops : Array Oper} {ms : List Nat} {K : Prop} (h : (x && drawCheck ops ms) = true) (k : K) : (x && drawCheck ops ms) = true ∧ K := ⟨h, k⟩

theorem Weaker.trans {nt n0 : Nat} {a b c : St} (h : Weaker nt n0 a b) (g : Weaker nt n0 b c) : Weaker nt n0 a c := by
  intro K0 K s w hn hle hs
  obtain ⟨K1, hle1, hs1⟩ := h K0 K s w hn hle hs
  exact g K0 K1 s w hn hle1 hs1

/-- An object without elements is laid beside the others. -/
theorem weaker_none {nt n0 : Nat} {s : List (Nat × AVal)} {o : Objs} (t : TypeId) (k : Nat) : Weaker nt n0 ⟨s, o⟩ ⟨s, o ++ [(0, .row t k [])]⟩ := by
  intro K0 K a w hn hle hs
  exact ⟨K.newObj 0 0, hle.trans (le_newObj K 0 0), hs.mem.addNone t k, fun i => (hs.slot i).mono (le_newObj K 0 0), hs.size, hs.defers.mono (le_newObj K 0 0)⟩

theorem turn_nilown {objs : Objs} {n : Nat} {ks : List Nat} {k o : Nat} (i : Nat) (hi : ks[i]? = some o) : TurnV objs n ks (.lit (.slice none 0 0)) (.own (n + i) 0 k 0 0) := by
  intro K w v hm hr
  have := rep_lit hr
  subst this
  have hlt : i < ks.length := (List.getElem?_eq_some_iff.1 hi).1
  exact .ownNil _ _ _ (by simp [Ctx.shed]; omega) (Nat.zero_le _)

theorem Low.agg' {n : Nat} {xs : List AVal} (h : LowL n xs) : Low n (.agg xs) := .agg xs h

theorem listA_low' {α : Type} {k : Nat} {c : α → List AVal} {d : α} {l : List α} {n : Nat} (h : ∀ x, LowL n (c x)) : Low n (listA k c d l) := .seq _ _ _ _ fun _ _ x hx => h _ x hx

/-- A value that names no memory. -/
inductive Bare : AVal → Prop where
  | lit (v : Value) : Bare (.lit v)
  | agg (cs : List AVal) (h : ∀ x ∈ cs, Bare x) : Bare (.agg cs)
  | tup (cs : List AVal) (h : ∀ x ∈ cs, Bare x) : Bare (.tup cs)

theorem Bare.rep {K L : Ctx} {x : AVal} {v : Value} (h : Rep K x v) : Bare x → Rep L x v := by
  induction h with
  | lit v => exact fun _ => .lit v
  | agg cs vs hl h1 _ ih => exact fun hb => by cases hb with | agg _ h => exact .agg cs vs hl h1 fun i x v hx hv => ih i x v hx hv (h x (mem_get hx))
  | tup cs vs hl _ ih => exact fun hb => by cases hb with | tup _ h => exact .tup cs vs hl fun i x v hx hv => ih i x v hx hv (h x (mem_get hx))
  | _ => intro hb; cases hb

def bare0 : AVal → Bool
  | .lit _ => true
  | _ => false
def bare1 : AVal → Bool
  | .agg cs => cs.all bare0
  | x => bare0 x
def bare2 : AVal → Bool
  | .tup cs => cs.all bare1
  | x => bare1 x

theorem bare0_sound {x : AVal} (h : bare0 x = true) : Bare x := by cases x <;> first | exact .lit _ | cases h
theorem bare1_sound {x : AVal} (h : bare1 x = true) : Bare x := by
  cases x with
  | agg cs => exact .agg cs fun x hx => bare0_sound (List.all_eq_true.1 h x hx)
  | _ => exact bare0_sound h
theorem bare2_sound {x : AVal} (h : bare2 x = true) : Bare x := by
  cases x with
  | tup cs => exact .tup cs fun x hx => bare1_sound (List.all_eq_true.1 h x hx)
  | _ => exact bare1_sound h

theorem Bare.low {n : Nat} {x : AVal} (h : Bare x) : Low n x := by
  induction h with
  | lit v => exact .lit v
  | agg cs _ ih => exact .agg cs ih
  | tup cs _ ih => exact .tup cs ih

/-- Slices that the caller may write are lent to a call that only reads them and tells nothing of memory. -/
theorem AGives.lent {P : Program} {f : FuncId} {args args' : List AVal} {objs : Objs} {r : AVal} (h : AGives P f args' [] r) (hs : SeenL objs args args') (ha : LowL 0 args') (hb : Bare r) : AGives P f args objs r := by
  unfold AGives ACalls at h ⊢
  intro K w vs hm hreps
  have hst := hs.reps hm hreps
  have hms := hm.still
  let K1 : Ctx := { (K.still objs w) with n := 0, B := fun b => w.heap[b]?, w0 := w }
  have hm1 : MemSat K1 [] w := ⟨rfl, fun o p hp => by simp at hp, fun o p hp => by simp at hp, fun o p hp => by simp at hp, fun o o' p p' hp => by simp at hp, hms.mem, ⟨rfl, rfl, rfl, Nat.le_refl _, fun b x hx => hx⟩⟩
  have hr1 : Reps K1 args' vs := ⟨hst.1, fun i x v hx hv => Rep.low0 (K := K.still objs w) (L := K1) (fun _ _ _ h => h) (hst.2 i x v hx hv) (ha x (mem_get hx))⟩
  refine (h K1 w vs hm1 hr1).mono ?_
  rintro e w' ⟨v, r', objs', K2, rfl, hle, hm2, hrep, rfl, rfl⟩
  have hB : ∀ b x, w.heap[b]? = some x → w'.heap[b]? = some x := fun b x hx => hm2.below.block b x (hle.B b x hx)
  have hsz : w.heap.size ≤ w'.heap.size := by have := hm2.below.size; rw [hle.w0] at this; exact this
  have blk : ∀ b, b < w.heap.size → ∃ x, w.heap[b]? = some x := fun b hb => ⟨_, Array.getElem?_eq_getElem hb⟩
  refine ⟨v, r', objs, K, rfl, Ctx.le.refl K, ⟨hm.len, hm.ver, fun o p hp => ?_, fun o p hp hlv hC => ?_, hm.dis, fun b i u hu => ?_, ⟨?_, ?_, ?_, Nat.le_trans hm.below.size hsz, fun b x hx => hB b x (hm.below.block b x hx)⟩⟩, Bare.rep hrep hb, rfl, rfl⟩
  · refine (hm.obj o p hp).mono (Ctx.le.refl K) (hm.olt hp) (by rw [hm.ver o p hp]; exact Nat.le_refl _) (fun hlv hC => ?_)
    obtain ⟨x, hx⟩ := blk _ (hm.lo o p hp hlv hC).2.1
    rw [hx]; exact hB _ x hx
  · obtain ⟨h1, h2, h3⟩ := hm.lo o p hp hlv hC
    exact ⟨h1, Nat.lt_of_lt_of_le h2 hsz, h3⟩
  · have h1 : (K.still objs w).M b i = some u := (le_still K objs w).M b i u hu
    exact hm2.mem b i u (hle.M b i u h1)
  · have := hm2.below.os; rw [hle.w0] at this; exact this.trans hm.below.os
  · have := hm2.below.tape; rw [hle.w0] at this; exact this.trans hm.below.tape
  · have := hm2.below.output; rw [hle.w0] at this; exact this.trans hm.below.output

/-- A block of one of some objects. -/
def isBlk (K : Ctx) (base : Objs) (b : Nat) : Prop := ∃ o p, base[o]? = some p ∧ p.2.live = true ∧ K.C o p.1 ≠ 0 ∧ b = K.ρ o p.1

open Classical in
/-- THE FRAME over objects that a call reads: more objects may lie behind them. -/
theorem AGives.frameN {P : Program} {f : FuncId} {args : List AVal} {base : Objs} {r : AVal} (h : AGives P f args base r) (ha : LowL base.length args) (hl : Low base.length r) (hb : ∀ p ∈ base, LowObj base.length p.2) (extra : Objs) : AGives P f args (base ++ extra) r := by
  unfold AGives ACalls at h ⊢
  intro K w vs hm hreps
  let K0 : Ctx := K.cut base.length
  have hget : ∀ (o : Nat) (p : Nat × AObj), base[o]? = some p → (base ++ extra)[o]? = some p ∧ o < base.length := fun o p hp => by
    have hlt : o < base.length := (List.getElem?_eq_some_iff.1 hp).1
    exact ⟨by rw [List.getElem?_append_left hlt]; exact hp, hlt⟩
  have hm0 : MemSat K0 base w := by
    have := hm.cut (n := base.length) (by simp) fun o p hp hlt => by
      rw [List.getElem?_append_left hlt] at hp
      exact hb p (List.mem_of_getElem? hp)
    simpa using this
  have hnk : base.length ≤ K.n := by have := hm.len; simp at this; omega
  let K1 : Ctx := { K0 with B := fun b => if isBlk K base b then none else w.heap[b]?, w0 := w }
  have hm1 : MemSat K1 base w := by
    refine ⟨hm0.len, hm0.ver, fun o p hp => ?_, fun o p hp hlv hC => ?_, hm0.dis, hm0.mem, ⟨rfl, rfl, rfl, Nat.le_refl _, fun b x hx => ?_⟩⟩
    · have hs := hm0.obj o p hp
      have hlo := hb p (List.mem_of_getElem? hp)
      have rl : ∀ {x : AVal} {v : Value}, Rep K0 x v → Low base.length x → Rep K1 x v := fun hr hx => Rep.low (K := K0) (L := K1) (n := base.length) (fun _ _ _ h => h) (Nat.le_refl _) (fun _ _ _ => rfl) (fun _ _ _ => rfl) (fun _ _ => rfl) hr hx
      cases hp2 : p.2 with
      | dead => trivial
      | row t k es =>
        rw [hp2] at hs hlo
        obtain ⟨h1, h2, h3⟩ := hs
        refine ⟨h1, h2, fun hC => ?_⟩
        obtain ⟨c, q1, q2, q3, q4⟩ := h3 hC
        refine ⟨c, q1, q2, q3, fun i j e x he hx => ?_⟩
        obtain ⟨u, hu, hr⟩ := q4 i j e x he hx
        exact ⟨u, hu, rl hr (hlo e (mem_get he) x (mem_get hx))⟩
      | other x =>
        rw [hp2] at hs hlo
        obtain ⟨h1, b, h2, h3⟩ := hs
        exact ⟨h1, b, h2, OtherSat.low (K := K0) (L := K1) (n := base.length) (fun _ _ _ h => h) (Nat.le_refl _) (fun _ _ _ => rfl) (fun _ _ _ => rfl) (fun _ _ => rfl) hlo h3⟩
    · obtain ⟨q1, q2, q3⟩ := hm0.lo o p hp hlv hC
      exact ⟨if_pos ⟨o, p, hp, hlv, hC, rfl⟩, q2, q3⟩
    · simp only [K1] at hx
      split at hx
      · cases hx
      · exact hx
  have hr1 : Reps K1 args vs := ⟨hreps.1, fun i x v hx hv => Rep.low (K := K) (L := K1) (n := base.length) (fun _ _ _ h => h) (Nat.le_refl _) (fun _ _ _ => rfl) (fun _ _ _ => rfl) (fun _ _ => rfl) (hreps.2 i x v hx hv) (ha x (mem_get hx))⟩
  refine (h K1 w vs hm1 hr1).mono ?_
  rintro e w' ⟨v, r', objs', K2, rfl, hle, hm2, hrep, rfl, rfl⟩
  let K3 : Ctx := { K with M := K2.M }
  have hB : ∀ b x, ¬ isBlk K objs' b → w.heap[b]? = some x → w'.heap[b]? = some x := fun b x hnb hx => hm2.below.block b x (hle.B b x (by show (if _ then _ else _) = _; rw [if_neg hnb]; exact hx))
  have hM0 : ∀ b i x, ¬ isBlk K objs' b → w.heap[b]? = some x → K2.M b i = K.M b i := fun b i x hnb hx => hle.M0 b i x (by show (if _ then _ else _) = _; rw [if_neg hnb]; exact hx)
  have hsz : w.heap.size ≤ w'.heap.size := by have := hm2.below.size; rw [hle.w0] at this; exact this
  have blk : ∀ b, b < w.heap.size → ∃ x, w.heap[b]? = some x := fun b hb => ⟨_, Array.getElem?_eq_getElem hb⟩
  have notB : ∀ b x, K.B b = some x → ¬ isBlk K objs' b := by
    rintro b x hx ⟨o, p, hp, hlv, hC, rfl⟩
    have := (hm.lo o p (hget o p hp).1 hlv hC).1
    rw [this] at hx; cases hx
  have vs2 : ∀ (o : Nat) (p : Nat × AObj), objs'[o]? = some p → K2.vs o = K.vs o := fun o p hp => (hm2.ver o p hp).symm.trans (hm.ver o p (hget o p hp).1)
  have eρ : ∀ (o : Nat) (v : Nat), o < objs'.length → v ≤ K.vs o → K2.ρ o v = K.ρ o v := fun o v ho hv => hle.ρ o v ho hv
  have eC : ∀ (o : Nat) (v : Nat), o < objs'.length → v ≤ K.vs o → K2.C o v = K.C o v := fun o v ho hv => hle.C o v ho hv
  have hKL : K.le K3 := ⟨hle.M, fun _ _ _ _ => rfl, fun _ _ _ _ => rfl, Nat.le_refl _, fun _ _ => Nat.le_refl _, rfl, fun _ _ h => h, fun b i x hx => hM0 b i x (notB b x hx) (hm.below.block b x hx)⟩
  have rl2 : ∀ {x : AVal} {v : Value}, Rep K2 x v → Low objs'.length x → Rep K3 x v := by
    intro x v hr
    induction hr with
    | any v => exact fun _ => .any v
    | lit v => exact fun _ => .lit v
    | agg cs vs hl h1 _ ih => exact fun hl' => by cases hl' with | agg _ h => exact .agg cs vs hl h1 fun i x v hx hv => ih i x v hx hv (h x (mem_get hx))
    | tup cs vs hl _ ih => exact fun hl' => by cases hl' with | tup _ h => exact .tup cs vs hl fun i x v hx hv => ih i x v hx hv (h x (mem_get hx))
    | nil k t f => exact fun _ => .nil k t f
    | empty k t f a c ht => exact fun _ => .empty k t f a c ht
    | seq k n t f b off c u hc ht hk hM' _ ih => exact fun hl' => by cases hl' with | seq _ _ _ _ h => exact .seq k n t f b off c u hc ht hk (fun i j hi hj => hM' i j hi hj) fun i j x hi hx => ih i j x hi hx (h i hi x (mem_get hx))
    | ref cs b off u hM' _ ih => exact fun hl' => by cases hl' with | ref _ h => exact .ref cs b off u (fun j hj => hM' j hj) fun j x hx => ih j x hx (h x (mem_get hx))
    | ptr o ver k i j ho hve =>
      intro hl'
      cases hl' with
      | ptr _ _ _ _ _ h =>
          obtain ⟨p, hp⟩ : ∃ p, objs'[o]? = some p := ⟨_, List.getElem?_eq_getElem h⟩
          have hve' : ver ≤ K.vs o := by rw [← vs2 o p hp]; exact hve
          rw [eρ o ver h hve']
          exact .ptr (K := K3) o ver k i j (Nat.lt_of_lt_of_le h hnk) hve'
    | own o ver k off len ho hve a c hl hC' ha' =>
      intro hl'
      cases hl' with
      | own _ _ _ _ _ h =>
          obtain ⟨p, hp⟩ : ∃ p, objs'[o]? = some p := ⟨_, List.getElem?_eq_getElem h⟩
          have hve' : ver ≤ K.vs o := by rw [← vs2 o p hp]; exact hve
          exact .own (K := K3) o ver k off len (Nat.lt_of_lt_of_le h hnk) hve' a c hl (by show _ ≤ K.C o ver; rw [← eC o ver h hve']; exact hC') (by show _ → a = ⟨K.ρ o ver, _, _⟩; rw [← eρ o ver h hve']; exact ha')
    | fn f xs ys vs us hl hm _ _ ih1 ih2 => exact fun hl' => by cases hl' with | fn _ _ _ h g => exact .fn f xs ys vs us hl hm (fun i x v hx hv => ih1 i x v hx hv (h x (mem_get hx))) fun i x v hx hv => ih2 i x v hx hv (g x (mem_get hx))
    | ifc t a v _ ih => exact fun hl' => by cases hl' with | ifc _ _ h => exact .ifc t a v (ih h)
    | map o ho =>
      intro hl'
      cases hl' with
      | map _ h => rw [eρ o 0 h (Nat.zero_le _)]; exact .map (K := K3) o (Nat.lt_of_lt_of_le h hnk)
    | yld o ho =>
      intro hl'
      cases hl' with
      | yld _ h => rw [eρ o 0 h (Nat.zero_le _)]; exact .yld (K := K3) o (Nat.lt_of_lt_of_le h hnk)
    | selNil o ver k i j => exact fun _ => .selNil (K := K3) o ver k i j
    | sub o ver k i j n m c ho hve hc =>
      intro hl'
      cases hl' with
      | sub _ _ _ _ _ _ _ h =>
          obtain ⟨p, hp⟩ : ∃ p, objs'[o]? = some p := ⟨_, List.getElem?_eq_getElem h⟩
          have hve' : ver ≤ K.vs o := by rw [← vs2 o p hp]; exact hve
          rw [eρ o ver h hve']
          exact .sub (K := K3) o ver k i j n m c (Nat.lt_of_lt_of_le h hnk) hve' hc
    | selPtr o ver k i j ho hve =>
      intro hl'
      cases hl' with
      | sel _ _ _ _ _ h =>
          obtain ⟨p, hp⟩ : ∃ p, objs'[o]? = some p := ⟨_, List.getElem?_eq_getElem h⟩
          have hve' : ver ≤ K.vs o := by rw [← vs2 o p hp]; exact hve
          rw [eρ o ver h hve']
          exact .selPtr (K := K3) o ver k i j (Nat.lt_of_lt_of_le h hnk) hve'
    | bufNil o ver k ho hve =>
      intro hl'
      cases hl' with
      | buf _ _ _ _ h =>
          obtain ⟨p, hp⟩ : ∃ p, objs'[o]? = some p := ⟨_, List.getElem?_eq_getElem h⟩
          exact .bufNil (K := K3) o ver k (Nat.lt_of_lt_of_le h hnk) (by rw [← vs2 o p hp]; exact hve)
    | bufSome o ver k len c ho hve hl hc hC' =>
      intro hl'
      cases hl' with
      | buf _ _ _ _ h =>
          obtain ⟨p, hp⟩ : ∃ p, objs'[o]? = some p := ⟨_, List.getElem?_eq_getElem h⟩
          have hve' : ver ≤ K.vs o := by rw [← vs2 o p hp]; exact hve
          rw [eρ o ver h hve']
          exact .bufSome (K := K3) o ver k len c (Nat.lt_of_lt_of_le h hnk) hve' hl hc (by show _ ≤ K.C o ver; rw [← eC o ver h hve']; exact hC')
    | ownNil o ver k ho hve =>
      intro hl'
      cases hl' with
      | own _ _ _ _ _ h =>
          obtain ⟨p, hp⟩ : ∃ p, objs'[o]? = some p := ⟨_, List.getElem?_eq_getElem h⟩
          exact .ownNil (K := K3) o ver k (Nat.lt_of_lt_of_le h hnk) (by rw [← vs2 o p hp]; exact hve)
  have cases_o : ∀ (o : Nat) (p : Nat × AObj), (objs' ++ extra)[o]? = some p → objs'[o]? = some p ∨ objs'.length ≤ o := fun o p hp => by
    rcases Nat.lt_or_ge o objs'.length with h' | h'
    · left; rw [List.getElem?_append_left h'] at hp; exact hp
    · exact .inr h'
  refine ⟨v, r', objs' ++ extra, K3, rfl, hKL, ⟨hm.len, hm.ver, fun o p hp => ?_, fun o p hp hlv hC => ?_, hm.dis, hm2.mem, ⟨?_, ?_, ?_, Nat.le_trans hm.below.size hsz, fun b x hx => hB b x (notB b x hx) (hm.below.block b x hx)⟩⟩, rl2 hrep hl, rfl, rfl⟩
  · rcases cases_o o p hp with hp' | hge
    · have hs := hm2.obj o p hp'
      have hlo := hb p (List.mem_of_getElem? hp')
      have hlt : o < objs'.length := (List.getElem?_eq_some_iff.1 hp').1
      have hpv : p.1 ≤ K.vs o := by rw [hm.ver o p hp]; exact Nat.le_refl _
      cases hp2 : p.2 with
      | dead => trivial
      | row t k es =>
        rw [hp2] at hs hlo
        obtain ⟨h1, h2, h3⟩ := hs
        rw [eC o p.1 hlt hpv] at h2 h3
        rw [eρ o p.1 hlt hpv] at h3
        refine ⟨h1, h2, fun hC => ?_⟩
        obtain ⟨c, q1, q2, q3, q4⟩ := h3 hC
        refine ⟨c, q1, q2, q3, fun i j e x he hx => ?_⟩
        obtain ⟨u, hu, hr⟩ := q4 i j e x he hx
        exact ⟨u, hu, rl2 hr (hlo e (mem_get he) x (mem_get hx))⟩
      | other x =>
        rw [hp2] at hs hlo
        obtain ⟨h1, b, h2, h3⟩ := hs
        rw [eC o p.1 hlt hpv] at h1
        rw [eρ o p.1 hlt hpv] at h2
        refine ⟨h1, b, h2, ?_⟩
        cases x with
        | strIter s pos => exact h3
        | map es clock =>
          obtain ⟨arr, g1, g2, g3⟩ := h3
          exact ⟨arr, g1, g2, fun i k x st e he ha => by obtain ⟨q1, q2, q3⟩ := g3 i k x st e he ha; exact ⟨q1, q2, rl2 q3 (hlo _ (mem_get he))⟩⟩
        | mapIter o2 since seen last =>
          obtain ⟨g1, g2⟩ := h3
          have ho2 : o2 < objs'.length := hlo
          exact ⟨Nat.lt_of_lt_of_le ho2 hnk, by rw [g2, eρ o2 0 ho2 (Nat.zero_le _)]⟩
    · refine (hm.obj o p hp).mono hKL (hm.olt hp) (by rw [hm.ver o p hp]; exact Nat.le_refl _) (fun hlv hC => ?_)
      obtain ⟨x, hx⟩ := blk _ (hm.lo o p hp hlv hC).2.1
      rw [hx]
      refine hB _ x ?_ hx
      rintro ⟨o2, p2, hp2, hlv2, hC2, he⟩
      exact hm.dis o o2 p p2 hp (hget o2 p2 hp2).1 hlv hlv2 hC hC2 (by have := (hget o2 p2 hp2).2; omega) he
  · rcases cases_o o p hp with hp' | hge
    · have hlt : o < objs'.length := (List.getElem?_eq_some_iff.1 hp').1
      have hpv : p.1 ≤ K.vs o := by rw [hm.ver o p hp]; exact Nat.le_refl _
      obtain ⟨h1, h2, h3⟩ := hm.lo o p hp hlv hC
      have hC' : K2.C o p.1 ≠ 0 := by rw [eC o p.1 hlt hpv]; exact hC
      have := (hm2.lo o p hp' hlv hC').2.2
      rw [eρ o p.1 hlt hpv] at this
      exact ⟨h1, Nat.lt_of_lt_of_le h2 hsz, this⟩
    · obtain ⟨h1, h2, h3⟩ := hm.lo o p hp hlv hC
      obtain ⟨x, hx⟩ := blk _ h2
      refine ⟨h1, Nat.lt_of_lt_of_le h2 hsz, fun i => (hM0 _ i x ?_ hx).trans (h3 i)⟩
      rintro ⟨o2, p2, hp2, hlv2, hC2, he⟩
      exact hm.dis o o2 p p2 hp (hget o2 p2 hp2).1 hlv hlv2 hC hC2 (by have := (hget o2 p2 hp2).2; omega) he
  · have := hm2.below.os; rw [hle.w0] at this; exact this.trans hm.below.os
  · have := hm2.below.tape; rw [hle.w0] at this; exact this.trans hm.below.tape
  · have := hm2.below.output; rw [hle.w0] at this; exact this.trans hm.below.output

theorem drop_getD {α : Type} {l : List α} (d : α) {j : Nat} (h : j < l.length) : l.drop j = l.getD j d :: l.drop (j + 1) := by
  rw [List.drop_eq_getElem_cons h]
  simp [List.getD, List.getElem?_eq_getElem h]

theorem drop_none {α : Type} {l : List α} {j : Nat} (h : l.length ≤ j) : l.drop j = [] := List.drop_of_length_le h

theorem getD_sz {α : Type} {l : List α} {p : α → Prop} {d : α} {i : Nat} (h : ∀ y ∈ l, p y) (hd : p d) : p (l.getD i d) := by
  simp only [List.getD]
  cases hi : l[i]? with
  | none => exact hd
  | some y => exact h y (List.mem_of_getElem? hi)

theorem turn_same {objs : Objs} {n : Nat} {ks : List Nat} {t : TypeId} {k : Nat} {es es' : List (List AVal)} (he : es = es') (h : ∀ e ∈ es', LowL n e) : TurnO objs n ks (.row t k es) (.row t k es') := by
  subst he
  exact TurnO.same rfl h

theorem wu64_nonneg (n : Int) : 0 ≤ wu64 n := by
  simp only [IntKind.wrap, IntKind.bits, IntKind.signed]
  simp
  omega

theorem as_agg {xs ys : List AVal} (h : AsL xs ys) : AsA (.agg xs) (.agg ys) := by
  intro K v hr
  obtain ⟨vs, rfl, hx, h1⟩ := rep_agg hr
  exact rep_of_agg (h.reps K vs hx) h1

/-- An empty slice is appended to, or a row of elements. -/
theorem app_nil {P : Program} {e : TypeId} {m : Nat} {q : Bool} (b : Nat) (hb : bytesA P e = b) (h : m * b ≤ 70368744177664 ∧ m ≤ 70368744177664) : (true && (Nat.beq 0 0 || q) && smallA P e m) = true := by
  rw [small_of b hb h]
  rfl

theorem foll {α : Type} {a b R : α} (h : a = R) (c : a = b) : b = R := c.symm.trans h

theorem ret_leaf {α : Type} (enc : α → AVal) {R leaf : α} {r0 : AVal} {o : Objs} (e : leaf = R) (hl : Low 0 (enc leaf)) (hs : Seen o r0 (enc leaf)) : ∃ r objs', Told ([] : Objs).length r0 o r objs' ∧ (r = enc R ∧ objs' = []) := by
  subst e
  exact ret_seen hl hs

theorem told_cut {r : AVal} {base new : Objs} (hr : Low base.length r) (hb : ∀ p ∈ base, LowObj base.length p.2) : Told base.length r (base ++ new) r base := by
  intro K0 K w v hn hle hm hrep
  have hc := hm.cut (n := base.length) (by simp) fun o p hp hlt => by
    rw [List.getElem?_append_left hlt] at hp
    exact hb p (List.mem_of_getElem? hp)
  refine ⟨K.cut base.length, ⟨hle.M, fun o v ho hv => hle.ρ o v ho hv, fun o v ho hv => hle.C o v ho hv, by simp [Ctx.cut, hn], fun o ho => hle.vs o ho, hle.w0, hle.B, hle.M0⟩, by simpa using hc, ?_⟩
  exact Rep.low (K := K) (L := K.cut base.length) (n := base.length) (fun _ _ _ h => h) (Nat.le_refl _) (fun _ _ _ => rfl) (fun _ _ _ => rfl) (fun _ _ => rfl) hrep hr

/-- A return that lets go what the callee made. -/
theorem ret_cut {α : Type} (enc : α → AVal) {R leaf : α} {r0 : AVal} (base new : Objs) (e : leaf = R) (h0 : r0 = enc leaf) (hl : Low base.length (enc leaf)) (hb : ∀ p ∈ base, LowObj base.length p.2) :
    ∃ r objs', Told base.length r0 (base ++ new) r objs' ∧ (r = enc R ∧ objs' = base) := by
  subst e h0
  exact ⟨_, _, told_cut hl hb, rfl, rfl⟩

theorem lowOs_nil {n : Nat} : ∀ p ∈ ([] : Objs), LowObj n p.2 := fun p h => nomatch h
theorem lowOs_cons {n : Nat} {p : Nat × AObj} {l : Objs} (h : LowObj n p.2) (t : ∀ p ∈ l, LowObj n p.2) : ∀ q ∈ p :: l, LowObj n q.2 := fun q hq => by
  rcases List.mem_cons.1 hq with rfl | hq
  · exact h
  · exact t q hq

theorem low_base {n : Nat} {base rest : Objs} (hn : base.length = n) (h : ∀ p ∈ base, LowObj n p.2) : ∀ o p, (base ++ rest)[o]? = some p → o < n → LowObj n p.2 := fun o p hp hlt => by
  subst hn
  rw [List.getElem?_append_left hlt] at hp
  exact h p (List.mem_of_getElem? hp)

theorem getD_take {α : Type} (l : List α) (d : α) {m i : Nat} (h : i < m) : (l.take m).getD i d = l.getD i d := by
  simp only [List.getD, List.getElem?_take, if_pos h]

theorem getD_drop {α : Type} (l : List α) (d : α) (m i : Nat) : (l.drop m).getD i d = l.getD (m + i) d := by
  simp only [List.getD, List.getElem?_drop]

theorem as_take {α : Type} {k : Nat} {t : Bool} {c : α → List AVal} {d : α} (l : List α) (m : Nat) (hm : m ≤ l.length) : AsA (.seq k m t fun i => c (l.getD (0 + i) d)) (listA k c d (l.take m)) :=
  as_list _ (by simp; omega) fun i hi => by rw [getD_take l d hi, Nat.zero_add]
theorem as_drop {α : Type} {k : Nat} {t : Bool} {c : α → List AVal} {d : α} (l : List α) (m n : Nat) (hn : n = l.length - m) : AsA (.seq k n t fun i => c (l.getD (m + i) d)) (listA k c d (l.drop m)) :=
  as_list _ (by simp; omega) fun i hi => by rw [getD_drop]
theorem seen_take {α : Type} {k : Nat} {t : Bool} {c : α → List AVal} {d : α} {objs : Objs} (l : List α) (m : Nat) (hm : m ≤ l.length) : Seen objs (.seq k m t fun i => c (l.getD (0 + i) d)) (listA k c d (l.take m)) :=
  seen_seq _ (by simp; omega) fun i hi => by rw [getD_take l d hi, Nat.zero_add]
theorem seen_drop {α : Type} {k : Nat} {t : Bool} {c : α → List AVal} {d : α} {objs : Objs} (l : List α) (m n : Nat) (hn : n = l.length - m) : Seen objs (.seq k n t fun i => c (l.getD (m + i) d)) (listA k c d (l.drop m)) :=
  seen_seq _ (by simp; omega) fun i hi => by rw [getD_drop]

theorem low_es1 {n : Nat} {c : List AVal} (h : LowL n c) : ∀ e ∈ [c], LowL n e := fun e he => by rw [List.mem_singleton.1 he]; exact h

theorem low_map {α : Type} {n : Nat} {c : α → List AVal} {l : List α} (h : ∀ x, LowL n (c x)) : ∀ e ∈ l.map c, LowL n e := fun e he => by
  obtain ⟨x, _, rfl⟩ := List.mem_map.1 he
  exact h x

theorem lowL1 {n : Nat} {x : AVal} (h : low2 x = true) : LowL n [x] := .cons (low2_sound h) .nil

theorem turn_fn {objs : Objs} {n : Nat} {ks : List Nat} {f : Fn} {xs ys xs' ys' : List AVal} (h : TurnCs objs n ks xs xs') (g : TurnCs objs n ks ys ys') : TurnV objs n ks (.fn f xs ys) (.fn f xs' ys') := by
  intro K w v hm hr
  obtain ⟨vs, us, rfl, hx, hy⟩ := rep_fn hr
  refine .fn f xs' ys' vs us (by rw [hx.1, h.length]) (by rw [hy.1, g.length]) (fun i y v hy' hv => ?_) (fun i y v hy' hv => ?_)
  · obtain ⟨x, hxx, ht⟩ := h.get hy'
    exact ht K w v hm (hx.2 i x v hxx hv)
  · obtain ⟨x, hxx, ht⟩ := g.get hy'
    exact ht K w v hm (hy.2 i x v hxx hv)

end Go.Fw

namespace Go.Fw
set_option linter.unusedSimpArgs false
set_option linter.unusedVariables false
open Go.RowKit

/-- The runes of a string from a place on, each with its place; m: how many at most. -/
def strRunes (s : ByteArray) : Nat → Nat → List (Nat × Int)
  | 0, _ => []
  | m + 1, pos => bif decide (pos < s.size) then (pos, ((Utf8.decode s pos).1 : Int)) :: strRunes s m (pos + (Utf8.decode s pos).2) else []

/-- The runes of a string. -/
def runeList (s : ByteArray) : List (Nat × Int) := strRunes s s.size 0

theorem strRunes_cons {s : ByteArray} {m pos : Nat} (h : decide (pos < s.size) = true) : strRunes s (m + 1) pos = (pos, ((Utf8.decode s pos).1 : Int)) :: strRunes s m (pos + (Utf8.decode s pos).2) := by
  simp only [strRunes, h, cond_true]

theorem strRunes_nil {s : ByteArray} {m pos : Nat} (h : decide (pos < s.size) = false) : strRunes s m pos = [] := by
  cases m with
  | zero => rfl
  | succ m => simp only [strRunes, h, cond_false]

theorem decode_pos (s : ByteArray) (i : Nat) : 1 ≤ (Utf8.decode s i).2 := by
  unfold Utf8.decode
  simp only
  repeat' split
  all_goals simp

theorem decode_le4 (s : ByteArray) (i : Nat) : (Utf8.decode s i).2 ≤ 4 := by
  unfold Utf8.decode
  simp only
  repeat' split
  all_goals simp

def bytesOf (s : ByteArray) : List Int := s.data.toList.map fun b => (b.toNat : Int)

theorem bytesOf_map (s : ByteArray) : (s.data.toList.map fun b => [AVal.lit (.int .u8 (b.toNat : Int))]) = (bytesOf s).map fun n => [Y n] := by
  unfold bytesOf
  rw [List.map_map]
  rfl

theorem bytesOf_length (s : ByteArray) : (bytesOf s).length = s.size := by
  unfold bytesOf
  rw [List.length_map]
  rfl

def bytesStr (l : List Int) : ByteArray := l.foldl (fun r n => r.push (UInt8.ofNat n.toNat)) ByteArray.empty

abbrev runeStr (n : Int) : ByteArray := Utf8.encode n

theorem rangeTake {α β : Type} (l : List α) (d : α) (c : α → β) {m : Nat} (h : m ≤ l.length) : (List.range m).map (fun i => c (l.getD (0 + i) d)) = (l.take m).map c := by
  have := range_list (l.take m) d c
  rw [List.length_take, Nat.min_eq_left h] at this
  rw [← this]
  apply List.map_congr_left
  intro i hi
  rw [getD_take l d (List.mem_range.1 hi), Nat.zero_add]

theorem rangeDrop {α β : Type} (l : List α) (d : α) (c : α → β) (m : Nat) {n : Nat} (h : n = l.length - m) : (List.range n).map (fun i => c (l.getD (m + i) d)) = (l.drop m).map c := by
  have := range_list (l.drop m) d c
  rw [List.length_drop] at this
  rw [h, ← this]
  apply List.map_congr_left
  intro i hi
  rw [getD_drop]

theorem range_cut {α β : Type} (l : List α) (d : α) (c : α → β) (m n : Nat) {q : Nat} (hq : q = n - m) (h : n ≤ l.length) : (List.range q).map (fun i => c (l.getD (m + i) d)) = ((l.take n).drop m).map c := by
  have := range_list ((l.take n).drop m) d c
  rw [List.length_drop, List.length_take, Nat.min_eq_left h] at this
  rw [hq, ← this]
  apply List.map_congr_left
  intro i hi
  have := List.mem_range.1 hi
  rw [getD_drop, getD_take l d (by omega)]

theorem as_cut {α : Type} {k q : Nat} {t : Bool} {c : α → List AVal} {d : α} (l : List α) (m n : Nat) (hq : q = n - m) (hn : n ≤ l.length) : AsA (.seq k q t fun i => c (l.getD (m + i) d)) (listA k c d ((l.take n).drop m)) :=
  as_list _ (by simp; omega) fun i hi => by rw [getD_drop, getD_take l d (by omega)]
theorem seen_cut {α : Type} {k q : Nat} {t : Bool} {c : α → List AVal} {d : α} {objs : Objs} (l : List α) (m n : Nat) (hq : q = n - m) (hn : n ≤ l.length) : Seen objs (.seq k q t fun i => c (l.getD (m + i) d)) (listA k c d ((l.take n).drop m)) :=
  seen_seq _ (by simp; omega) fun i hi => by rw [getD_drop, getD_take l d (by omega)]

end Go.Fw

namespace Go.Fw
set_option linter.unusedSimpArgs false
set_option linter.unusedVariables false
open Go.RowKit

/-- A call's contract: of the objects objs the first n0 stay where they are (what they hold may be other); the others are given away; r and objs' are what comes of it. -/
def AMoves (P : Program) (f : FuncId) (args : List AVal) (objs : Objs) (n0 : Nat) (r : AVal) (objs' : Objs) : Prop :=
  ∀ (K : Ctx) (w : World) (vs : List Value), MemSat K objs w → Reps K args vs →
    Calls P f vs.toArray w fun e w' => ∃ (v : Value) (K' : Ctx), e = .returned v ∧ (K.cut n0).le K' ∧ MemSat K' objs' w' ∧ Rep K' r v

theorem cut_le {K : Ctx} {n : Nat} (h : n ≤ K.n) : (K.cut n).le K := ⟨fun _ _ _ h => h, fun _ _ _ _ => rfl, fun _ _ _ _ => rfl, h, fun _ _ => Nat.le_refl _, rfl, fun _ _ h => h, fun _ _ _ _ => rfl⟩

section
variable {P : Program}

theorem AMoves.of_awp {f : FuncId} {fn : Func} {c : Code} {args : List AVal} {objs : Objs} {n0 : Nat} {r0 : AVal} {objs0 : Objs} (keep : Nat → Bool) (hf : P.funcs[f]? = some fn) (hb : fn.body = some c) (hlen : args.length ≤ fn.ntmps) (hn0 : n0 ≤ objs.length)
    (h : awp P fn.ntmps n0 keep c (RetQ P fn n0 fun r o => r = r0 ∧ o = objs0) { slots := initSlots 0 args, objs := objs }) : AMoves P f args objs n0 r0 objs0 := by
  intro K w vs hm hreps
  refine callsIn_wide.1 (callsIn_of_wp_marks (n := 0) hf hb trivial (wpIn_wide.2 ?_))
  have hsat := Sat.enter (nt := fn.ntmps) hm.begin (Reps.monoR (leR_with K K.B w) hreps) hlen
  have hcut : Ctx.le { K.cut n0 with w0 := w } { K with w0 := w } := ⟨fun _ _ _ h => h, fun _ _ _ _ => rfl, fun _ _ _ _ => rfl, by have := hm.len; show n0 ≤ K.n; omega, fun _ _ => Nat.le_refl _, rfl, fun _ _ h => h, fun _ _ _ _ => rfl⟩
  refine wp_mono (awp_sound c _ _ { K.cut n0 with w0 := w } { K with w0 := w } _ w rfl hcut hsat h) ?_
  rintro e a' w' ⟨e', K', s', rfl, hle, hs', hq⟩
  have leave : Leaves P fn n0 (fun r o => r = r0 ∧ o = objs0) s' → LeavesInM Fence.wide 0 P fn a'.tmps (fun e w' => ∃ (v : Value) (K' : Ctx), e = .returned v ∧ (K.cut n0).le K' ∧ MemSat K' objs0 w' ∧ Rep K' r0 v) a'.defers .returning w' := fun hl =>
    leave_body (K0 := K.cut n0) hm.below hcut rfl rfl rfl hle hs' hl fun v r objs' K' w' h1 h2 h3 h4 => by
      obtain ⟨rfl, rfl⟩ := h4
      exact ⟨v, K', rfl, h1, h2, h3⟩
  cases e' with
  | normal => exact leave hq
  | ret => exact leave hq
  | exit id => exact hq.elim
  | goto l => exact hq.elim

theorem AMoves.of_cwp {f : FuncId} {fn : Func} {c : Code} {args : List AVal} {objs : Objs} {n0 : Nat} {r0 : AVal} {objs0 : Objs} (keep : Nat → Bool) (hf : P.funcs[f]? = some fn) (hb : fn.body = some c) (hlen : Nat.ble args.length fn.ntmps = true) (hn0 : Nat.ble n0 objs.length = true)
    (h : cwp P fn.ntmps n0 keep c (CRet P fn n0 fun r o => r = r0 ∧ o = objs0) (initSlots 0 args) objs) : AMoves P f args objs n0 r0 objs0 := by
  refine AMoves.of_awp keep hf hb (Nat.le_of_ble_eq_true hlen) (Nat.le_of_ble_eq_true hn0) (awp_mono c _ _ _ ?_ (cwp_awp c _ _ _ h))
  intro e s hs
  cases e with
  | normal => simp only [CRet, forceA_iff] at hs; exact hs
  | ret => simp only [CRet, forceA_iff] at hs; exact hs
  | exit id => exact hs
  | goto l => exact hs
end

/-- The first n0 objects are kept, each at its own place, and none has moved. -/
def idOK : Nat → List Nat → Objs → Bool
  | 0, _, _ => true
  | n + 1, ks, objs => (match ks[n]? with | some o => Nat.beq o n | none => false) && (match objs[n]? with | some (0, _) => true | _ => false) && idOK n ks objs

theorem idOK_get : ∀ {n0 : Nat} {ks : List Nat} {objs : Objs}, idOK n0 ks objs = true → ∀ i, i < n0 → ks[i]? = some i ∧ ∃ p, objs[i]? = some (0, p)
  | 0, _, _, _, i, hi => by omega
  | n + 1, ks, objs, h, i, hi => by
    simp only [idOK, Bool.and_eq_true] at h
    obtain ⟨⟨h1, h2⟩, h3⟩ := h
    by_cases e : i = n
    · subst e
      refine ⟨?_, ?_⟩
      · split at h1
        · rename_i o ho; rw [ho]; rw [Nat.eq_of_beq_eq_true h1]
        · cases h1
      · split at h2
        · rename_i p hp; exact ⟨p, hp⟩
        · cases h2
    · exact idOK_get h3 i (by omega)

theorem le_shedI {K0 K : Ctx} {w : World} {objs : Objs} {n0 : Nat} {ks : List Nat} (hid : idOK n0 ks objs = true) (hm : MemSat K objs w) (hn : K0.n = n0) (h : K0.le K) : K0.le (K.shed w objs 0 ks) := by
  have key : ∀ o, o < K0.n → ks.getD o 0 = o ∧ K.vs o = 0 ∧ o < ks.length := by
    intro o ho
    obtain ⟨q1, p, q2⟩ := idOK_get hid o (by omega)
    exact ⟨by simp [List.getD, q1], (hm.ver o _ q2).symm, (List.getElem?_eq_some_iff.1 q1).1⟩
  refine ⟨fun b i u hu => turn_M (h.M b i u hu), fun o v ho hv => ?_, fun o v ho hv => ?_, ?_, fun o ho => ?_, h.w0, h.B, fun b i x hx => ?_⟩
  · obtain ⟨q1, q2, q3⟩ := key o ho
    have hv0 : v = 0 := by have := h.vs o ho; omega
    subst hv0
    simp only [Ctx.shed, Nat.not_lt_zero, if_false, Nat.sub_zero, q1, q2]
    exact h.ρ o 0 ho hv
  · obtain ⟨q1, q2, q3⟩ := key o ho
    have hv0 : v = 0 := by have := h.vs o ho; omega
    subst hv0
    simp only [Ctx.shed, Nat.not_lt_zero, if_false, Nat.sub_zero, q1, q2]
    exact h.C o 0 ho hv
  · simp only [Ctx.shed, Nat.zero_add]
    rcases Nat.eq_zero_or_pos K0.n with h0 | h0
    · omega
    · have := (key (K0.n - 1) (by omega)).2.2
      omega
  · obtain ⟨q1, q2, q3⟩ := key o ho
    have := h.vs o ho
    simp only [Ctx.shed, Nat.not_lt_zero, if_false]
    omega
  · have hb : K.B b = some x := h.B b x hx
    have hm0 := h.M0 b i x hx
    rw [← hm0]
    simp only [Ctx.shed]
    cases hM : K.M b i with
    | some u => rfl
    | none => simp [hb]

/-- At a loop's head, or where ways are joined, in a function that is handed objects. -/
theorem weaker_turnI {nt n0 : Nat} {objs : Objs} {s s' : List (Nat × AVal)} {new : Objs} (ks : List Nat) (hid : idOK n0 ks objs = true) (hnd : ks.Nodup) (hT : TurnL objs 0 ks ks new) (hs : SubT objs 0 ks s s') : Weaker nt n0 ⟨s, objs⟩ ⟨s', new⟩ := by
  intro K0 K a w h0 hle hsat
  have hsh := hsat.mem.shed (n := 0) (Nat.zero_le _) (fun o p _ h => absurd h (by omega)) (fun _ _ => Nat.zero_le _) hnd hT
  exact ⟨K.shed w objs 0 ks, le_shedI hid hsat.mem h0 hle, by simpa using hsh, fun t => hs.get t K w _ hsat.mem (hsat.slot t), hsat.size, hsat.defers⟩

theorem told_turnI {n0 : Nat} {objs : Objs} {r0 r : AVal} {new : Objs} (ks : List Nat) (hid : idOK n0 ks objs = true) (hnd : ks.Nodup) (hT : TurnL objs 0 ks ks new) (hr : TurnV objs 0 ks r0 r) : Told n0 r0 objs r new := by
  intro K0 K w v h0 hle hm hrep
  have hsh := hm.shed (n := 0) (Nat.zero_le _) (fun o p _ h => absurd h (by omega)) (fun _ _ => Nat.zero_le _) hnd hT
  exact ⟨K.shed w objs 0 ks, le_shedI hid hm h0 hle, by simpa using hsh, hr K w v hm hrep⟩

/-- y, in the callee's numbers, is the caller's x; m: the callee's object i is the caller's object o of a version. -/
inductive Ren (m : List (Nat × Nat)) : AVal → AVal → Prop where
  | low (x : AVal) (h : Low 0 x) : Ren m x x
  | ptr (i o v k a b : Nat) (h : m[i]? = some (o, v)) : Ren m (.ptr i 0 k a b) (.ptr o v k a b)
  | sel (i o v k a b : Nat) (h : m[i]? = some (o, v)) : Ren m (.sel i 0 k a b) (.sel o v k a b)
  | own (i o v k a b : Nat) (h : m[i]? = some (o, v)) : Ren m (.own i 0 k a b) (.own o v k a b)
  | map (i o : Nat) (h : m[i]? = some (o, 0)) : Ren m (.map i) (.map o)
  | agg (ys xs : List AVal) (hl : ys.length = xs.length) (h : ∀ (i : Nat) (y x : AVal), ys[i]? = some y → xs[i]? = some x → Ren m y x) : Ren m (.agg ys) (.agg xs)
  | tup (ys xs : List AVal) (hl : ys.length = xs.length) (h : ∀ (i : Nat) (y x : AVal), ys[i]? = some y → xs[i]? = some x → Ren m y x) : Ren m (.tup ys) (.tup xs)
  | fn (f : Fn) (ys xs ys' xs' : List AVal) (hl : ys.length = xs.length) (hl' : ys'.length = xs'.length) (h : ∀ (i : Nat) (y x : AVal), ys[i]? = some y → xs[i]? = some x → Ren m y x)
      (h' : ∀ (i : Nat) (y x : AVal), ys'[i]? = some y → xs'[i]? = some x → Ren m y x) : Ren m (.fn f ys ys') (.fn f xs xs')
  | ifc (t : TypeId) (y x : AVal) (h : Ren m y x) : Ren m (.ifc t y) (.ifc t x)

inductive RenL (m : List (Nat × Nat)) : List AVal → List AVal → Prop where
  | nil : RenL m [] []
  | cons (y x : AVal) (ys xs : List AVal) (h : Ren m y x) (t : RenL m ys xs) : RenL m (y :: ys) (x :: xs)

theorem RenL.length {m : List (Nat × Nat)} {ys xs : List AVal} (h : RenL m ys xs) : ys.length = xs.length := by
  induction h with
  | nil => rfl
  | cons _ _ _ _ _ _ ih => simp [ih]

theorem RenL.get {m : List (Nat × Nat)} {ys xs : List AVal} (h : RenL m ys xs) : ∀ (i : Nat) (y x : AVal), ys[i]? = some y → xs[i]? = some x → Ren m y x := by
  induction h with
  | nil => intro i y x h; simp at h
  | cons y x ys xs h _ ih =>
    intro i y' x' hy hx
    cases i with
    | zero => simp at hy hx; subst hy hx; exact h
    | succ i => simp at hy hx; exact ih i y' x' hy hx

theorem ren_agg {m : List (Nat × Nat)} {ys xs : List AVal} (h : RenL m ys xs) : Ren m (.agg ys) (.agg xs) := .agg _ _ h.length h.get
theorem ren_tup {m : List (Nat × Nat)} {ys xs : List AVal} (h : RenL m ys xs) : Ren m (.tup ys) (.tup xs) := .tup _ _ h.length h.get
theorem ren_fn {m : List (Nat × Nat)} {f : Fn} {ys xs ys' xs' : List AVal} (h : RenL m ys xs) (h' : RenL m ys' xs') : Ren m (.fn f ys ys') (.fn f xs xs') := .fn _ _ _ _ _ h.length h'.length h.get h'.get

/-- Contexts that agree on what m names: K in the callee's numbers, L in the caller's. -/
structure Agree (m : List (Nat × Nat)) (K L : Ctx) : Prop where
  ρ : ∀ i o v : Nat, m[i]? = some (o, v) → K.ρ i 0 = L.ρ o v
  C : ∀ i o v : Nat, m[i]? = some (o, v) → K.C i 0 = L.C o v
  lt : ∀ i o v : Nat, m[i]? = some (o, v) → i < K.n
  lt' : ∀ i o v : Nat, m[i]? = some (o, v) → o < L.n ∧ v ≤ L.vs o

theorem Ren.down {m : List (Nat × Nat)} {K L : Ctx} (hA : Agree m K L) (hM : ∀ b i u, L.M b i = some u → K.M b i = some u) {y x : AVal} (h : Ren m y x) : ∀ {v : Value}, Rep L x v → Rep K y v := by
  induction h with
  | low x h => exact fun hr => Rep.low0 hM hr h
  | ptr i o ver k a b h =>
    intro v hr
    obtain ⟨rfl, _, _⟩ := rep_ptr hr
    rw [← hA.ρ i o ver h]
    exact .ptr i 0 k a b (hA.lt i o ver h) (Nat.zero_le _)
  | sel i o ver k a b h =>
    intro v hr
    cases hr with
    | selNil => exact .selNil _ _ _ _ _
    | selPtr _ _ _ _ _ _ _ =>
      rw [← hA.ρ i o ver h]
      exact .selPtr i 0 k a b (hA.lt i o ver h) (Nat.zero_le _)
  | own i o ver k a b h =>
    intro v hr
    obtain ⟨_, _, hcase⟩ := rep_own hr
    rcases hcase with ⟨rfl, rfl, rfl⟩ | ⟨a', c, rfl, q1, q2, q3⟩
    · exact .ownNil _ _ _ (hA.lt i o ver h) (Nat.zero_le _)
    · exact .own _ _ _ _ _ (hA.lt i o ver h) (Nat.zero_le _) a' c q1 (by rw [hA.C i o ver h]; exact q2) (by rw [hA.ρ i o ver h]; exact q3)
  | map i o h =>
    intro v hr
    obtain ⟨rfl, _⟩ := rep_map hr
    rw [← hA.ρ i o 0 h]
    exact .map i (hA.lt i o 0 h)
  | agg ys xs hl _ ih =>
    intro v hr
    obtain ⟨vs, rfl, hx, h1⟩ := rep_agg hr
    refine .agg ys vs (by rw [hx.1, hl]) h1 fun i y v hy hv => ?_
    have hi : i < xs.length := by have := (List.getElem?_eq_some_iff.1 hy).1; omega
    exact ih i y _ hy (List.getElem?_eq_getElem hi) (hx.2 i _ v (List.getElem?_eq_getElem hi) hv)
  | tup ys xs hl _ ih =>
    intro v hr
    obtain ⟨vs, rfl, hx⟩ := rep_tup hr
    refine .tup ys vs (by rw [hx.1, hl]) fun i y v hy hv => ?_
    have hi : i < xs.length := by have := (List.getElem?_eq_some_iff.1 hy).1; omega
    exact ih i y _ hy (List.getElem?_eq_getElem hi) (hx.2 i _ v (List.getElem?_eq_getElem hi) hv)
  | fn f ys xs ys' xs' hl hl' _ _ ih ih' =>
    intro v hr
    obtain ⟨vs, us, rfl, hx, hy⟩ := rep_fn hr
    refine .fn f ys ys' vs us (by rw [hx.1, hl]) (by rw [hy.1, hl']) (fun i y v hyy hv => ?_) (fun i y v hyy hv => ?_)
    · have hi : i < xs.length := by have := (List.getElem?_eq_some_iff.1 hyy).1; omega
      exact ih i y _ hyy (List.getElem?_eq_getElem hi) (hx.2 i _ v (List.getElem?_eq_getElem hi) hv)
    · have hi : i < xs'.length := by have := (List.getElem?_eq_some_iff.1 hyy).1; omega
      exact ih' i y _ hyy (List.getElem?_eq_getElem hi) (hy.2 i _ v (List.getElem?_eq_getElem hi) hv)
  | ifc t y x _ ih =>
    intro v hr
    cases hr with
    | ifc _ _ v' h => exact .ifc t y v' (ih h)

theorem Ren.up {m : List (Nat × Nat)} {K L : Ctx} (hA : Agree m K L) (hM : ∀ b i u, K.M b i = some u → L.M b i = some u) {y x : AVal} (h : Ren m y x) : ∀ {v : Value}, Rep K y v → Rep L x v := by
  induction h with
  | low x h => exact fun hr => Rep.low0 hM hr h
  | ptr i o ver k a b h =>
    intro v hr
    obtain ⟨rfl, _, _⟩ := rep_ptr hr
    rw [hA.ρ i o ver h]
    exact .ptr o ver k a b (hA.lt' i o ver h).1 (hA.lt' i o ver h).2
  | sel i o ver k a b h =>
    intro v hr
    cases hr with
    | selNil => exact .selNil _ _ _ _ _
    | selPtr _ _ _ _ _ _ _ =>
      rw [hA.ρ i o ver h]
      exact .selPtr o ver k a b (hA.lt' i o ver h).1 (hA.lt' i o ver h).2
  | own i o ver k a b h =>
    intro v hr
    obtain ⟨_, _, hcase⟩ := rep_own hr
    rcases hcase with ⟨rfl, rfl, rfl⟩ | ⟨a', c, rfl, q1, q2, q3⟩
    · exact .ownNil _ _ _ (hA.lt' i o ver h).1 (hA.lt' i o ver h).2
    · exact .own _ _ _ _ _ (hA.lt' i o ver h).1 (hA.lt' i o ver h).2 a' c q1 (by rw [← hA.C i o ver h]; exact q2) (by rw [← hA.ρ i o ver h]; exact q3)
  | map i o h =>
    intro v hr
    obtain ⟨rfl, _⟩ := rep_map hr
    rw [hA.ρ i o 0 h]
    exact .map o (hA.lt' i o 0 h).1
  | agg ys xs hl _ ih =>
    intro v hr
    obtain ⟨vs, rfl, hx, h1⟩ := rep_agg hr
    refine .agg xs vs (by rw [hx.1, hl]) h1 fun i y v hy hv => ?_
    have hi : i < ys.length := by have := (List.getElem?_eq_some_iff.1 hy).1; omega
    exact ih i _ y (List.getElem?_eq_getElem hi) hy (hx.2 i _ v (List.getElem?_eq_getElem hi) hv)
  | tup ys xs hl _ ih =>
    intro v hr
    obtain ⟨vs, rfl, hx⟩ := rep_tup hr
    refine .tup xs vs (by rw [hx.1, hl]) fun i y v hy hv => ?_
    have hi : i < ys.length := by have := (List.getElem?_eq_some_iff.1 hy).1; omega
    exact ih i _ y (List.getElem?_eq_getElem hi) hy (hx.2 i _ v (List.getElem?_eq_getElem hi) hv)
  | fn f ys xs ys' xs' hl hl' _ _ ih ih' =>
    intro v hr
    obtain ⟨vs, us, rfl, hx, hy⟩ := rep_fn hr
    refine .fn f xs xs' vs us (by rw [hx.1, hl]) (by rw [hy.1, hl']) (fun i y v hyy hv => ?_) (fun i y v hyy hv => ?_)
    · have hi : i < ys.length := by have := (List.getElem?_eq_some_iff.1 hyy).1; omega
      exact ih i _ y (List.getElem?_eq_getElem hi) hyy (hx.2 i _ v (List.getElem?_eq_getElem hi) hv)
    · have hi : i < ys'.length := by have := (List.getElem?_eq_some_iff.1 hyy).1; omega
      exact ih' i _ y (List.getElem?_eq_getElem hi) hyy (hy.2 i _ v (List.getElem?_eq_getElem hi) hv)
  | ifc t y x _ ih =>
    intro v hr
    cases hr with
    | ifc _ _ v' h => exact .ifc t x v' (ih h)

/-- An object, in the callee's numbers and in the caller's. -/
inductive RenO (m : List (Nat × Nat)) : AObj → AObj → Prop where
  | same (x : AObj) (h : LowObj 0 x) : RenO m x x
  | row1 (t : TypeId) (k : Nat) (ys xs : List AVal) (h : RenL m ys xs) : RenO m (.row t k [ys]) (.row t k [xs])

theorem RenO.live {m : List (Nat × Nat)} {Y X : AObj} (h : RenO m Y X) : Y.live = X.live := by cases h <;> rfl

theorem RenO.down {m : List (Nat × Nat)} {K L : Ctx} {w : World} (hA : Agree m K L) (hM : ∀ b i u, L.M b i = some u → K.M b i = some u) {Y X : AObj} {i o v : Nat} (hρ : K.ρ i 0 = L.ρ o v) (hC : K.C i 0 = L.C o v) (h : RenO m Y X) (hs : ObjSat L w o v X) : ObjSat K w i 0 Y := by
  cases h with
  | same x hl =>
    cases Y with
    | dead => trivial
    | row t k es =>
      obtain ⟨h1, h2, h3⟩ := hs
      refine ⟨h1, by rw [hC]; exact h2, fun hc => ?_⟩
      rw [hC] at hc
      obtain ⟨c, q1, q2, q3, q4⟩ := h3 hc
      refine ⟨c, by rw [hρ]; exact q1, by rw [hC]; exact q2, q3, fun i' j e x he hx => ?_⟩
      obtain ⟨u, hu, hr⟩ := q4 i' j e x he hx
      exact ⟨u, hu, Rep.low0 hM hr (hl e (mem_get he) x (mem_get hx))⟩
    | other x =>
      obtain ⟨h1, b, h2, h3⟩ := hs
      refine ⟨by rw [hC]; exact h1, b, by rw [hρ]; exact h2, ?_⟩
      exact OtherSat.low (K := L) (L := K) (n := 0) hM (Nat.zero_le _) (fun o v ho => by omega) (fun o v ho => by omega) (fun o ho => by omega) hl h3
  | row1 t k ys xs h =>
    obtain ⟨h1, h2, h3⟩ := hs
    refine ⟨fun e he => by rw [List.mem_singleton.1 he, h.length]; exact h1 xs (by simp), by rw [hC]; exact h2, fun hc => ?_⟩
    rw [hC] at hc
    obtain ⟨c, q1, q2, q3, q4⟩ := h3 hc
    refine ⟨c, by rw [hρ]; exact q1, by rw [hC]; exact q2, q3, fun i' j e x he hx => ?_⟩
    cases i' with
    | succ i' => simp at he
    | zero =>
      simp at he
      subst he
      have hj : j < xs.length := by have := (List.getElem?_eq_some_iff.1 hx).1; have := h.length; omega
      obtain ⟨u, hu, hr⟩ := q4 0 j xs _ rfl (List.getElem?_eq_getElem hj)
      exact ⟨u, hu, (h.get j x _ hx (List.getElem?_eq_getElem hj)).down hA hM hr⟩

theorem RenO.up {m : List (Nat × Nat)} {K L : Ctx} {w : World} (hA : Agree m K L) (hM : ∀ b i u, K.M b i = some u → L.M b i = some u) {Y X : AObj} {i o v : Nat} (hρ : K.ρ i 0 = L.ρ o v) (hC : K.C i 0 = L.C o v) (h : RenO m Y X) (hs : ObjSat K w i 0 Y) : ObjSat L w o v X := by
  cases h with
  | same x hl =>
    cases Y with
    | dead => trivial
    | row t k es =>
      obtain ⟨h1, h2, h3⟩ := hs
      refine ⟨h1, by rw [← hC]; exact h2, fun hc => ?_⟩
      rw [← hC] at hc
      obtain ⟨c, q1, q2, q3, q4⟩ := h3 hc
      refine ⟨c, by rw [← hρ]; exact q1, by rw [← hC]; exact q2, q3, fun i' j e x he hx => ?_⟩
      obtain ⟨u, hu, hr⟩ := q4 i' j e x he hx
      exact ⟨u, hu, Rep.low0 hM hr (hl e (mem_get he) x (mem_get hx))⟩
    | other x =>
      obtain ⟨h1, b, h2, h3⟩ := hs
      refine ⟨by rw [← hC]; exact h1, b, by rw [← hρ]; exact h2, ?_⟩
      exact OtherSat.low (K := K) (L := L) (n := 0) hM (Nat.zero_le _) (fun o v ho => by omega) (fun o v ho => by omega) (fun o ho => by omega) hl h3
  | row1 t k ys xs h =>
    obtain ⟨h1, h2, h3⟩ := hs
    refine ⟨fun e he => by rw [List.mem_singleton.1 he, ← h.length]; exact h1 ys (by simp), by rw [← hC]; exact h2, fun hc => ?_⟩
    rw [← hC] at hc
    obtain ⟨c, q1, q2, q3, q4⟩ := h3 hc
    refine ⟨c, by rw [← hρ]; exact q1, by rw [← hC]; exact q2, q3, fun i' j e x he hx => ?_⟩
    cases i' with
    | succ i' => simp at he
    | zero =>
      simp at he
      subst he
      have hj : j < ys.length := by have := (List.getElem?_eq_some_iff.1 hx).1; have := h.length; omega
      obtain ⟨u, hu, hr⟩ := q4 0 j ys _ rfl (List.getElem?_eq_getElem hj)
      exact ⟨u, hu, (h.get j _ x (List.getElem?_eq_getElem hj) hx).up hA hM hr⟩

/-- Where a number stands in a list. -/
def idxN : List Nat → Nat → Nat → Option Nat
  | [], _, _ => none
  | k :: ks, o, i => bif Nat.beq k o then some i else idxN ks o (i + 1)

theorem idxN_some : ∀ {ks : List Nat} {o i j : Nat}, idxN ks o i = some j → i ≤ j ∧ ks[j - i]? = some o
  | [], _, _, _, h => by simp [idxN] at h
  | k :: ks, o, i, j, h => by
    simp only [idxN] at h
    cases hb : Nat.beq k o with
    | true => rw [hb] at h; simp at h; subst h; exact ⟨Nat.le_refl _, by simp [Nat.eq_of_beq_eq_true hb]⟩
    | false =>
      rw [hb] at h
      obtain ⟨h1, h2⟩ := idxN_some (ks := ks) h
      refine ⟨by omega, ?_⟩
      rw [show j - i = (j - (i + 1)) + 1 by omega]
      simpa using h2

theorem idxN_none : ∀ {ks : List Nat} {o i : Nat}, idxN ks o i = none → o ∉ ks
  | [], _, _, _ => by simp
  | k :: ks, o, i, h => by
    simp only [idxN] at h
    cases hb : Nat.beq k o with
    | true => rw [hb] at h; simp at h
    | false =>
      rw [hb] at h
      have := idxN_none (ks := ks) h
      simp only [List.mem_cons, not_or]
      exact ⟨fun e => by rw [e] at hb; simp at hb, this⟩

/-- What becomes of the caller's objects: those of ks that stay hold something else, the others are given away. -/
def mvd1 (ks : List Nat) (n0 : Nat) (xs : List AObj) (o : Nat) (p : Nat × AObj) : Nat × AObj :=
  match idxN ks o 0 with
  | some i => bif Nat.blt i n0 then (p.1, xs.getD i .dead) else (p.1, .dead)
  | none => p

def mvd (ks : List Nat) (n0 : Nat) (xs : List AObj) : Nat → Objs → Objs
  | _, [] => []
  | o, p :: r => mvd1 ks n0 xs o p :: mvd ks n0 xs (o + 1) r

def laid : List AObj → Objs
  | [] => []
  | x :: r => (0, x) :: laid r

/-- The caller's objects behind the call. -/
def moved (ks : List Nat) (n0 : Nat) (xs : List AObj) (objs : Objs) : Objs := mvd ks n0 xs 0 objs ++ laid (xs.drop n0)

theorem mvd_length (ks : List Nat) (n0 : Nat) (xs : List AObj) : ∀ (o : Nat) (l : Objs), (mvd ks n0 xs o l).length = l.length
  | _, [] => rfl
  | o, p :: r => by simp [mvd, mvd_length ks n0 xs (o + 1) r]

theorem mvd_get (ks : List Nat) (n0 : Nat) (xs : List AObj) : ∀ (o : Nat) (l : Objs) (j : Nat), (mvd ks n0 xs o l)[j]? = (l[j]?).map (mvd1 ks n0 xs (o + j))
  | _, [], j => by simp [mvd]
  | o, p :: r, 0 => by simp [mvd]
  | o, p :: r, j + 1 => by
    simp only [mvd, List.getElem?_cons_succ]
    rw [mvd_get ks n0 xs (o + 1) r j, show o + 1 + j = o + (j + 1) by omega]

theorem laid_get : ∀ (l : List AObj) (j : Nat), (laid l)[j]? = (l[j]?).map fun x => (0, x)
  | [], j => by simp [laid]
  | x :: r, 0 => by simp [laid]
  | x :: r, j + 1 => by simp [laid, laid_get r j]

theorem laid_length : ∀ (l : List AObj), (laid l).length = l.length
  | [] => rfl
  | x :: r => by simp [laid, laid_length r]

/-- The caller's numbers, with versions, of the objects that are handed over. -/
def mIn : List Nat → Objs → List (Nat × Nat)
  | [], _ => []
  | k :: ks, objs => (k, match objs[k]? with | some p => p.1 | none => 0) :: mIn ks objs

/-- .. and of those that come back. -/
def mNew : Nat → Nat → List (Nat × Nat)
  | 0, _ => []
  | c + 1, o => (o, 0) :: mNew c (o + 1)

def mOut (ks : List Nat) (n0 : Nat) (objs : Objs) (c : Nat) : List (Nat × Nat) := (mIn ks objs).take n0 ++ mNew c objs.length

theorem mIn_get : ∀ {ks : List Nat} {objs : Objs} {i o v : Nat}, (mIn ks objs)[i]? = some (o, v) → ks[i]? = some o ∧ v = (match objs[o]? with | some p => p.1 | none => 0)
  | [], _, _, _, _, h => by simp [mIn] at h
  | k :: ks, objs, 0, o, v, h => by simp [mIn] at h; obtain ⟨rfl, rfl⟩ := h; exact ⟨rfl, rfl⟩
  | k :: ks, objs, i + 1, o, v, h => by simp [mIn] at h; obtain ⟨h1, h2⟩ := mIn_get h; exact ⟨by simpa using h1, h2⟩

theorem mIn_length : ∀ (ks : List Nat) (objs : Objs), (mIn ks objs).length = ks.length
  | [], _ => rfl
  | k :: ks, objs => by simp [mIn, mIn_length ks objs]

theorem mNew_length : ∀ (c o : Nat), (mNew c o).length = c
  | 0, _ => rfl
  | c + 1, o => by simp [mNew, mNew_length c (o + 1)]

theorem mNew_get : ∀ {c o j a v : Nat}, (mNew c o)[j]? = some (a, v) → a = o + j ∧ v = 0 ∧ j < c
  | 0, _, _, _, _, h => by simp [mNew] at h
  | c + 1, o, 0, a, v, h => by simp [mNew] at h; omega
  | c + 1, o, j + 1, a, v, h => by simp [mNew] at h; obtain ⟨h1, h2, h3⟩ := mNew_get h; exact ⟨by omega, h2, by omega⟩

/-- Objects, one by one. -/
inductive RenOs (m : List (Nat × Nat)) : Objs → List AObj → Prop where
  | nil : RenOs m [] []
  | cons (Y X : AObj) (ys : Objs) (xs : List AObj) (h : RenO m Y X) (t : RenOs m ys xs) : RenOs m ((0, Y) :: ys) (X :: xs)

theorem RenOs.length {m : List (Nat × Nat)} {ys : Objs} {xs : List AObj} (h : RenOs m ys xs) : ys.length = xs.length := by
  induction h with
  | nil => rfl
  | cons _ _ _ _ _ _ ih => simp [ih]

theorem RenOs.get {m : List (Nat × Nat)} {ys : Objs} {xs : List AObj} (h : RenOs m ys xs) : ∀ {i : Nat} {q : Nat × AObj}, ys[i]? = some q → q.1 = 0 ∧ ∃ X, xs[i]? = some X ∧ RenO m q.2 X := by
  induction h with
  | nil => intro i q h; simp at h
  | cons Y X ys xs h _ ih =>
    intro i q hq
    cases i with
    | zero => simp at hq; subst hq; exact ⟨rfl, X, rfl, h⟩
    | succ i => simp at hq; simpa using ih hq

/-- The objects that are handed over, as the caller has them. -/
def picks : List Nat → Objs → List AObj
  | [], _ => []
  | k :: ks, objs => (match objs[k]? with | some p => p.2 | none => .dead) :: picks ks objs

theorem picks_get : ∀ {ks : List Nat} {objs : Objs} {i : Nat} {X : AObj}, (picks ks objs)[i]? = some X → ∃ o, ks[i]? = some o ∧ X = (match objs[o]? with | some p => p.2 | none => .dead)
  | [], _, _, _, h => by simp [picks] at h
  | k :: ks, objs, 0, X, h => by simp [picks] at h; exact ⟨k, rfl, h.symm⟩
  | k :: ks, objs, i + 1, X, h => by simp [picks] at h; obtain ⟨o, h1, h2⟩ := picks_get h; exact ⟨o, by simpa using h1, h2⟩

def allLive : List AObj → Bool
  | [] => true
  | x :: r => x.live && allLive r

theorem allLive_get : ∀ {l : List AObj} {i : Nat} {X : AObj}, allLive l = true → l[i]? = some X → X.live = true
  | [], _, _, _, h => by simp at h
  | x :: r, 0, X, ha, h => by simp [allLive] at ha h; subst h; exact ha.1
  | x :: r, i + 1, X, ha, h => by simp [allLive] at ha h; exact allLive_get ha.2 h

end Go.Fw
