/-
  What a copy of a state is: rows of its own, and each of its jobs two more; memory whose number of objects is not known. No condition.
-/
import Derived.Test.YtoionleakeemlaaGreatDoorGC1
namespace Go.Fw
open Go.RowKit
theorem ai {a b : Prop} (h : a) (k : b) : a ∧ b := ⟨h, k⟩
theorem us {P : Program} {f : FuncId} {args : List AVal} {objs : Objs} {r : AVal} {o : Objs} {K : AVal → Objs → Prop} (h : ACalls P f args objs fun r' o' => r' = r ∧ o' = o) (k : K r o) : ACalls P f args objs K := ACalls.use h k
theorem mo {P : Program} {f : FuncId} {fn : Func} {c : Code} {args : List AVal} {objs : Objs} {n0 : Nat} {r0 : AVal} {objs0 : Objs} (keep : Nat → Bool) (hf : P.funcs[f]? = some fn)
    (h : cwp P fn.ntmps n0 keep c (CRet P fn n0 fun r o => r = r0 ∧ o = objs0) (initSlots 0 args) objs) (hb : fn.body = some c := by exact rfl) (hlen : Nat.ble args.length fn.ntmps = true := by exact rfl) (hn0 : Nat.ble n0 objs.length = true := by exact rfl) : AMoves P f args objs n0 r0 objs0 :=
  AMoves.of_cwp keep hf hb hlen hn0 h
end Go.Fw
namespace Go.Fw
open Go.RowKit
theorem SeenL.len {objs : Objs} {xs ys : List AVal} (h : SeenL objs xs ys) : xs.length = ys.length := by
  induction h with
  | nil => rfl
  | cons x y xs ys _ _ ih => simp [ih]
theorem SeenL.back {objs : Objs} {xs ys : List AVal} (h : SeenL objs xs ys) : ∀ {j : Nat} {y : AVal}, ys[j]? = some y → ∃ x, xs[j]? = some x ∧ Seen objs x y := by
  induction h with
  | nil => intro j y hy; simp at hy
  | cons x y xs ys hs _ ih =>
    intro j z hz
    cases j with
    | zero => simp at hz; subst hz; exact ⟨x, rfl, hs⟩
    | succ j => simpa using ih (by simpa using hz)
/-- As own_still; what lies in the cells is told anew, too. -/
theorem own_still2 {K : Ctx} {objs : Objs} {w : World} (hm : MemSat K objs w) {o ver k off len : Nat} {t : TypeId} {es : List (List AVal)} {v : Value} {f : Nat → List AVal} (hp : objs[o]? = some (ver, .row t k es)) (hle : off + len ≤ es.length)
    (hf : ∀ i, i < len → SeenL objs (es.getD (off + i) []) (f i))
    (hr : Rep K (.own o ver k off len) v) : Rep (K.still objs w) (.seq k len false f) v := by
  obtain ⟨ho, hv, hcase⟩ := rep_own hr
  rcases hcase with ⟨rfl, rfl, rfl⟩ | ⟨a, c, rfl, hlc, hC, ha⟩
  · exact .nil _ _ _
  · refine rep_seq_mk hlc (fun h => by cases h) (fun h => by cases h) (fun hpos => ?_)
    have := ha (by omega)
    subst this
    have hC0 : K.C o ver ≠ 0 := by omega
    obtain ⟨cc, hcc, hs, h1, hrep⟩ := hm.rowBlock hp hC0
    have hlo := hm.lo o _ hp rfl hC0
    have hel := (hm.obj o _ hp).1
    have get : ∀ i, i < len → ∃ e, es[off + i]? = some e ∧ es.getD (off + i) [] = e ∧ e.length = k := by
      intro i hi
      have hlt : off + i < es.length := by omega
      refine ⟨es[off + i], List.getElem?_eq_getElem hlt, by simp [hlt], hel _ (List.getElem_mem hlt)⟩
    refine ⟨K.ρ o ver, off * k, fun i j => (cc[(off + i) * k + j]?).getD undef, rfl, fun i hi => ?_, fun i j hi hj => ?_, fun i j y hi hy => ?_⟩
    · obtain ⟨e, _, he, hk⟩ := get i hi; rw [← (hf i hi).len, he]; exact hk
    · obtain ⟨e, he, _, hk⟩ := get i hi
      obtain ⟨u, hu, _⟩ := hrep (off + i) j e _ he (List.getElem?_eq_getElem (by omega))
      have hcell : w.cell? ⟨K.ρ o ver, off * k + (i * k + j), none⟩ = some u := by
        obtain ⟨fr, _, hcb⟩ := hcc
        rw [← Nat.add_assoc, ← Nat.add_mul]
        simp [World.cell?, hcb, hu]
      simp only [Ctx.still, hlo.2.2, hlo.1, if_true, hcell, hu, Option.getD_some]
      rw [if_pos (h1 u (Array.mem_toList_iff.2 (Array.mem_of_getElem? hu)))]
    · obtain ⟨e, he, he', hk⟩ := get i hi
      have hx := hf i hi
      rw [he'] at hx
      obtain ⟨x, hx1, hx2⟩ := hx.back hy
      obtain ⟨u, hu, hru⟩ := hrep (off + i) j e x he hx1
      simp only [hu, Option.getD_some]
      exact hx2 K w u hm hru
theorem told_is {n : Nat} {r r' : AVal} {o o' : Objs} (hr : r = r') (ho : o = o') : Told n r o r' o' := by subst hr ho; exact Told.refl
end Go.Fw
namespace Go.Proofs.YtoionleakeemlaaGreatDoor
open Go.Fw

/-- A job's cells in a row of jobs whose own rows are the objects b + 2 i and b + 2 i + 1. -/
def jcell (b : Nat) (x : Job) : List AVal := [I x.id, Sg x.name, Sg x.user, Sg x.account, I x.shape.kind, .own b 0 2 0 x.shape.alts.length, I x.shape.min, I x.shape.max, I x.shape.wall, I x.prio, .own (b + 1) 0 2 0 x.after.length, I x.state, Bo x.held, I x.born, I x.promise, I x.choice, I x.start, I x.limit, U x.nodes, I x.used]
def jrow (b : Nat) : List Job → List (List AVal)
  | [] => []
  | x :: l => jcell b x :: jrow (b + 2) l
def nst (ta td : TypeId) : List Job → Objs
  | [] => []
  | x :: l => (0, .row ta 2 (x.shape.alts.map Alt.cells)) :: (0, .row td 2 (x.after.map Dep.cells)) :: nst ta td l

theorem jrow_length : ∀ (l : List Job) (b : Nat), (jrow b l).length = l.length
  | [], _ => rfl
  | x :: l, b => by simp [jrow, jrow_length l]
theorem nst_length {ta td : TypeId} : ∀ (l : List Job), (nst ta td l).length = 2 * l.length
  | [] => rfl
  | x :: l => by simp [nst, nst_length l]; omega
theorem jrow_get : ∀ (l : List Job) (b i : Nat) (x : Job), l[i]? = some x → (jrow b l)[i]? = some (jcell (b + 2 * i) x)
  | [], _, _, _, h => by simp at h
  | y :: l, b, 0, x, h => by simp at h; subst h; rfl
  | y :: l, b, i + 1, x, h => by
    have := jrow_get l (b + 2) i x (by simpa using h)
    simp only [jrow, List.getElem?_cons_succ, this]
    congr 2
    omega
theorem nst_alt {ta td : TypeId} : ∀ (l : List Job) (i : Nat) (x : Job), l[i]? = some x → (nst ta td l)[2 * i]? = some (0, .row ta 2 (x.shape.alts.map Alt.cells))
  | [], _, _, h => by simp at h
  | y :: l, 0, x, h => by simp at h; subst h; rfl
  | y :: l, i + 1, x, h => by
    have := nst_alt (ta := ta) (td := td) l i x (by simpa using h)
    rw [show 2 * (i + 1) = 2 * i + 1 + 1 by omega]
    simpa only [nst, List.getElem?_cons_succ] using this
theorem nst_dep {ta td : TypeId} : ∀ (l : List Job) (i : Nat) (x : Job), l[i]? = some x → (nst ta td l)[2 * i + 1]? = some (0, .row td 2 (x.after.map Dep.cells))
  | [], _, _, h => by simp at h
  | y :: l, 0, x, h => by simp at h; subst h; rfl
  | y :: l, i + 1, x, h => by
    have := nst_dep (ta := ta) (td := td) l i x (by simpa using h)
    rw [show 2 * (i + 1) + 1 = 2 * i + 1 + 1 + 1 by omega]
    simpa only [nst, List.getElem?_cons_succ] using this
theorem nst_ver {ta td : TypeId} : ∀ (l : List Job) (j : Nat) {p : Nat × AObj}, (nst ta td l)[j]? = some p → p.1 = 0
  | [], _, _, h => by simp [nst] at h
  | x :: l, 0, _, h => by simp [nst] at h; subst h; rfl
  | x :: l, 1, _, h => by simp [nst] at h; subst h; rfl
  | x :: l, j + 2, _, h => nst_ver l j (by simpa [nst] using h)
theorem nst_append {ta td : TypeId} : ∀ (l m : List Job), nst ta td (l ++ m) = nst ta td l ++ nst ta td m
  | [], _ => rfl
  | x :: l, m => by simp [nst, nst_append l m]
theorem jrow_append : ∀ (l m : List Job) (b : Nat), jrow b (l ++ m) = jrow b l ++ jrow (b + 2 * l.length) m
  | [], _, _ => rfl
  | x :: l, m, b => by
    simp only [List.cons_append, jrow, jrow_append l m, List.length_cons]
    rw [show b + 2 + 2 * l.length = b + 2 * (l.length + 1) by omega]

/-- The row of jobs in the loop that copies what hangs on each: the first i are done. -/
def jmid (b i : Nat) (l : List Job) : List (List AVal) := jrow b (l.take i) ++ (l.drop i).map Job.cells
theorem jmid_length (b i : Nat) (l : List Job) : (jmid b i l).length = l.length := by simp [jmid, jrow_length]; omega
theorem jmid_get {b i : Nat} {l : List Job} (h : i < l.length) : (jmid b i l)[i]? = some (Job.cells (l.getD i .zero)) := by
  have h1 : (jrow b (l.take i)).length = i := by rw [jrow_length]; simp; omega
  rw [jmid, List.getElem?_append_right (by omega), h1, Nat.sub_self]
  simp [List.getD, List.getElem?_eq_getElem h]
theorem jmid_at {b i k : Nat} {l : List Job} (e : k = i) (h : i < l.length) : elemI (jmid b i l) k = some (Job.cells (l.getD i .zero)) := by
  rw [elemI_eq, e]
  exact jmid_get h
theorem jmid_at' {b i k : Nat} {l : List Job} {c : List AVal} (e : k = i) (h : i < l.length) : elemI ((jmid b i l).set i c) k = some c := by
  rw [elemI_eq, e]
  simp [jmid_length, h]
theorem jmid_set {b i : Nat} {l : List Job} (h : i < l.length) (c : List AVal) : ((jmid b i l).set i c).set i (jcell (b + 2 * i) (l.getD i .zero)) = jmid b (i + 1) l := by
  have h1 : (jrow b (l.take i)).length = i := by rw [jrow_length]; simp; omega
  rw [List.set_set]
  have h2 : l.take (i + 1) = l.take i ++ [l.getD i .zero] := by
    rw [List.take_add_one]
    simp [List.getD, List.getElem?_eq_getElem h]
  rw [jmid, jmid, h2, jrow_append]
  rw [List.set_append_right _ _ (by omega), h1, Nat.sub_self, List.drop_eq_getElem_cons h]
  simp only [List.map_cons, List.set_cons_zero, jrow, List.append_assoc, List.cons_append, List.nil_append, List.length_take]
  rw [show min i l.length = i by omega]
theorem nst_next {ta td : TypeId} {i : Nat} {l : List Job} (h : i < l.length) : nst ta td (l.take i) ++ [(0, .row ta 2 ((l.getD i .zero).shape.alts.map Alt.cells))] ++ [(0, .row td 2 ((l.getD i .zero).after.map Dep.cells))] = nst ta td (l.take (i + 1)) := by
  have h2 : l.take (i + 1) = l.take i ++ [l.getD i .zero] := by
    rw [List.take_add_one]
    simp [List.getD, List.getElem?_eq_getElem h]
  rw [h2, nst_append]
  simp [nst]

theorem set_idx {es es' : List (List AVal)} {k i : Nat} {c : List AVal} (e : k = i) (h : es.set i c = es') : es.set k c = es' := by rw [e]; exact h
theorem cput_do {nt d : Nat} {loc : Fw.Loc} {G : Fw.Gs} {objs : Objs} {cur : Option Tag} {v : AVal} {K : Fw.Loc → Fw.Gs → Objs → Prop} (k : K ((d, cur, v) :: loc) G objs) (h : (Nat.blt d nt && (findL loc d).isNone) = true := by exact rfl) : cput nt loc G objs cur (some d) v K := by
  unfold cput
  simp only [h]
  exact forceA_iff.2 k
theorem weaker_is {nt n : Nat} {s s' : List (Nat × AVal)} {o o' : Objs} (hs : SubE s s') (ho : o = o') : Weaker nt n ⟨s, o⟩ ⟨s', o'⟩ := ho ▸ weaker_same hs

theorem jmid_all {b : Nat} {l : List Job} : jmid b l.length l = jrow b l := by simp [jmid]
theorem nst_all {ta td : TypeId} {l : List Job} : nst ta td (l.take l.length) = nst ta td l := by rw [List.take_length]

/-- A call that makes one row, wherever. -/
theorem own_to {P : Program} {f : FuncId} {args : List AVal} {k m N : Nat} {t : TypeId} {es : List (List AVal)} {objs o' : Objs} (h : ACalls P f args [] fun r o => r = .own 0 0 k 0 m ∧ o = [(0, .row t k es)]) (ha : LowL 0 args) (hes : ∀ e ∈ es, LowL 0 e)
    (hN : objs.length = N) (hO : objs ++ [(0, .row t k es)] = o') : ACalls P f args objs fun r o => r = .own N 0 k 0 m ∧ o = o' := by
  subst hN hO
  exact ACalls.frameOwn h ha hes objs

/-- What such a row of jobs is told as, when no one writes it any more. -/
theorem seen_jobs {objs : Objs} {o b n : Nat} {t ta td : TypeId} {es : List (List AVal)} (l : List Job) (hp : objs[o]? = some (0, .row t 20 es)) (he : es = jrow b l) (hn : n = l.length)
    (ha : ∀ i x, l[i]? = some x → objs[b + 2 * i]? = some (0, .row ta 2 (x.shape.alts.map Alt.cells)))
    (hd : ∀ i x, l[i]? = some x → objs[b + 2 * i + 1]? = some (0, .row td 2 (x.after.map Dep.cells))) : Seen objs (.own o 0 20 0 n) (jobL l) := by
  subst he hn
  intro K w v hm hr
  refine own_still2 (f := fun i => Job.cells (l.getD i .zero)) hm hp (by simp [jrow_length]) (fun i hi => ?_) hr
  have hx : l[i]? = some (l.getD i .zero) := by simp [List.getD, List.getElem?_eq_getElem hi]
  have h1 : (jrow b l).getD (0 + i) [] = jcell (b + 2 * i) (l.getD i .zero) := by
    rw [Nat.zero_add, List.getD, jrow_get l b i _ hx]
    rfl
  rw [h1]
  exact e1 (e1 (e1 (e1 (e1 (.cons _ _ _ _ (seen_list Alt.zero _ (ha i _ hx) rfl rfl) (e1 (e1 (e1 (e1 (.cons _ _ _ _ (seen_list Dep.zero _ (hd i _ hx) rfl rfl) (e1 (e1 (e1 (e1 (e1 (e1 (e1 (e1 (e1 .nil)))))))))))))))))))

/-- The memory of the law: three boxes, the copy's rows, and what hangs on its jobs. -/
def lay (tn tj tr tb tu ta td : TypeId) (B0 B1 B2 : Nat × AObj) (nd : List Node) (c : List Job) (rz : List Resize) (bk : List Book) (us : List Usage) : Objs :=
  B0 :: B1 :: B2 :: (0, .row tn 7 (nd.map Node.cells)) :: (0, .row tj 20 (jrow 8 c)) :: (0, .row tr 5 (rz.map Resize.cells)) :: (0, .row tb 4 (bk.map Book.cells)) :: (0, .row tu 4 (us.map Usage.cells)) :: nst ta td c

theorem jrow_set {b : Nat} {c : List Job} {i : Nat} (h : i < c.length) (y : Job) : (jrow b c).set i (jcell (b + 2 * i) y) = jrow b (c.set i y) := by
  induction c generalizing b i with
  | nil => simp at h
  | cons x c ih =>
    cases i with
    | zero => rfl
    | succ i =>
      have := ih (b := b + 2) (i := i) (by simpa using h)
      simp only [jrow, List.set_cons_succ]
      rw [show b + 2 * (i + 1) = b + 2 + 2 * i by omega, this]
theorem jrow_at {b i k : Nat} {c : List Job} (e : k = i) (h : i < c.length) : elemI (jrow b c) k = some (jcell (b + 2 * i) (c.getD i .zero)) := by
  rw [elemI_eq, e]
  exact jrow_get c b i _ (by simp [List.getD, List.getElem?_eq_getElem h])
theorem nst_set {ta td : TypeId} {c : List Job} {i : Nat} (h : i < c.length) (y : Job) : nst ta td (c.set i y) = ((nst ta td c).set (2 * i) (0, .row ta 2 (y.shape.alts.map Alt.cells))).set (2 * i + 1) (0, .row td 2 (y.after.map Dep.cells)) := by
  induction c generalizing i with
  | nil => simp at h
  | cons x c ih =>
    cases i with
    | zero => rfl
    | succ i =>
      have := ih (i := i) (by simpa using h)
      rw [show 2 * (i + 1) = 2 * i + 1 + 1 by omega]
      simp only [nst, List.set_cons_succ, this]
theorem getD_get {c : List Job} {i : Nat} (h : i < c.length) : c[i]? = some (c.getD i .zero) := by simp [List.getD, List.getElem?_eq_getElem h]
theorem set_same {α : Type} {l : List α} {i : Nat} {x : α} (h : l[i]? = some x) : l.set i x = l := by
  induction l generalizing i with
  | nil => rfl
  | cons y l ih => cases i with
    | zero => simp at h; subst h; rfl
    | succ i => simp only [List.set_cons_succ]; rw [ih (by simpa using h)]
theorem nst_same {ta td : TypeId} {c : List Job} {i : Nat} (h : i < c.length) {y : Job} (ha : y.shape.alts = (c.getD i .zero).shape.alts) (hd : y.after = (c.getD i .zero).after) : nst ta td (c.set i y) = nst ta td c := by
  rw [nst_set h, ha, hd, set_same (nst_alt c i _ (getD_get h)), set_same (nst_dep c i _ (getD_get h))]
theorem nst_alts {ta td : TypeId} {c : List Job} {i : Nat} (h : i < c.length) {y : Job} (hd : y.after = (c.getD i .zero).after) : (nst ta td c).set (2 * i) (0, .row ta 2 (y.shape.alts.map Alt.cells)) = nst ta td (c.set i y) := by
  rw [nst_set h, hd]
  refine (set_same ?_).symm
  rw [List.getElem?_set_ne (by omega)]
  exact nst_dep c i _ (getD_get h)
theorem nst_deps {ta td : TypeId} {c : List Job} {i : Nat} (h : i < c.length) {y : Job} (ha : y.shape.alts = (c.getD i .zero).shape.alts) : (nst ta td c).set (2 * i + 1) (0, .row td 2 (y.after.map Dep.cells)) = nst ta td (c.set i y) := by
  rw [nst_set h, ha, set_same (nst_alt c i _ (getD_get h))]
theorem jrow_same {b : Nat} {c : List Job} {i : Nat} (h : i < c.length) {y : Job} (e : jcell (b + 2 * i) y = jcell (b + 2 * i) (c.getD i .zero)) : jrow b (c.set i y) = jrow b c := by
  rw [← jrow_set h, e, set_same (jrow_get c b i _ (getD_get h))]

section
variable {tn tj tr tb tu ta td : TypeId} {B0 B1 B2 : Nat × AObj} {nd : List Node} {c : List Job} {rz : List Resize} {bk : List Book} {us : List Usage}
theorem row_of {objs : Objs} {o ver k : Nat} {t : TypeId} {es : List (List AVal)} (h : objs[o]? = some (ver, .row t k es)) : rowOf objs o ver k = some (t, es) := by
  unfold rowOf
  rw [h]
  simp
theorem lay_get (k : Nat) : (lay tn tj tr tb tu ta td B0 B1 B2 nd c rz bk us)[8 + k]? = (nst ta td c)[k]? := by
  rw [Nat.add_comm]
  rfl
theorem row_alt {i : Nat} (h : i < c.length) : rowOf (lay tn tj tr tb tu ta td B0 B1 B2 nd c rz bk us) (8 + 2 * i) 0 2 = some (ta, (c.getD i .zero).shape.alts.map Alt.cells) :=
  row_of (by rw [lay_get]; exact nst_alt c i _ (getD_get h))
theorem row_dep {i : Nat} (h : i < c.length) : rowOf (lay tn tj tr tb tu ta td B0 B1 B2 nd c rz bk us) (8 + 2 * i + 1) 0 2 = some (td, (c.getD i .zero).after.map Dep.cells) :=
  row_of (by rw [Nat.add_assoc, lay_get]; exact nst_dep c i _ (getD_get h))
theorem lay_set (k : Nat) (p : Nat × AObj) : (lay tn tj tr tb tu ta td B0 B1 B2 nd c rz bk us).set (8 + k) p = B0 :: B1 :: B2 :: (0, .row tn 7 (nd.map Node.cells)) :: (0, .row tj 20 (jrow 8 c)) :: (0, .row tr 5 (rz.map Resize.cells)) :: (0, .row tb 4 (bk.map Book.cells)) :: (0, .row tu 4 (us.map Usage.cells)) :: (nst ta td c).set k p := by
  rw [Nat.add_comm]
  rfl
theorem lay_prio {i : Nat} (h : i < c.length) {y : Job} (ha : y.shape.alts = (c.getD i .zero).shape.alts) (hd : y.after = (c.getD i .zero).after) : (lay tn tj tr tb tu ta td B0 B1 B2 nd c rz bk us).set 4 (0, .row tj 20 ((jrow 8 c).set i (jcell (8 + 2 * i) y))) = lay tn tj tr tb tu ta td B0 B1 B2 nd (c.set i y) rz bk us := by
  rw [jrow_set h]
  unfold lay
  rw [nst_same h ha hd]
  rfl
theorem lay_alt {i : Nat} (h : i < c.length) {y : Job} (e : jcell (8 + 2 * i) y = jcell (8 + 2 * i) (c.getD i .zero)) (hd : y.after = (c.getD i .zero).after) : (lay tn tj tr tb tu ta td B0 B1 B2 nd c rz bk us).set (8 + 2 * i) (0, .row ta 2 (y.shape.alts.map Alt.cells)) = lay tn tj tr tb tu ta td B0 B1 B2 nd (c.set i y) rz bk us := by
  rw [lay_set, nst_alts h hd]
  unfold lay
  rw [jrow_same h e]
theorem lay_dep {i : Nat} (h : i < c.length) {y : Job} (e : jcell (8 + 2 * i) y = jcell (8 + 2 * i) (c.getD i .zero)) (ha : y.shape.alts = (c.getD i .zero).shape.alts) : (lay tn tj tr tb tu ta td B0 B1 B2 nd c rz bk us).set (8 + 2 * i + 1) (0, .row td 2 (y.after.map Dep.cells)) = lay tn tj tr tb tu ta td B0 B1 B2 nd (c.set i y) rz bk us := by
  rw [Nat.add_assoc, lay_set, nst_deps h ha]
  unfold lay
  rw [jrow_same h e]
end
theorem sz_set {c : List Job} {i : Nat} {y : Job} (h : ∀ z ∈ c, z.sz) (hy : y.sz) : ∀ z ∈ c.set i y, z.sz := fun z hz => by
  rcases List.mem_or_eq_of_mem_set hz with q | q
  · exact h z q
  · exact q ▸ hy
theorem getD_set {c : List Job} {i : Nat} {y : Job} (h : i < c.length) : (c.set i y).getD i .zero = y := by simp [List.getD, h]
end Go.Proofs.YtoionleakeemlaaGreatDoor
namespace Go.Proofs.YtoionleakeemlaaGreatDoor
open Go.Fw

set_option maxRecDepth 20000
set_option maxHeartbeats 4000000
attribute [local irreducible] ACalls AMoves

theorem ns_Alt (l : List Alt) (hs0 : l.length ≤ 4294967296) : AMoves Tryz.prog 62 [altL l] [] 0 (AVal.own 0 0 2 0 l.length) [(0, AObj.row 56 2 (l.map Alt.cells))] := by
  refine mo (kp 3 []) Tryz.func62 ?_
  first | refine ⟨app_ok 16 rfl lnA (by first | (simp; omega) | grind), ?_⟩ | refine ⟨app_nil 16 rfl (by first | (simp; omega) | grind), ?_⟩
  exact rq (tt [0] (tO rfl (tl eqA) .nil) (to 0 lnA))
theorem nst_Alt {l : List Alt} {N : Nat} {objs o' : Objs} (hs0 : l.length ≤ 4294967296) (hN : objs.length = N) (hO : objs ++ [(0, AObj.row 56 2 (l.map Alt.cells))] = o') : ACalls Tryz.prog 62 [altL l] objs fun r o => r = .own N 0 2 0 l.length ∧ o = o' :=
  own_to (mv [] (ns_Alt l hs0) .nil (dl lw .nil) (rO rr .nil) (rw_ 0 0 rfl)) (.cons lw .nil) lm hN hO

theorem ns_Dep (l : List Dep) (hs0 : l.length ≤ 4294967296) : AMoves Tryz.prog 63 [depL l] [] 0 (AVal.own 0 0 2 0 l.length) [(0, AObj.row 58 2 (l.map Dep.cells))] := by
  refine mo (kp 3 []) Tryz.func63 ?_
  first | refine ⟨app_ok 16 rfl lnA (by first | (simp; omega) | grind), ?_⟩ | refine ⟨app_nil 16 rfl (by first | (simp; omega) | grind), ?_⟩
  exact rq (tt [0] (tO rfl (tl eqA) .nil) (to 0 lnA))
theorem nst_Dep {l : List Dep} {N : Nat} {objs o' : Objs} (hs0 : l.length ≤ 4294967296) (hN : objs.length = N) (hO : objs ++ [(0, AObj.row 58 2 (l.map Dep.cells))] = o') : ACalls Tryz.prog 63 [depL l] objs fun r o => r = .own N 0 2 0 l.length ∧ o = o' :=
  own_to (mv [] (ns_Dep l hs0) .nil (dl lw .nil) (rO rr .nil) (rw_ 0 0 rfl)) (.cons lw .nil) lm hN hO

def cpR1 (s : State) : AVal := .agg [I s.now, .own 3 0 7 0 s.nodes.length, .own 4 0 20 0 s.jobs.length, .own 5 0 5 0 s.resizes.length, .own 6 0 4 0 s.books.length, .own 7 0 4 0 s.ledger.length, I s.nextJob, I s.nextBook]
def cpO1 (s : State) : Objs := (0, .row 28 8 [[I s.now, nodeL s.nodes, jobL s.jobs, resizeL s.resizes, bookL s.books, usageL s.ledger, I s.nextJob, I s.nextBook]]) :: (0, .row 28 8 [[I s.now, .own 3 0 7 0 s.nodes.length, .own 4 0 20 0 s.jobs.length, .own 5 0 5 0 s.resizes.length, .own 6 0 4 0 s.books.length, .own 7 0 4 0 s.ledger.length, I s.nextJob, I s.nextBook]]) :: (0, .row 28 8 [[I s.now, .own 3 0 7 0 s.nodes.length, .own 4 0 20 0 s.jobs.length, .own 5 0 5 0 s.resizes.length, .own 6 0 4 0 s.books.length, .own 7 0 4 0 s.ledger.length, I s.nextJob, I s.nextBook]]) :: (0, .row 48 7 (s.nodes.map Node.cells)) :: (0, .row 54 20 (jrow 8 s.jobs)) :: (0, .row 38 5 (s.resizes.map Resize.cells)) :: (0, .row 60 4 (s.books.map Book.cells)) :: (0, .row 62 4 (s.ledger.map Usage.cells)) :: nst 56 58 s.jobs
theorem copy_n1 (s : State) (hs0 : s.sz) : ACalls Tryz.prog 19 [State.a s] [(0, .row 28 8 [[I s.now, nodeL s.nodes, jobL s.jobs, resizeL s.resizes, bookL s.books, usageL s.ledger, I s.nextJob, I s.nextBook]])] fun r o => r = cpR1 s ∧ o = cpO1 s := by
  refine ACalls.of_cwp (kp 4 [26, 27, 28]) Tryz.func19 rfl rfl ?_
  obtain ⟨z8, z9, z10, z11, z12, z13, z14⟩ : s.nodes.length ≤ 4294967296 ∧ s.jobs.length ≤ 4294967296 ∧ (∀ y ∈ s.jobs, y.sz) ∧ s.resizes.length ≤ 4294967296 ∧ s.books.length ≤ 4294967296 ∧ s.ledger.length ≤ 4294967296 ∧ (∀ y ∈ s.ledger, y.sz) := hs0
  refine dchk (by kernel_rfl) ?_
  (first | apply u2 | apply u3 | apply u4 | apply us); exact mv [] (state_copied_Node_o s.nodes szA) .nil (dl lw .nil) (rO rr .nil) (rw_ 3 0 rfl)
  (first | apply u2 | apply u3 | apply u4 | apply us); exact mv [] (state_copied_Job_o s.jobs szA) .nil (dl lw .nil) (rO rr .nil) (rw_ 4 0 rfl)
  (first | apply u2 | apply u3 | apply u4 | apply us); exact mv [] (state_copied_Resize_o s.resizes szA) .nil (dl lw .nil) (rO rr .nil) (rw_ 5 0 rfl)
  (first | apply u2 | apply u3 | apply u4 | apply us); exact mv [] (state_copied_Book_o s.books szA) .nil (dl lw .nil) (rO rr .nil) (rw_ 6 0 rfl)
  (first | apply u2 | apply u3 | apply u4 | apply us); exact mv [] (state_copied_Usage_o s.ledger szA) .nil (dl lw .nil) (rO rr .nil) (rw_ 7 0 rfl)
  repeat ((first | refine ai rfl ?_ | refine ai (fun _ => rfl) ?_))
  refine loop_start1 (fun (i : Nat) => i ≤ s.jobs.length) (fun i => s.jobs.length - i) (fun i => [(1, AVal.ptr 1 0 8 0 0), (2, AVal.ptr 2 0 8 0 0), (26, I (s.jobs.length : Int)), (27, I (i : Int))]) (fun i => (0, .row 28 8 [[I s.now, nodeL s.nodes, jobL s.jobs, resizeL s.resizes, bookL s.books, usageL s.ledger, I s.nextJob, I s.nextBook]]) :: (0, .row 28 8 [[I s.now, .own 3 0 7 0 s.nodes.length, .own 4 0 20 0 s.jobs.length, .own 5 0 5 0 s.resizes.length, .own 6 0 4 0 s.books.length, .own 7 0 4 0 s.ledger.length, I s.nextJob, I s.nextBook]]) :: (0, .row 28 8 [[I 0, .lit (.slice none 0 0), .lit (.slice none 0 0), .lit (.slice none 0 0), .lit (.slice none 0 0), .lit (.slice none 0 0), I 0, I 0]]) :: (0, .row 48 7 (s.nodes.map Node.cells)) :: (0, .row 54 20 (jmid 8 i s.jobs)) :: (0, .row 38 5 (s.resizes.map Resize.cells)) :: (0, .row 60 4 (s.books.map Book.cells)) :: (0, .row 62 4 (s.ledger.map Usage.cells)) :: nst 56 58 (s.jobs.take i)) 0 (weaker_is (.cons _ _ _ rfl (.cons _ _ _ rfl (.cons _ _ _ rfl (.cons _ _ _ rfl .nil)))) rfl) (by omega) ?_
  intro i hj
  refine ai (fun h1 => ?_) (fun h2 => ?_)
  · have hlt : i < s.jobs.length := by have := of_decide_eq_true h1; omega
    have hxz : (s.jobs.getD i Job.zero).sz := getD_sz (by first | assumption | grind) (Job.szz _)
    obtain ⟨z3, z4, z5, z6, z7⟩ : ((s.jobs.getD i Job.zero).name).size ≤ 4294967296 ∧ ((s.jobs.getD i Job.zero).user).size ≤ 4294967296 ∧ ((s.jobs.getD i Job.zero).account).size ≤ 4294967296 ∧ ((((s.jobs.getD i Job.zero).shape).alts).length ≤ 4294967296) ∧ ((s.jobs.getD i Job.zero).after).length ≤ 4294967296 := hxz
    refine dchk (by kernel_rfl) ?_
    refine ai gkA ?_
    refine ⟨_, evalOp_load rfl rfl rfl (jmid_at (by first | rfl | exact Nat.zero_add _ | omega) hlt) rfl, ?_⟩
    (first | apply u2 | apply u3 | apply u4 | apply us); exact nst_Alt (N := 8 + 2 * i) z6 (by simp [nst_length]; omega) rfl
    refine forceP_iff.2 (cput_do ?_)
    refine ai gkA ?_
    refine ⟨_, evalOp_load rfl rfl rfl (jmid_at (by first | rfl | exact Nat.zero_add _ | omega) hlt) rfl, ?_⟩
    (first | apply u2 | apply u3 | apply u4 | apply us); exact nst_Dep (N := 8 + 2 * i + 1) z7 (by simp [nst_length]; omega) rfl
    refine forceP_iff.2 (cput_do ?_)
    refine ai gkA ?_
    refine ⟨_, evalOp_store (es' := (jmid 8 i s.jobs).set i (splice (Job.cells (s.jobs.getD i .zero)) 5 [.own (8 + 2 * i) 0 2 0 (s.jobs.getD i .zero).shape.alts.length])) rfl rfl rfl rfl (jmid_at (by first | rfl | exact Nat.zero_add _ | omega) hlt) rfl rfl (set_idx (by first | rfl | exact Nat.zero_add _ | omega) rfl), forceO_iff.2 ?_⟩
    refine ai gkA ?_
    refine ⟨_, evalOp_store (es' := ((jmid 8 i s.jobs).set i (splice (Job.cells (s.jobs.getD i .zero)) 5 [.own (8 + 2 * i) 0 2 0 (s.jobs.getD i .zero).shape.alts.length])).set i (jcell (8 + 2 * i) (s.jobs.getD i .zero))) rfl rfl rfl rfl (jmid_at' (by first | rfl | exact Nat.zero_add _ | omega) hlt) rfl rfl (set_idx (by first | rfl | exact Nat.zero_add _ | omega) rfl), forceO_iff.2 ?_⟩
    repeat ((first | refine ai rfl ?_ | refine ai (fun _ => rfl) ?_ | refine And.intro (evalOp_load rfl rfl rfl (jmid_at (by first | rfl | exact Nat.zero_add _ | omega) hlt) rfl) ?_ | refine And.intro (evalOp_load rfl rfl rfl (jmid_at' (by first | rfl | exact Nat.zero_add _ | omega) hlt) rfl) ?_))
    exact loop_next1 (i + 1) (weaker_is (.cons _ _ _ rfl (.cons _ _ _ rfl (.cons _ _ _ rfl (.cons _ _ _ (by exact I_eq (wr (by omega))) .nil)))) (by rw [← jmid_set hlt (splice (Job.cells (s.jobs.getD i .zero)) 5 [.own (8 + 2 * i) 0 2 0 (s.jobs.getD i .zero).shape.alts.length]), ← nst_next hlt]; rfl)) omA (by omega)
  · obtain rfl : i = s.jobs.length := by have := of_decide_eq_false h2; omega
    conv => whnf
    refine forceO_iff.2 ?_
    conv => whnf
    refine rq (told_is rfl ?_)
    rw [cpO1, ← jmid_all, List.take_length]

def cpR2 (s : State) : AVal := .agg [I s.now, .own 4 0 7 0 s.nodes.length, .own 5 0 20 0 s.jobs.length, .own 6 0 5 0 s.resizes.length, .own 7 0 4 0 s.books.length, .own 8 0 4 0 s.ledger.length, I s.nextJob, I s.nextBook]
def cpO2 (s : State) : Objs := (0, .row 28 8 [[I s.now, nodeL s.nodes, jobL s.jobs, resizeL s.resizes, bookL s.books, usageL s.ledger, I s.nextJob, I s.nextBook]]) :: (0, .row 28 8 [[I 0, .lit (.slice none 0 0), .lit (.slice none 0 0), .lit (.slice none 0 0), .lit (.slice none 0 0), .lit (.slice none 0 0), I 0, I 0]]) :: (0, .row 28 8 [[I s.now, .own 4 0 7 0 s.nodes.length, .own 5 0 20 0 s.jobs.length, .own 6 0 5 0 s.resizes.length, .own 7 0 4 0 s.books.length, .own 8 0 4 0 s.ledger.length, I s.nextJob, I s.nextBook]]) :: (0, .row 28 8 [[I s.now, .own 4 0 7 0 s.nodes.length, .own 5 0 20 0 s.jobs.length, .own 6 0 5 0 s.resizes.length, .own 7 0 4 0 s.books.length, .own 8 0 4 0 s.ledger.length, I s.nextJob, I s.nextBook]]) :: (0, .row 48 7 (s.nodes.map Node.cells)) :: (0, .row 54 20 (jrow 9 s.jobs)) :: (0, .row 38 5 (s.resizes.map Resize.cells)) :: (0, .row 60 4 (s.books.map Book.cells)) :: (0, .row 62 4 (s.ledger.map Usage.cells)) :: nst 56 58 s.jobs
theorem copy_n2 (s : State) (hs0 : s.sz) : ACalls Tryz.prog 19 [State.a s] [(0, .row 28 8 [[I s.now, nodeL s.nodes, jobL s.jobs, resizeL s.resizes, bookL s.books, usageL s.ledger, I s.nextJob, I s.nextBook]]), (0, .row 28 8 [[I 0, .lit (.slice none 0 0), .lit (.slice none 0 0), .lit (.slice none 0 0), .lit (.slice none 0 0), .lit (.slice none 0 0), I 0, I 0]])] fun r o => r = cpR2 s ∧ o = cpO2 s := by
  refine ACalls.of_cwp (kp 4 [26, 27, 28]) Tryz.func19 rfl rfl ?_
  obtain ⟨z8, z9, z10, z11, z12, z13, z14⟩ : s.nodes.length ≤ 4294967296 ∧ s.jobs.length ≤ 4294967296 ∧ (∀ y ∈ s.jobs, y.sz) ∧ s.resizes.length ≤ 4294967296 ∧ s.books.length ≤ 4294967296 ∧ s.ledger.length ≤ 4294967296 ∧ (∀ y ∈ s.ledger, y.sz) := hs0
  refine dchk (by kernel_rfl) ?_
  (first | apply u2 | apply u3 | apply u4 | apply us); exact mv [] (state_copied_Node_o s.nodes szA) .nil (dl lw .nil) (rO rr .nil) (rw_ 4 0 rfl)
  (first | apply u2 | apply u3 | apply u4 | apply us); exact mv [] (state_copied_Job_o s.jobs szA) .nil (dl lw .nil) (rO rr .nil) (rw_ 5 0 rfl)
  (first | apply u2 | apply u3 | apply u4 | apply us); exact mv [] (state_copied_Resize_o s.resizes szA) .nil (dl lw .nil) (rO rr .nil) (rw_ 6 0 rfl)
  (first | apply u2 | apply u3 | apply u4 | apply us); exact mv [] (state_copied_Book_o s.books szA) .nil (dl lw .nil) (rO rr .nil) (rw_ 7 0 rfl)
  (first | apply u2 | apply u3 | apply u4 | apply us); exact mv [] (state_copied_Usage_o s.ledger szA) .nil (dl lw .nil) (rO rr .nil) (rw_ 8 0 rfl)
  repeat ((first | refine ai rfl ?_ | refine ai (fun _ => rfl) ?_))
  refine loop_start1 (fun (i : Nat) => i ≤ s.jobs.length) (fun i => s.jobs.length - i) (fun i => [(1, AVal.ptr 2 0 8 0 0), (2, AVal.ptr 3 0 8 0 0), (26, I (s.jobs.length : Int)), (27, I (i : Int))]) (fun i => (0, .row 28 8 [[I s.now, nodeL s.nodes, jobL s.jobs, resizeL s.resizes, bookL s.books, usageL s.ledger, I s.nextJob, I s.nextBook]]) :: (0, .row 28 8 [[I 0, .lit (.slice none 0 0), .lit (.slice none 0 0), .lit (.slice none 0 0), .lit (.slice none 0 0), .lit (.slice none 0 0), I 0, I 0]]) :: (0, .row 28 8 [[I s.now, .own 4 0 7 0 s.nodes.length, .own 5 0 20 0 s.jobs.length, .own 6 0 5 0 s.resizes.length, .own 7 0 4 0 s.books.length, .own 8 0 4 0 s.ledger.length, I s.nextJob, I s.nextBook]]) :: (0, .row 28 8 [[I 0, .lit (.slice none 0 0), .lit (.slice none 0 0), .lit (.slice none 0 0), .lit (.slice none 0 0), .lit (.slice none 0 0), I 0, I 0]]) :: (0, .row 48 7 (s.nodes.map Node.cells)) :: (0, .row 54 20 (jmid 9 i s.jobs)) :: (0, .row 38 5 (s.resizes.map Resize.cells)) :: (0, .row 60 4 (s.books.map Book.cells)) :: (0, .row 62 4 (s.ledger.map Usage.cells)) :: nst 56 58 (s.jobs.take i)) 0 (weaker_is (.cons _ _ _ rfl (.cons _ _ _ rfl (.cons _ _ _ rfl (.cons _ _ _ rfl .nil)))) rfl) (by omega) ?_
  intro i hj
  refine ai (fun h1 => ?_) (fun h2 => ?_)
  · have hlt : i < s.jobs.length := by have := of_decide_eq_true h1; omega
    have hxz : (s.jobs.getD i Job.zero).sz := getD_sz (by first | assumption | grind) (Job.szz _)
    obtain ⟨z3, z4, z5, z6, z7⟩ : ((s.jobs.getD i Job.zero).name).size ≤ 4294967296 ∧ ((s.jobs.getD i Job.zero).user).size ≤ 4294967296 ∧ ((s.jobs.getD i Job.zero).account).size ≤ 4294967296 ∧ ((((s.jobs.getD i Job.zero).shape).alts).length ≤ 4294967296) ∧ ((s.jobs.getD i Job.zero).after).length ≤ 4294967296 := hxz
    refine dchk (by kernel_rfl) ?_
    refine ai gkA ?_
    refine ⟨_, evalOp_load rfl rfl rfl (jmid_at (by first | rfl | exact Nat.zero_add _ | omega) hlt) rfl, ?_⟩
    (first | apply u2 | apply u3 | apply u4 | apply us); exact nst_Alt (N := 9 + 2 * i) z6 (by simp [nst_length]; omega) rfl
    refine forceP_iff.2 (cput_do ?_)
    refine ai gkA ?_
    refine ⟨_, evalOp_load rfl rfl rfl (jmid_at (by first | rfl | exact Nat.zero_add _ | omega) hlt) rfl, ?_⟩
    (first | apply u2 | apply u3 | apply u4 | apply us); exact nst_Dep (N := 9 + 2 * i + 1) z7 (by simp [nst_length]; omega) rfl
    refine forceP_iff.2 (cput_do ?_)
    refine ai gkA ?_
    refine ⟨_, evalOp_store (es' := (jmid 9 i s.jobs).set i (splice (Job.cells (s.jobs.getD i .zero)) 5 [.own (9 + 2 * i) 0 2 0 (s.jobs.getD i .zero).shape.alts.length])) rfl rfl rfl rfl (jmid_at (by first | rfl | exact Nat.zero_add _ | omega) hlt) rfl rfl (set_idx (by first | rfl | exact Nat.zero_add _ | omega) rfl), forceO_iff.2 ?_⟩
    refine ai gkA ?_
    refine ⟨_, evalOp_store (es' := ((jmid 9 i s.jobs).set i (splice (Job.cells (s.jobs.getD i .zero)) 5 [.own (9 + 2 * i) 0 2 0 (s.jobs.getD i .zero).shape.alts.length])).set i (jcell (9 + 2 * i) (s.jobs.getD i .zero))) rfl rfl rfl rfl (jmid_at' (by first | rfl | exact Nat.zero_add _ | omega) hlt) rfl rfl (set_idx (by first | rfl | exact Nat.zero_add _ | omega) rfl), forceO_iff.2 ?_⟩
    repeat ((first | refine ai rfl ?_ | refine ai (fun _ => rfl) ?_ | refine And.intro (evalOp_load rfl rfl rfl (jmid_at (by first | rfl | exact Nat.zero_add _ | omega) hlt) rfl) ?_ | refine And.intro (evalOp_load rfl rfl rfl (jmid_at' (by first | rfl | exact Nat.zero_add _ | omega) hlt) rfl) ?_))
    exact loop_next1 (i + 1) (weaker_is (.cons _ _ _ rfl (.cons _ _ _ rfl (.cons _ _ _ rfl (.cons _ _ _ (by exact I_eq (wr (by omega))) .nil)))) (by rw [← jmid_set hlt (splice (Job.cells (s.jobs.getD i .zero)) 5 [.own (9 + 2 * i) 0 2 0 (s.jobs.getD i .zero).shape.alts.length]), ← nst_next hlt]; rfl)) omA (by omega)
  · obtain rfl : i = s.jobs.length := by have := of_decide_eq_false h2; omega
    conv => whnf
    refine forceO_iff.2 ?_
    conv => whnf
    refine rq (told_is rfl ?_)
    rw [cpO2, ← jmid_all, List.take_length]

def cpR3 (s : State) : AVal := .agg [I s.now, .own 5 0 7 0 s.nodes.length, .own 6 0 20 0 s.jobs.length, .own 7 0 5 0 s.resizes.length, .own 8 0 4 0 s.books.length, .own 9 0 4 0 s.ledger.length, I s.nextJob, I s.nextBook]
def cpO3 (s : State) : Objs := (0, .row 28 8 [[I s.now, nodeL s.nodes, jobL s.jobs, resizeL s.resizes, bookL s.books, usageL s.ledger, I s.nextJob, I s.nextBook]]) :: (0, .row 28 8 [[I 0, .lit (.slice none 0 0), .lit (.slice none 0 0), .lit (.slice none 0 0), .lit (.slice none 0 0), .lit (.slice none 0 0), I 0, I 0]]) :: (0, .row 28 8 [[I 0, .lit (.slice none 0 0), .lit (.slice none 0 0), .lit (.slice none 0 0), .lit (.slice none 0 0), .lit (.slice none 0 0), I 0, I 0]]) :: (0, .row 28 8 [[I s.now, .own 5 0 7 0 s.nodes.length, .own 6 0 20 0 s.jobs.length, .own 7 0 5 0 s.resizes.length, .own 8 0 4 0 s.books.length, .own 9 0 4 0 s.ledger.length, I s.nextJob, I s.nextBook]]) :: (0, .row 28 8 [[I s.now, .own 5 0 7 0 s.nodes.length, .own 6 0 20 0 s.jobs.length, .own 7 0 5 0 s.resizes.length, .own 8 0 4 0 s.books.length, .own 9 0 4 0 s.ledger.length, I s.nextJob, I s.nextBook]]) :: (0, .row 48 7 (s.nodes.map Node.cells)) :: (0, .row 54 20 (jrow 10 s.jobs)) :: (0, .row 38 5 (s.resizes.map Resize.cells)) :: (0, .row 60 4 (s.books.map Book.cells)) :: (0, .row 62 4 (s.ledger.map Usage.cells)) :: nst 56 58 s.jobs
theorem copy_n3 (s : State) (hs0 : s.sz) : ACalls Tryz.prog 19 [State.a s] [(0, .row 28 8 [[I s.now, nodeL s.nodes, jobL s.jobs, resizeL s.resizes, bookL s.books, usageL s.ledger, I s.nextJob, I s.nextBook]]), (0, .row 28 8 [[I 0, .lit (.slice none 0 0), .lit (.slice none 0 0), .lit (.slice none 0 0), .lit (.slice none 0 0), .lit (.slice none 0 0), I 0, I 0]]), (0, .row 28 8 [[I 0, .lit (.slice none 0 0), .lit (.slice none 0 0), .lit (.slice none 0 0), .lit (.slice none 0 0), .lit (.slice none 0 0), I 0, I 0]])] fun r o => r = cpR3 s ∧ o = cpO3 s := by
  refine ACalls.of_cwp (kp 4 [26, 27, 28]) Tryz.func19 rfl rfl ?_
  obtain ⟨z8, z9, z10, z11, z12, z13, z14⟩ : s.nodes.length ≤ 4294967296 ∧ s.jobs.length ≤ 4294967296 ∧ (∀ y ∈ s.jobs, y.sz) ∧ s.resizes.length ≤ 4294967296 ∧ s.books.length ≤ 4294967296 ∧ s.ledger.length ≤ 4294967296 ∧ (∀ y ∈ s.ledger, y.sz) := hs0
  refine dchk (by kernel_rfl) ?_
  (first | apply u2 | apply u3 | apply u4 | apply us); exact mv [] (state_copied_Node_o s.nodes szA) .nil (dl lw .nil) (rO rr .nil) (rw_ 5 0 rfl)
  (first | apply u2 | apply u3 | apply u4 | apply us); exact mv [] (state_copied_Job_o s.jobs szA) .nil (dl lw .nil) (rO rr .nil) (rw_ 6 0 rfl)
  (first | apply u2 | apply u3 | apply u4 | apply us); exact mv [] (state_copied_Resize_o s.resizes szA) .nil (dl lw .nil) (rO rr .nil) (rw_ 7 0 rfl)
  (first | apply u2 | apply u3 | apply u4 | apply us); exact mv [] (state_copied_Book_o s.books szA) .nil (dl lw .nil) (rO rr .nil) (rw_ 8 0 rfl)
  (first | apply u2 | apply u3 | apply u4 | apply us); exact mv [] (state_copied_Usage_o s.ledger szA) .nil (dl lw .nil) (rO rr .nil) (rw_ 9 0 rfl)
  repeat ((first | refine ai rfl ?_ | refine ai (fun _ => rfl) ?_))
  refine loop_start1 (fun (i : Nat) => i ≤ s.jobs.length) (fun i => s.jobs.length - i) (fun i => [(1, AVal.ptr 3 0 8 0 0), (2, AVal.ptr 4 0 8 0 0), (26, I (s.jobs.length : Int)), (27, I (i : Int))]) (fun i => (0, .row 28 8 [[I s.now, nodeL s.nodes, jobL s.jobs, resizeL s.resizes, bookL s.books, usageL s.ledger, I s.nextJob, I s.nextBook]]) :: (0, .row 28 8 [[I 0, .lit (.slice none 0 0), .lit (.slice none 0 0), .lit (.slice none 0 0), .lit (.slice none 0 0), .lit (.slice none 0 0), I 0, I 0]]) :: (0, .row 28 8 [[I 0, .lit (.slice none 0 0), .lit (.slice none 0 0), .lit (.slice none 0 0), .lit (.slice none 0 0), .lit (.slice none 0 0), I 0, I 0]]) :: (0, .row 28 8 [[I s.now, .own 5 0 7 0 s.nodes.length, .own 6 0 20 0 s.jobs.length, .own 7 0 5 0 s.resizes.length, .own 8 0 4 0 s.books.length, .own 9 0 4 0 s.ledger.length, I s.nextJob, I s.nextBook]]) :: (0, .row 28 8 [[I 0, .lit (.slice none 0 0), .lit (.slice none 0 0), .lit (.slice none 0 0), .lit (.slice none 0 0), .lit (.slice none 0 0), I 0, I 0]]) :: (0, .row 48 7 (s.nodes.map Node.cells)) :: (0, .row 54 20 (jmid 10 i s.jobs)) :: (0, .row 38 5 (s.resizes.map Resize.cells)) :: (0, .row 60 4 (s.books.map Book.cells)) :: (0, .row 62 4 (s.ledger.map Usage.cells)) :: nst 56 58 (s.jobs.take i)) 0 (weaker_is (.cons _ _ _ rfl (.cons _ _ _ rfl (.cons _ _ _ rfl (.cons _ _ _ rfl .nil)))) rfl) (by omega) ?_
  intro i hj
  refine ai (fun h1 => ?_) (fun h2 => ?_)
  · have hlt : i < s.jobs.length := by have := of_decide_eq_true h1; omega
    have hxz : (s.jobs.getD i Job.zero).sz := getD_sz (by first | assumption | grind) (Job.szz _)
    obtain ⟨z3, z4, z5, z6, z7⟩ : ((s.jobs.getD i Job.zero).name).size ≤ 4294967296 ∧ ((s.jobs.getD i Job.zero).user).size ≤ 4294967296 ∧ ((s.jobs.getD i Job.zero).account).size ≤ 4294967296 ∧ ((((s.jobs.getD i Job.zero).shape).alts).length ≤ 4294967296) ∧ ((s.jobs.getD i Job.zero).after).length ≤ 4294967296 := hxz
    refine dchk (by kernel_rfl) ?_
    refine ai gkA ?_
    refine ⟨_, evalOp_load rfl rfl rfl (jmid_at (by first | rfl | exact Nat.zero_add _ | omega) hlt) rfl, ?_⟩
    (first | apply u2 | apply u3 | apply u4 | apply us); exact nst_Alt (N := 10 + 2 * i) z6 (by simp [nst_length]; omega) rfl
    refine forceP_iff.2 (cput_do ?_)
    refine ai gkA ?_
    refine ⟨_, evalOp_load rfl rfl rfl (jmid_at (by first | rfl | exact Nat.zero_add _ | omega) hlt) rfl, ?_⟩
    (first | apply u2 | apply u3 | apply u4 | apply us); exact nst_Dep (N := 10 + 2 * i + 1) z7 (by simp [nst_length]; omega) rfl
    refine forceP_iff.2 (cput_do ?_)
    refine ai gkA ?_
    refine ⟨_, evalOp_store (es' := (jmid 10 i s.jobs).set i (splice (Job.cells (s.jobs.getD i .zero)) 5 [.own (10 + 2 * i) 0 2 0 (s.jobs.getD i .zero).shape.alts.length])) rfl rfl rfl rfl (jmid_at (by first | rfl | exact Nat.zero_add _ | omega) hlt) rfl rfl (set_idx (by first | rfl | exact Nat.zero_add _ | omega) rfl), forceO_iff.2 ?_⟩
    refine ai gkA ?_
    refine ⟨_, evalOp_store (es' := ((jmid 10 i s.jobs).set i (splice (Job.cells (s.jobs.getD i .zero)) 5 [.own (10 + 2 * i) 0 2 0 (s.jobs.getD i .zero).shape.alts.length])).set i (jcell (10 + 2 * i) (s.jobs.getD i .zero))) rfl rfl rfl rfl (jmid_at' (by first | rfl | exact Nat.zero_add _ | omega) hlt) rfl rfl (set_idx (by first | rfl | exact Nat.zero_add _ | omega) rfl), forceO_iff.2 ?_⟩
    repeat ((first | refine ai rfl ?_ | refine ai (fun _ => rfl) ?_ | refine And.intro (evalOp_load rfl rfl rfl (jmid_at (by first | rfl | exact Nat.zero_add _ | omega) hlt) rfl) ?_ | refine And.intro (evalOp_load rfl rfl rfl (jmid_at' (by first | rfl | exact Nat.zero_add _ | omega) hlt) rfl) ?_))
    exact loop_next1 (i + 1) (weaker_is (.cons _ _ _ rfl (.cons _ _ _ rfl (.cons _ _ _ rfl (.cons _ _ _ (by exact I_eq (wr (by omega))) .nil)))) (by rw [← jmid_set hlt (splice (Job.cells (s.jobs.getD i .zero)) 5 [.own (10 + 2 * i) 0 2 0 (s.jobs.getD i .zero).shape.alts.length]), ← nst_next hlt]; rfl)) omA (by omega)
  · obtain rfl : i = s.jobs.length := by have := of_decide_eq_false h2; omega
    conv => whnf
    refine forceO_iff.2 ?_
    conv => whnf
    refine rq (told_is rfl ?_)
    rw [cpO3, ← jmid_all, List.take_length]

end Go.Proofs.YtoionleakeemlaaGreatDoor
namespace Go.Fw
open Go.RowKit

section
variable {P : Program} {sk : Bool} {nt : Nat} {ops : Array Oper} {slots : List (Nat × AVal)} {ms effs : List Nat} {i : Nat} {o : Oper} {rest : List Oper} {loc : Loc} {G : Gs} {objs : Objs} {Bs : List (Nat × Objs)} {Rd : List (Nat × Nat × (Objs → Prop))} {K : Loc → Objs → Prop}
theorem cd_alloc {t : TypeId} {z : List AVal} {N d : Nat} (ho : o.op = .alloc t) (hg : o.guard = none) (hd : o.dst = some d) (hz : zeroA P t = some z) (hN : objs.length = N) (hb : (Nat.blt d nt && (findL loc d).isNone) = true)
    (k : cdops P sk nt ops slots ms effs (i + 1) rest ((d, none, .ptr N 0 z.length 0 0) :: loc) G (objs ++ [(0, .row t z.length [z])]) ((i + 1, objs ++ [(0, .row t z.length [z])]) :: Bs) Rd K) : cdops P sk nt ops slots ms effs i (o :: rest) loc G objs Bs Rd K := by
  subst hN
  have e : evalOp P (lookR ops slots loc none) objs o = .upd (.ptr objs.length 0 z.length 0 0) (objs ++ [(0, .row t z.length [z])]) := by
    unfold evalOp
    simp only [ho, hz]
  unfold cdops
  simp only [hg]
  unfold cdstep
  simp only [ho, ownOp]
  rw [e]
  simp only [cdres]
  refine ceff_iff.2 ?_
  unfold cput
  simp only [hd, hb]
  exact forceA_iff.2 k
theorem cd_store {t te : TypeId} {a x : Operand} {ob ver k' ii j : Nat} {es : List (List AVal)} {e cs : List AVal} {objs' : Objs} (ho : o.op = .store t a x) (hg : o.guard = none) (hd : o.dst = none) (hl : lookR ops slots loc none a = .ptr ob ver k' ii j) (hx : cellsA (lookR ops slots loc none x) = some cs) (hr : rowOf objs ob ver k' = some (te, es)) (he : elemI es ii = some e) (hi : (P.info? t).isSome = true) (hb : (Nat.beq cs.length (sizeA P t) && Nat.ble (j + cs.length) e.length) = true)
    (hs : objs.set ob (ver, .row te k' (es.set ii (splice e j cs))) = objs')
    (k : cdops P sk nt ops slots ms effs (i + 1) rest loc G objs' ((i + 1, objs') :: Bs) Rd K) : cdops P sk nt ops slots ms effs i (o :: rest) loc G objs Bs Rd K := by
  have e := evalOp_store (P := P) (look := lookR ops slots loc none) ho hl hx hr he hi hb rfl
  rw [hs] at e
  have q : cdres P sk nt ops slots effs i o none true (lastB Bs) loc G objs Bs Rd (fun loc G objs Bs Rd => cdops P sk nt ops slots ms effs (i + 1) rest loc G objs Bs Rd K) (.upd (.lit undef) objs') := by
    simp only [cdres]
    refine ceff_iff.2 ?_
    unfold cput
    simp only [hd]
    exact k
  unfold cdops
  simp only [hg]
  unfold cdstep
  simp only [ho]
  split
  · exact ⟨_, e, q⟩
  · rw [e]; exact q
end
section
variable {P : Program} {nt : Nat} {ops : Array Oper} {slots : List (Nat × AVal)} {draw gb : Bool} {cur : Option Tag} {o : Oper} {rest : List Oper} {loc : Loc} {G : Gs} {objs : Objs} {K : Loc → Gs → Objs → Prop} {d : Nat} {v : AVal}
def notPick : Op → Bool
  | .pick _ _ _ => false
  | _ => true
theorem cres_val (hl : litOp o.op = false) (hd : o.dst = some d) (hb : (Nat.blt d nt && (findL loc d).isNone) = true) (k : K ((d, cur, v) :: loc) G objs) : cres P nt ops slots draw o cur gb loc G objs K (.val v) := by
  simp only [cres, hl]
  unfold cput
  simp only [hd, hb]
  exact forceA_iff.2 k
theorem cops_of {r : ORes} (hp : notPick o.op = true) (hg : o.guard = none) (he : evalOp P (lookR ops slots loc none) objs o = r) (k : cres P nt ops slots draw o none true loc G objs (fun loc G objs => cops P nt ops slots draw rest loc G objs K) r) : cops P nt ops slots draw (o :: rest) loc G objs K := by
  unfold cops
  simp only [hg]
  unfold cstep
  split
  · rename_i h
    rw [h] at hp
    cases hp
  · split
    · exact ⟨_, he, k⟩
    · rw [he]; exact k
theorem co_val (he : evalOp P (lookR ops slots loc none) objs o = .val v) (k : cops P nt ops slots draw rest ((d, none, v) :: loc) G objs K) (hp : notPick o.op = true := by exact rfl) (hg : o.guard = none := by exact rfl) (hl : litOp o.op = false := by exact rfl) (hd : o.dst = some d := by exact rfl) (hb : (Nat.blt d nt && (findL loc d).isNone) = true := by exact rfl) : cops P nt ops slots draw (o :: rest) loc G objs K :=
  cops_of hp hg he (cres_val hl hd hb k)
theorem co_ifb {b : Bool} (he : evalOp P (lookR ops slots loc none) objs o = .ifb b v) (hv : b = true) (k : cops P nt ops slots draw rest ((d, none, v) :: loc) G objs K) (hp : notPick o.op = true := by exact rfl) (hg : o.guard = none := by exact rfl) (hd : o.dst = some d := by exact rfl) (hb : (Nat.blt d nt && (findL loc d).isNone) = true := by exact rfl) : cops P nt ops slots draw (o :: rest) loc G objs K := by
  refine cops_of hp hg he ⟨fun _ => hv, ?_⟩
  unfold cput
  simp only [hd, hb]
  exact forceA_iff.2 k
theorem co_upd {objs' : Objs} (he : evalOp P (lookR ops slots loc none) objs o = .upd v objs') (k : cops P nt ops slots draw rest loc G objs' K) (hp : notPick o.op = true := by exact rfl) (hg : o.guard = none := by exact rfl) (hd : o.dst = none := by exact rfl) : cops P nt ops slots draw (o :: rest) loc G objs K := by
  refine cops_of hp hg he ?_
  simp only [cres]
  refine ceff_iff.2 ?_
  unfold cput
  simp only [hd]
  exact k
end
theorem app_set0 {X : Objs} {N : Nat} {a a' b : Nat × AObj} (h : X.length = N) : (X ++ [a] ++ [b]).set N a' = X ++ [a'] ++ [b] := by
  subst h
  simp
theorem app_set1 {X : Objs} {N : Nat} {a b b' : Nat × AObj} (h : X.length = N) : (X ++ [a] ++ [b]).set (N + 1) b' = X ++ [a] ++ [b'] := by
  subst h
  simp
theorem app_get0 {X : Objs} {N : Nat} {a b : Nat × AObj} (h : X.length = N) : (X ++ [a] ++ [b])[N]? = some a := by
  subst h
  simp
theorem app_get1 {X : Objs} {N : Nat} {a b : Nat × AObj} (h : X.length = N) : (X ++ [a] ++ [b])[N + 1]? = some b := by
  subst h
  simp
theorem app_get {X : Objs} {k : Nat} {a b p : Nat × AObj} (h : X[k]? = some p) : (X ++ [a] ++ [b])[k]? = some p := by
  have := (List.getElem?_eq_some_iff.1 h).1
  rw [List.append_assoc, List.getElem?_append_left this, h]
theorem app1_get {X : Objs} {N : Nat} {b : Nat × AObj} (h : X.length = N) : (X ++ [b])[N]? = some b := by
  subst h
  simp
theorem app1_set {X : Objs} {N : Nat} {b b' : Nat × AObj} (h : X.length = N) : (X ++ [b]).set N b' = X ++ [b'] := by
  subst h
  simp
theorem app1_getl {X : Objs} {k : Nat} {b p : Nat × AObj} (h : X[k]? = some p) : (X ++ [b])[k]? = some p := by
  have := (List.getElem?_eq_some_iff.1 h).1
  rw [List.getElem?_append_left this, h]
theorem turn_own0 {objs : Objs} {ks : List Nat} {o k off len : Nat} {p : AObj} (i : Nat) (hi : ks[i]? = some o) (hp : objs[o]? = some (0, p)) : TurnV objs 0 ks (.own o 0 k off len) (.own i 0 k off len) := by
  have := turn_own (n := 0) (k := k) (off := off) i hi hp (rfl : len = len)
  rwa [Nat.zero_add] at this
theorem turn_ptr0 {objs : Objs} {ks : List Nat} {o k i' j : Nat} {p : AObj} (i : Nat) (hi : ks[i]? = some o) (hp : objs[o]? = some (0, p)) : TurnV objs 0 ks (.ptr o 0 k i' j) (.ptr i 0 k i' j) := by
  have := turn_ptr (n := 0) (k := k) (i' := i') (j := j) i hi hp
  rwa [Nat.zero_add] at this
end Go.Fw
namespace Go.Proofs.YtoionleakeemlaaGreatDoor
open Go.Fw
theorem turn_jrow {objs : Objs} {ks : List Nat} : ∀ (l : List Job) (b b' : Nat), (∀ j, j < 2 * l.length → ks[b' + j]? = some (b + j) ∧ ∃ p, objs[b + j]? = some (0, p)) → TurnEs objs 0 ks (jrow b l) (jrow b' l)
  | [], _, _, _ => .nil
  | x :: l, b, b', h => by
    obtain ⟨h1, p, h2⟩ := h 0 (by simp)
    obtain ⟨h3, q, h4⟩ := h 1 (by simp; omega)
    refine .cons _ _ _ _ ?_ (turn_jrow l (b + 2) (b' + 2) fun j hj => ?_)
    · exact c1 (c1 (c1 (c1 (c1 (cv (turn_own0 b' h1 h2) (c1 (c1 (c1 (c1 (cv (turn_own0 (b' + 1) h3 h4) (c1 (c1 (c1 (c1 (c1 (c1 (c1 (c1 (c1 .nil)))))))))))))))))))
    · have := h (j + 2) (by simp; omega)
      rwa [show b + (j + 2) = b + 2 + j by omega, show b' + (j + 2) = b' + 2 + j by omega] at this
theorem turn_nst {objs : Objs} {ks : List Nat} {ta td : TypeId} : ∀ (l : List Job) (b : Nat), (∀ j p, (nst ta td l)[j]? = some p → objs[b + j]? = some p) → TurnL objs 0 ks (List.range' b (2 * l.length)) (nst ta td l)
  | [], _, _ => .nil
  | x :: l, b, h => by
    have h0 := h 0 _ rfl
    have h1 := h 1 _ rfl
    have := turn_nst (objs := objs) (ks := ks) (ta := ta) (td := td) l (b + 2) fun j p hj => by
      have := h (j + 2) p hj
      rwa [show b + (j + 2) = b + 2 + j by omega] at this
    exact tO h0 (tl eqA) (tO h1 (tl eqA) this)
end Go.Proofs.YtoionleakeemlaaGreatDoor
namespace Go.Proofs.YtoionleakeemlaaGreatDoor
open Go.Fw
section
variable {tn tj tr tb tu ta td tS : TypeId} {nd : List Node} {c : List Job} {rz : List Resize} {bk : List Book} {us : List Usage} {cs ca : List AVal} {x0 x1 x2 : AVal} {n1 n2 n3 n4 n5 : Nat}
def bxA (tS : TypeId) (c : List AVal) : Nat × AObj := (0, .row tS 8 [c])
/-- The copy's cells, its rows from r on. -/
def ownC (r : Nat) (x0 x1 x2 : AVal) (n1 n2 n3 n4 n5 : Nat) : List AVal := [x0, .own r 0 7 0 n1, .own (r + 1) 0 20 0 n2, .own (r + 2) 0 5 0 n3, .own (r + 3) 0 4 0 n4, .own (r + 4) 0 4 0 n5, x1, x2]
theorem perm_g {nt : Nat} {sl : List (Nat × AVal)} {objs : Objs} (iA iB r : Nat) (hs : LowL 0 cs) (ha : LowL 0 ca) (h0 : low2 x0 = true) (h1 : low2 x1 = true) (h2 : low2 x2 = true)
    (e0 : objs[0]? = some (bxA tS cs)) (eA : objs[iA]? = some (bxA tS ca)) (eB : objs[iB]? = some (bxA tS (ownC r x0 x1 x2 n1 n2 n3 n4 n5)))
    (r1 : objs[r]? = some (0, .row tn 7 (nd.map Node.cells))) (r2 : objs[r + 1]? = some (0, .row tj 20 (jrow (r + 5) c))) (r3 : objs[r + 2]? = some (0, .row tr 5 (rz.map Resize.cells))) (r4 : objs[r + 3]? = some (0, .row tb 4 (bk.map Book.cells))) (r5 : objs[r + 4]? = some (0, .row tu 4 (us.map Usage.cells)))
    (hn : ∀ j p, (nst ta td c)[j]? = some p → objs[r + 5 + j]? = some p) (hne : iA ≠ iB) (hr : 0 < r) (hA : 0 < iA ∧ (iA < r ∨ r + 5 + 2 * c.length ≤ iA)) (hB : 0 < iB ∧ (iB < r ∨ r + 5 + 2 * c.length ≤ iB))
    (g1 : getSlot sl 1 = .ptr 0 0 8 0 0) (g2 : getSlot sl 2 = Bo false) (g3 : getSlot sl 3 = .ptr iA 0 8 0 0) (g4 : getSlot sl 4 = .ptr iB 0 8 0 0) :
    Weaker nt 0 ⟨sl, objs⟩ ⟨[(1, .ptr 0 0 8 0 0), (2, Bo false), (3, .ptr 1 0 8 0 0), (4, .ptr 2 0 8 0 0)], lay tn tj tr tb tu ta td (bxA tS cs) (bxA tS ca) (bxA tS (ownC 3 x0 x1 x2 n1 n2 n3 n4 n5)) nd c rz bk us⟩ := by
  have hk : ∀ j, j < 2 * c.length → (0 :: iA :: iB :: r :: (r + 1) :: (r + 2) :: (r + 3) :: (r + 4) :: List.range' (r + 5) (2 * c.length))[8 + j]? = some (r + 5 + j) := by
    intro j hj
    rw [Nat.add_comm 8 j]
    show (List.range' (r + 5) (2 * c.length))[j]? = _
    rw [List.getElem?_range' hj]
    congr 1
    omega
  refine wk (0 :: iA :: iB :: r :: (r + 1) :: (r + 2) :: (r + 3) :: (r + 4) :: List.range' (r + 5) (2 * c.length)) ?_ ?_ rfl ?_
  · refine tO e0 (ts hs) (tO eA (ts ha) (tO eB ?_ (tO r1 (tl eqA) (tO r2 (.row _ _ _ _ (turn_jrow c (r + 5) 8 fun j hj => ⟨hk j hj, ?_⟩)) (tO r3 (tl eqA) (tO r4 (tl eqA) (tO r5 (tl eqA) (turn_nst c (r + 5) hn))))))))
    · exact turn_row1 (c1 (cv (turn_own0 3 rfl r1) (cv (turn_own0 4 rfl r2) (cv (turn_own0 5 rfl r3) (cv (turn_own0 6 rfl r4) (cv (turn_own0 7 rfl r5) (c1 (c1 .nil h2) h1)))))) h0)
    · have hj' : j < (nst ta td c).length := by rw [nst_length]; exact hj
      have hx := hn j _ (List.getElem?_eq_getElem hj')
      have hz : ((nst ta td c)[j]).1 = 0 := nst_ver _ _ (List.getElem?_eq_getElem hj')
      exact ⟨((nst ta td c)[j]).2, by rw [hx, ← hz]⟩
  · exact sv (by rw [g1]; exact turn_ptr0 0 rfl e0) (s1 (sv (by rw [g3]; exact turn_ptr0 1 rfl eA) (sv (by rw [g4]; exact turn_ptr0 2 rfl eB) .nil)) g2)
  · simp only [List.nodup_cons, List.mem_cons, List.mem_range'_1, not_or]
    refine ⟨?_, ?_, ?_, ?_, ?_, ?_, ?_, ?_⟩ <;> first | omega | exact ⟨by omega, List.nodup_range'⟩
theorem seen_lay {B0 B1 B2 : Nat × AObj} (s : State) : Seen (lay tn tj tr tb tu ta td B0 B1 B2 s.nodes s.jobs s.resizes s.books s.ledger) (.agg (ownC 3 (I s.now) (I s.nextJob) (I s.nextBook) s.nodes.length s.jobs.length s.resizes.length s.books.length s.ledger.length)) (State.a s) :=
  Seen.agg (e1 (ev (seen_list Node.zero _ rfl eqA lnA) (ev (seen_jobs s.jobs rfl rfl rfl (fun i x h => (lay_get (2 * i)).trans (nst_alt _ _ _ h)) (fun i x h => (lay_get (2 * i + 1)).trans (nst_dep _ _ _ h))) (ev (seen_list Resize.zero _ rfl eqA lnA) (ev (seen_list Book.zero _ rfl eqA lnA) (ev (seen_list Usage.zero _ rfl eqA lnA) (e1 (e1 .nil))))))))
end
end Go.Proofs.YtoionleakeemlaaGreatDoor
