/-
  What the last text of this claim leans on: an evaluator over the code, contracts of functions, plain laws. Conditions stand in each statement.
-/
import Derived.Test.YtgnlcjenoaoffaaGreatDoorRH5
import Derived.JoinedOf
import Derived.Handed
import Derived.OpenShut
import Derived.KernelRfl
namespace Go.Fw
set_option linter.unusedSimpArgs false
set_option linter.unusedVariables false
open Go.RowKit Go.ChangeShapes Go.WideShapes Go.Deep
def ArgAs (P:Program) (t:TypeId) {α:Type} (x:α->AVal) (G:α->Prop):Prop :=
 ∀ (H:Type) (enc:TypeId × Value->H) (w:World) (base:Nat) (v:Value) (d:DataW H) (ps:List MemPlace),
  Value.okWide P w .any base t v->DataW.Trod enc P w 0 (fun _=>true) true t v d ps -> ∃ a,G a∧Rep (Qw3 w) (x a) v
variable {P:Program} {t:TypeId}
theorem ArgAs.struct {α:Type} {c:α->List AVal} {G:α->Prop} {fs:Array Field} (ht:P.underlying t=some (.struct fs)) (h:ReadAs P t c G):ArgAs P t (fun a=>.agg (c a)) G:=by
 intro H enc w base v d ps hv hd;obtain ⟨cs,rfl,_⟩:=okWide_struct ht hv;obtain ⟨fuel,hf⟩:=hd;obtain ⟨y,hy,hr⟩:=h H enc w _ _ _ fuel _ _ hf;have hr:CellsRep (Qw3 w) (c y) cs.toList:=by simpa [Value.cells] using hr
 refine ⟨y,hy,?_⟩;have:=Rep.agg (K:=Qw3 w) (c y) cs.toList hr.1.1 hr.2 hr.1.2;simpa using this
inductive ArgsAs (P:Program):List TypeId->(List AVal->Prop)->Prop where
 | nil:ArgsAs P [] (fun l=>l=[])
 | cons (t:TypeId) (ts:List TypeId) {α:Type} (x:α->AVal) (G:α->Prop) (Q:List AVal->Prop) (h:ArgAs P t x G) (r:ArgsAs P ts Q):ArgsAs P (t :: ts) (fun l=>∃ a m,G a∧Q m∧l=x a :: m)
theorem ArgsAs.read {ts:List TypeId} {Q:List AVal->Prop} (h:ArgsAs P ts Q) {H:Type} {enc:TypeId × Value->H} {w:World} {base:Nat}:∀ {vs:List Value} {ds:List (DataW H)} {ps:List MemPlace},
  (∀ (j:Nat) t v,ts[j]? = some t->vs[j]? = some v->Value.okWide P w .any base t v)->DataW.TrodAll enc P w 0 (fun _=>true) true ts vs ds ps -> ∃ l,Q l∧Reps (Qw3 w) l vs:=by
 induction h with
 | nil =>
  intro vs ds ps hv h;obtain ⟨rfl,rfl,rfl⟩:=trodAll_nil h;exact ⟨[],rfl,.nil _⟩
 | cons t ts x G Q hx _ ih =>
  intro vs ds ps hv h;obtain ⟨v,vs',d,ds',p,q,rfl,rfl,rfl,hd,hrest⟩:=trodAll_cons h;obtain ⟨a,ha,hr⟩:=hx H enc w base v d p (hv 0 t v rfl rfl) hd;obtain ⟨m,hm,hrm⟩:=ih (fun j t v hj hv'=>hv (j+1) t v (by simpa using hj) (by simpa using hv')) hrest;exact ⟨x a :: m,⟨a,m,ha,hm,rfl⟩,.cons hr hrm⟩
theorem QOb {H:Type} {enc:TypeId × Value->H} {W W':World} (hl:laidOutB P=true) (hb:Below W.heap.size W W') {sp:Nat->Bool}:∀ {ts:List TypeId} {vs:List Value} {ds:List (DataW H)} {ps:List MemPlace},
  ts.all (fun t=>P.readableRec t&&decide (t<P.types.size))=true->DataW.TrodAll enc P W 0 (fun _=>true) true ts vs ds ps->(∀ x ∈ ps,x.block<W.heap.size)->(∀ x ∈ ps,sp x.block=true)->DataW.TrodAll enc P W' 0 sp true ts vs ds ps
 | [],vs,ds,ps,_,h,_,_=>by
  obtain ⟨rfl,rfl,rfl⟩:=trodAll_nil h
  rfl
 | t :: ts,vs,ds,ps,ht,h,hlt,hsp=>by
  obtain ⟨v,vs',d,ds',p,q,rfl,rfl,rfl,hd,hrest⟩:=trodAll_cons h;simp only [List.all_cons,yha,yua] at ht;refine ⟨p,q,?_,QOb hl hb (by simpa using ht.2) hrest (fun x hx=>hlt x (List.mem_append_right _ hx)) (fun x hx=>hsp x (List.mem_append_right _ hx)),rfl⟩;exact WideElems.Trod_stays hl ht.1.1 ht.1.2 hd (fun x hx=>hb.same (hlt x (List.mem_append_left _ hx))) (fun x hx=>hsp x (List.mem_append_left _ hx))
end Go.Fw
namespace Go.Fw
set_option linter.unusedSimpArgs false
set_option linter.unusedVariables false
open Go.RowKit
def keptB (K:Ctx) (objs:Objs) (n:Nat) (ks:List Nat) (b:Nat):Prop :=
 ∃ (o:Nat) (p:Nat × AObj),objs[o]? = some p∧p.2.live=true∧(o<n∨o ∈ ks)∧K.C o p.1 ≠ 0∧K.ρ o p.1=b
open Classical in
noncomputable def Ctx.shed (K:Ctx) (w:World) (objs:Objs) (n:Nat) (ks:List Nat):Ctx :=
 { K with
  n:=n+ks.length
  ρ:=fun o v=>if o<n then K.ρ o v else K.ρ (ks.getD (o - n) 0) (K.vs (ks.getD (o - n) 0))
  C:=fun o v=>if o<n then K.C o v else K.C (ks.getD (o - n) 0) (K.vs (ks.getD (o - n) 0))
  vs:=fun o=>if o<n then K.vs o else 0
  M:=fun b i=>match K.M b i with
   | some u=>some u
   | none=>if K.B b=none ∧ ¬ keptB K objs n ks b then (match w.cell? ⟨b,i,none⟩ with|some u=>if u.oneCell' then some u else none|none=>none) else none }
theorem Que:∀ {ks:List Nat},ks.Nodup -> ∀ {i j:Nat} (hi:i<ks.length) (hj:j<ks.length),ks[i]=ks[j]->i=j
 | [],_,_,_,hi,_,_=>by simp at hi
 | k :: ks,hnd,i,j,hi,hj,h=>by
  rw [List.nodup_cons] at hnd;cases i with
  | zero=>cases j with
   | zero=>rfl
   | succ j=>simp at h;exact absurd (h ▸ ycb _) hnd.1
  | succ i=>cases j with
   | zero=>simp at h;exact absurd (h ▸ ycb _) hnd.1
   | succ j=>simp at h;exact congrArg (· + 1) (Que hnd.2 _ _ h)
section
variable {objs:Objs} {n:Nat} {ks:List Nat}
def TurnV (objs:Objs) (n:Nat) (ks:List Nat) (x y:AVal):Prop:=∀ (K:Ctx) (w:World) (v:Value),MemSat K objs w->Rep K x v->Rep (K.shed w objs n ks) y v
theorem turn_M {K:Ctx} {w:World} {b i:Nat} {u:Value} (h:K.M b i=some u):(K.shed w objs n ks).M b i=some u:=by simp [Ctx.shed,h]
theorem Qg3 {x:AVal} (h:Low n x):TurnV objs n ks x x:=by
 intro K w v hm hr;refine Rep.low (K:=K) (L:=K.shed w objs n ks) (n:=n) (fun _ _ _ h=>turn_M h) (by simp [Ctx.shed]) (fun o v ho=>by simp [Ctx.shed,ho]) (fun o v ho=>by simp [Ctx.shed,ho]) (fun o ho=>by simp [Ctx.shed,ho]) hr h
theorem turn_eq {x y:AVal} (e:x=y) (h:Low n x):TurnV objs n ks x y:=by subst e;exact Qg3 h
theorem QPb {o ver k off len len':Nat} {p:AObj} (i:Nat) (hi:ks[i]? = some o) (hp:objs[o]? = some (ver,p)) (hl:len=len'):TurnV objs n ks (.own o ver k off len) (.own (n+i) 0 k off len'):=by
 intro K w v hm hr;subst hl;have hver:ver=K.vs o:=hm.ver o _ hp;have hlt:i<ks.length:=(List.getElem?_eq_some_iff.1 hi).1;have hg:ks.getD i 0=o:=by simp [List.getD,hi]
 obtain ⟨_,_,hcase⟩:=Qv5 hr;rcases hcase with ⟨rfl,rfl,rfl⟩|⟨a,c,rfl,q1,q2,q3⟩
 ·exact .ownNil _ _ _ (by simp [Ctx.shed];omega) (yna _)
 ·refine .own _ _ _ _ _ (by simp [Ctx.shed];omega) (yna _) a c q1 ?_ ?_
  ·simp only [Ctx.shed,if_neg (show ¬ n+i<n by omega),show n+i - n=i by omega,hg];rw [← hver];exact q2
  ·simp only [Ctx.shed,if_neg (show ¬ n+i<n by omega),show n+i - n=i by omega,hg];rw [← hver];exact q3
theorem Qy0 {o ver k i' j:Nat} {p:AObj} (i:Nat) (hi:ks[i]? = some o) (hp:objs[o]? = some (ver,p)):TurnV objs n ks (.ptr o ver k i' j) (.ptr (n+i) 0 k i' j):=by
 intro K w v hm hr;have hver:ver=K.vs o:=hm.ver o _ hp;have hlt:i<ks.length:=(List.getElem?_eq_some_iff.1 hi).1;have hg:ks.getD i 0=o:=by simp [List.getD,hi]
 obtain ⟨rfl,_,_⟩:=Qh5 hr;have:=Rep.ptr (K:=K.shed w objs n ks) (n+i) 0 k i' j (by simp [Ctx.shed];omega) (yna _);simp only [Ctx.shed,if_neg (show ¬ n+i<n by omega),show n+i - n=i by omega,hg] at this;rw [hver];exact this
theorem turn_cell {K:Ctx} {w:World} (hm:MemSat K objs w) {o ver k:Nat} {t:TypeId} {es:List (List AVal)} (hp:objs[o]? = some (ver,.row t k es)) (hn:n<=o) (hk:o ∉ ks) (hC:K.C o ver ≠ 0) {i:Nat} {u:Value}
  (hc:w.cell? ⟨K.ρ o ver,i,none⟩=some u) (h1:u.oneCell'=true):(K.shed w objs n ks).M (K.ρ o ver) i=some u:=by
 have hlo:=hm.lo o _ hp rfl hC;have hnot:¬ keptB K objs n ks (K.ρ o ver):=by
  rintro ⟨o',p',hp',hl',hin,hC',he⟩;have hne:o ≠ o':=by
   rintro rfl;rcases hin with h|h
   ·omega
   ·exact hk h
  exact hm.dis o o' _ p' hp hp' rfl hl' hC hC' hne he.symm
 have hM:K.M (K.ρ o ver) i=none:=hlo.2.2 i;have hB:K.B (K.ρ o ver)=none:=hlo.1;simp only [Ctx.shed,hM,hc,h1,if_true];rw [if_pos ⟨hB,hnot⟩]
inductive TurnCs (objs:Objs) (n:Nat) (ks:List Nat):List AVal->List AVal->Prop where
 | nil:TurnCs objs n ks [] []
 | cons (x y:AVal) (xs ys:List AVal) (h:TurnV objs n ks x y) (t:TurnCs objs n ks xs ys):TurnCs objs n ks (x :: xs) (y :: ys)
theorem TurnCs.length {xs ys:List AVal} (h:TurnCs objs n ks xs ys):ys.length=xs.length:=by
 induction h with
 | nil=>rfl
 | cons _ _ _ _ _ _ ih=>simp [ih]
theorem TurnCs.get {xs ys:List AVal} (h:TurnCs objs n ks xs ys):∀ {j:Nat} {y:AVal},ys[j]? = some y -> ∃ x,xs[j]? = some x∧TurnV objs n ks x y:=by
 induction h with
 | nil=>intro j y hy;simp at hy
 | cons x y xs ys h _ ih =>
  intro j z hz;cases j with
  | zero=>simp at hz;subst hz;exact ⟨x,rfl,h⟩
  | succ j=>simp at hz;obtain ⟨x',hx',ht⟩:=ih hz;exact ⟨x',by simpa using hx',ht⟩
theorem TurnCs.low:∀ {xs:List AVal},LowL n xs->TurnCs objs n ks xs xs
 | [],_=>.nil
 | x :: xs,h=>.cons x x xs xs (Qg3 (h x (yIa ..))) (TurnCs.low fun y hy=>h y (ywa _ hy))
inductive TurnEs (objs:Objs) (n:Nat) (ks:List Nat):List (List AVal)->List (List AVal)->Prop where
 | nil:TurnEs objs n ks [] []
 | cons (x y:List AVal) (xs ys:List (List AVal)) (h:TurnCs objs n ks x y) (t:TurnEs objs n ks xs ys):TurnEs objs n ks (x :: xs) (y :: ys)
theorem TurnEs.length {xs ys:List (List AVal)} (h:TurnEs objs n ks xs ys):ys.length=xs.length:=by
 induction h with
 | nil=>rfl
 | cons _ _ _ _ _ _ ih=>simp [ih]
theorem TurnEs.get {xs ys:List (List AVal)} (h:TurnEs objs n ks xs ys):∀ {j:Nat} {y:List AVal},ys[j]? = some y -> ∃ x,xs[j]? = some x∧TurnCs objs n ks x y:=by
 induction h with
 | nil=>intro j y hy;simp at hy
 | cons x y xs ys h _ ih =>
  intro j z hz;cases j with
  | zero=>simp at hz;subst hz;exact ⟨x,rfl,h⟩
  | succ j=>simp at hz;obtain ⟨x',hx',ht⟩:=ih hz;exact ⟨x',by simpa using hx',ht⟩
theorem TurnEs.low:∀ {xs:List (List AVal)},(∀ e ∈ xs,LowL n e)->TurnEs objs n ks xs xs
 | [],_=>.nil
 | x :: xs,h=>.cons x x xs xs (.low (h x (yIa ..))) (TurnEs.low fun y hy=>h y (ywa _ hy))
theorem TurnEs.map {α:Type} {c c':α->List AVal} (h:∀ x,TurnCs objs n ks (c x) (c' x)):∀ (l:List α),TurnEs objs n ks (l.map c) (l.map c')
 | []=>.nil
 | x :: l=>.cons _ _ _ _ (h x) (TurnEs.map h l)
theorem turn_frozen {o ver k off len:Nat} {t:TypeId} {es es':List (List AVal)} (hp:objs[o]? = some (ver,.row t k es)) (hn:n<=o) (hk:o ∉ ks) (he:TurnEs objs n ks es es') (hle:off+len<=es.length) :
  TurnV objs n ks (.own o ver k off len) (.seq k len false fun i=>es'.getD (off+i) []):=by
 intro K w v hm hr;obtain ⟨ho,hv,hcase⟩:=Qv5 hr;rcases hcase with ⟨rfl,rfl,rfl⟩|⟨a,c,rfl,hlc,hC,ha⟩
 ·exact .nil _ _ _
 ·refine Qj7 hlc (fun h=>by cases h) (fun h=>by cases h) (fun hpos=>?_);have:=ha oA;subst this;have hC0:K.C o ver ≠ 0:=by omega
  obtain ⟨cc,hcc,hs,h1,hrep⟩:=hm.rowBlock hp hC0;have hel:=(hm.obj o _ hp).1;have get:∀ i,i<len -> ∃ e e',es[off+i]? = some e∧es'[off+i]? = some e'∧es'.getD (off+i) []=e'∧e.length=k∧e'.length=k∧TurnCs objs n ks e e':=by
   intro i hi;have hlt':off+i<es'.length:=by rw [he.length];omega
   obtain ⟨e,h1,h2⟩:=he.get (yba hlt');have hke:=hel e (Qb2 h1);exact ⟨e,es'[off+i],h1,yba hlt',by simp [hlt'],hke,by rw [h2.length];exact hke,h2⟩
  refine ⟨K.ρ o ver,off*k,fun i j=>(cc[(off+i)*k+j]?).getD undef,rfl,fun i hi=>?_,fun i j hi hj=>?_,fun i j x hi hx=>?_⟩
  ·obtain ⟨e,e',_,_,he',_,hk',_⟩:=get i hi;rw [he'];exact hk'
  ·obtain ⟨e,e',he1,_,_,hke,_,_⟩:=get i hi;obtain ⟨u,hu,_⟩:=hrep (off+i) j e _ he1 (yba oA);have hcell:w.cell? ⟨K.ρ o ver,off*k+(i*k+j),none⟩=some u:=by
    obtain ⟨fr,_,hcb⟩:=hcc;rw [← yfb,← y4a];simp [World.cell?,hcb,hu]
   rw [turn_cell hm hp hn hk hC0 hcell (h1 u (Array.mem_toList_iff.2 (yVb hu)))];simp [hu]
  ·obtain ⟨e,e',he1,he2,he3,hke,hke',ht⟩:=get i hi;rw [he3] at hx;obtain ⟨y,hy,hty⟩:=ht.get hx;obtain ⟨u,hu,hru⟩:=hrep (off+i) j e y he1 hy;simp only [hu,yFa];exact hty K w u hm hru
theorem turn_list {α:Type} {o ver k len:Nat} {t:TypeId} {es:List (List AVal)} {c:α->List AVal} (d:α) (l:List α) (hp:objs[o]? = some (ver,.row t k es)) (hn:n<=o) (hk:o ∉ ks) (he:TurnEs objs n ks es (l.map c)) (hlen:len=l.length) :
  TurnV objs n ks (.own o ver k 0 len) (listA k c d l):=by
 have hl:l.length=es.length:=by have:=he.length;simpa using this
 have h:=turn_frozen (off:=0) (len:=len) hp hn hk he oA;intro K w v hm hr;subst hlen;refine QO9 (fun i hi=>?_) (fun h=>h) (h K w v hm hr);simp [List.getD,yra,yba hi]
theorem turn_agg {xs ys:List AVal} (h:TurnCs objs n ks xs ys):TurnV objs n ks (.agg xs) (.agg ys):=by
 intro K w v hm hr;obtain ⟨vs,rfl,hr2,h1⟩:=QA7 hr;refine .agg ys vs (hr2.1.trans h.length.symm) h1 fun i y v hy hv=>?_
 obtain ⟨x,hx,ht⟩:=h.get hy;exact ht K w v hm (hr2.2 i x v hx hv)
theorem turn_tup {xs ys:List AVal} (h:TurnCs objs n ks xs ys):TurnV objs n ks (.tup xs) (.tup ys):=by
 intro K w v hm hr;obtain ⟨vs,rfl,hr2⟩:=QEe hr;refine .tup ys vs (hr2.1.trans h.length.symm) fun i y v hy hv=>?_
 obtain ⟨x,hx,ht⟩:=h.get hy;exact ht K w v hm (hr2.2 i x v hx hv)
theorem turn_nil {k:Nat} {t:Bool} {f:Nat->List AVal}:TurnV objs n ks (.lit (.slice none 0 0)) (.seq k 0 t f):=by
 intro K w v hm hr;have:=QZ0 hr;subst this;exact .nil k t f
theorem turn_any {x:AVal}:TurnV objs n ks x .any:=fun _ _ v _ _=>.any v
inductive TurnO (objs:Objs) (n:Nat) (ks:List Nat):AObj->AObj->Prop where
 | row (t:TypeId) (k:Nat) (es es':List (List AVal)) (h:TurnEs objs n ks es es'):TurnO objs n ks (.row t k es) (.row t k es')
 | dead (p:AObj):TurnO objs n ks p .dead
 | strIter (s:ByteArray) (pos:Nat):TurnO objs n ks (.other (.strIter s pos)) (.other (.strIter s pos))
 | map (es es':List (Value × AVal × Nat)) (clock:Nat) (hl:es'.length=es.length) (h:∀ (i:Nat) (k:Value) (y:AVal) (st:Nat),es'[i]? = some (k,y,st) -> ∃ x,es[i]? = some (k,x,st)∧TurnV objs n ks x y):TurnO objs n ks (.other (.map es clock)) (.other (.map es' clock))
 | mapIter (o i since:Nat) (seen:Array Nat) (last:Nat) (p:AObj) (hi:ks[i]? = some o) (hp:objs[o]? = some (0,p)):TurnO objs n ks (.other (.mapIter o since seen last)) (.other (.mapIter (n+i) since seen last))
theorem TurnO.same {t:TypeId} {k:Nat} {es es':List (List AVal)} (he:es=es') (h:∀ e ∈ es,LowL n e):TurnO objs n ks (.row t k es) (.row t k es'):=by
 subst he;exact .row t k es es (.low h)
inductive TurnL (objs:Objs) (n:Nat) (ks:List Nat):List Nat->Objs->Prop where
 | nil:TurnL objs n ks [] []
 | cons (o:Nat) (os:List Nat) (p:Nat × AObj) (q:AObj) (r:Objs) (hp:objs[o]? = some p) (hq:TurnO objs n ks p.2 q) (hr:TurnL objs n ks os r):TurnL objs n ks (o :: os) ((0,q) :: r)
theorem TurnL.length {os:List Nat} {r:Objs} (h:TurnL objs n ks os r):r.length=os.length:=by
 induction h with
 | nil=>rfl
 | cons _ _ _ _ _ _ _ _ ih=>simp [ih]
theorem TurnL.get {os:List Nat} {r:Objs} (h:TurnL objs n ks os r):∀ {i:Nat} {q:Nat × AObj},r[i]? = some q -> ∃ o p,os[i]? = some o∧objs[o]? = some p∧q.1=0∧TurnO objs n ks p.2 q.2:=by
 induction h with
 | nil=>intro i q hq;simp at hq
 | cons o os p q r hp hq _ ih =>
  intro i z hz;cases i with
  | zero=>simp at hz;subst hz;exact ⟨o,p,rfl,hp,rfl,hq⟩
  | succ i=>simp at hz;obtain ⟨o',p',h1,h2⟩:=ih hz;exact ⟨o',p',by simpa using h1,h2⟩
theorem TurnO.live {p q:AObj} (h:TurnO objs n ks p q) (hl:q.live=true):p.live=true:=by
 cases h with
 | row t k es es' h=>rfl
 | dead p=>cases hl
 | strIter s pos=>rfl
 | map es es' clock hl h=>rfl
 | mapIter o i since seen last p hi hp=>rfl
theorem TurnO.sat {K:Ctx} {w:World} (hm:MemSat K objs w) {o ver i:Nat} {p q:AObj} (hp:objs[o]? = some (ver,p)) (h:TurnO objs n ks p q) (hρ:(K.shed w objs n ks).ρ i 0=K.ρ o ver) (hC:(K.shed w objs n ks).C i 0=K.C o ver):ObjSat (K.shed w objs n ks) w i 0 q:=by
 cases h with
 | dead p=>trivial
 | strIter s pos =>
  obtain ⟨h1,b,h2,h3⟩:=hm.obj o _ hp;exact ⟨by rw [hC];exact h1,b,by rw [hρ];exact h2,h3⟩
 | map es es' clock hl h =>
  obtain ⟨h1,b,h2,arr,h3,h4,h5⟩:=hm.obj o _ hp;refine ⟨by rw [hC];exact h1,b,by rw [hρ];exact h2,arr,h3,by rw [hl];exact h4,fun i' k y st e he ha=>?_⟩;obtain ⟨x,hx,ht⟩:=h i' k y st he;obtain ⟨q1,q2,q3⟩:=h5 i' k x st e hx ha;exact ⟨q1,q2,ht K w _ hm q3⟩
 | mapIter o' i' since seen last p hi hp' =>
  obtain ⟨h1,b,h2,h3,h4⟩:=hm.obj o _ hp;have hlt:i'<ks.length:=(List.getElem?_eq_some_iff.1 hi).1;have hv:K.vs o'=0:=(hm.ver o' _ hp').symm;have hg:ks.getD i' 0=o':=by simp [List.getD,hi]
  refine ⟨by rw [hC];exact h1,b,by rw [hρ];exact h2,by simp [Ctx.shed];omega,?_⟩;rw [show (K.shed w objs n ks).ρ (n+i') 0=K.ρ o' 0 by simp only [Ctx.shed,if_neg (show ¬ n+i'<n by omega),show n+i' - n=i' by omega,hg,hv]];exact h4
 | row t k es es' h =>
  obtain ⟨h1,h2,h3⟩:=hm.obj o _ hp;refine ⟨fun e he=>?_,by rw [hC,h.length];exact h2,fun hc=>?_⟩
  ·obtain ⟨j,hj,rfl⟩:=yCb he;obtain ⟨e,q1,q2⟩:=h.get (yba hj);rw [q2.length];exact h1 e (Qb2 q1)
  ·rw [hC] at hc;obtain ⟨c,q1,q2,q3,q4⟩:=h3 hc;refine ⟨c,by rw [hρ];exact q1,by rw [hC];exact q2,q3,fun i' j e x he hx=>?_⟩;obtain ⟨e0,r1,r2⟩:=h.get he;obtain ⟨x0,r3,r4⟩:=r2.get hx;obtain ⟨u,hu,hr⟩:=q4 i' j e0 x0 r1 r3;exact ⟨u,hu,r4 K w u hm hr⟩
theorem MemSat.shed {K:Ctx} {w:World} {new:Objs} (hm:MemSat K objs w) (hn:n<=objs.length) (hl:∀ o p,objs[o]? = some p->o<n->QXa n p.2) (hks:∀ o ∈ ks,n<=o) (hnd:ks.Nodup) (hT:TurnL objs n ks ks new):MemSat (K.shed w objs n ks) (objs.take n++new) w:=by
 have src:∀ (i:Nat) (q:Nat × AObj),(objs.take n++new)[i]? = some q -> ∃ o p,objs[o]? = some p∧q.1=(if i<n then p.1 else 0)∧((i<n∧o=i∧q=p)∨(n<=i∧ks[i - n]? = some o∧TurnO objs n ks p.2 q.2)):=by
  intro i q hq
  by_cases hi:i<n
  ·rw [ypa (by simp;omega),yKa,if_pos hi] at hq;exact ⟨i,q,hq,by rw [if_pos hi],.inl ⟨hi,rfl,rfl⟩⟩
  ·rw [yva (by simp;omega)] at hq;have e:(objs.take n).length=n:=by simp;omega
   rw [e] at hq;obtain ⟨o,p,h1,h2,h3,h4⟩:=hT.get hq;exact ⟨o,p,h2,by rw [if_neg hi];exact h3,.inr ⟨by omega,h1,h4⟩⟩
 have rhoC:∀ (i:Nat) (q:Nat × AObj) (o:Nat) (p:Nat × AObj),objs[o]? = some p->q.1=(if i<n then p.1 else 0)->((i<n∧o=i∧q=p)∨(n<=i∧ks[i - n]? = some o∧TurnO objs n ks p.2 q.2))->(K.shed w objs n ks).ρ i q.1=K.ρ o p.1∧(K.shed w objs n ks).C i q.1=K.C o p.1∧(o<n∨o ∈ ks)∧(q.2.live=true->p.2.live=true):=by
  intro i q o p hp hq hc;rcases hc with ⟨hi,rfl,rfl⟩|⟨hi,hk,ht⟩
  ·exact ⟨by simp [Ctx.shed,hi],by simp [Ctx.shed,hi],.inl hi,fun h=>h⟩
  ·have hv:=hm.ver o p hp;have hg:ks.getD (i - n) 0=o:=by simp [List.getD,hk]
   refine ⟨?_,?_,.inr (Qb2 hk),ht.live⟩
   ·simp only [Ctx.shed,if_neg (show ¬ i<n by omega),hg,hv]
   ·simp only [Ctx.shed,if_neg (show ¬ i<n by omega),hg,hv]
 refine ⟨?_,fun i q hq=>?_,fun i q hq=>?_,fun i q hq hlv hC=>?_,fun i i' q q' hq hq' hlv hlv' hC hC' hne=>?_,fun b i u hu=>?_,hm.below.step (L:=K.shed w objs n ks) rfl rfl rfl rfl rfl (yia _) fun _ _ _=>rfl⟩
 ·have:=hT.length;simp [Ctx.shed];omega
 ·obtain ⟨o,p,hp,h1,hc⟩:=src i q hq;rw [h1]
  by_cases hi:i<n
  ·rw [if_pos hi];rcases hc with ⟨_,rfl,_⟩|⟨h,_⟩
   ·simp only [Ctx.shed,if_pos hi];exact hm.ver o p hp
   ·omega
  ·simp [Ctx.shed,hi]
 ·obtain ⟨o,p,hp,h1,hc⟩:=src i q hq;obtain ⟨r1,r2,_,_⟩:=rhoC i q o p hp h1 hc;rcases hc with ⟨hi,rfl,rfl⟩|⟨hi,hk,ht⟩
  ·have hs:=hm.obj o q hp;have hlo:=hl o q hp hi;cases hq2:q.2 with
   | dead=>trivial
   | row t k es =>
    rw [hq2] at hs hlo;obtain ⟨h1,h2,h3⟩:=hs;refine ⟨h1,by rw [r2];exact h2,fun hC=>?_⟩;rw [r2] at hC;obtain ⟨c,q1,q2,q3,q4⟩:=h3 hC;refine ⟨c,by rw [r1];exact q1,by rw [r2];exact q2,q3,fun i' j e x he hx=>?_⟩;obtain ⟨u,hu,hr⟩:=q4 i' j e x he hx;exact ⟨u,hu,Qg3 (hlo e (Qb2 he) x (Qb2 hx)) K w u hm hr⟩
   | other x =>
    rw [hq2] at hs hlo;obtain ⟨h1,b,h2,h3⟩:=hs;exact ⟨by rw [r2];exact h1,b,by rw [r1];exact h2,OtherSat.low (K:=K) (L:=K.shed w objs n ks) (n:=n) (fun _ _ _ h=>turn_M h) (by simp [Ctx.shed]) (fun o v ho=>by simp [Ctx.shed,ho]) (fun o v ho=>by simp [Ctx.shed,ho]) (fun o ho=>by simp [Ctx.shed,ho]) hlo h3⟩
  ·have h0:q.1=0:=by rw [h1,if_neg oA]
   rw [h0] at r1 r2 ⊢;exact ht.sat hm (show objs[o]? = some (p.1,p.2) from hp) r1 r2
 ·obtain ⟨o,p,hp,h1,hc⟩:=src i q hq;obtain ⟨r1,r2,r3,r4⟩:=rhoC i q o p hp h1 hc;rw [r2] at hC;rw [r1];obtain ⟨l1,l2,l3⟩:=hm.lo o p hp (r4 hlv) hC;refine ⟨l1,l2,fun j=>?_⟩;have hk:keptB K objs n ks (K.ρ o p.1):=⟨o,p,hp,r4 hlv,r3,hC,rfl⟩;simp [Ctx.shed,l3 j,hk]
 ·obtain ⟨o,p,hp,h1,hc⟩:=src i q hq;obtain ⟨o',p',hp',h1',hc'⟩:=src i' q' hq';obtain ⟨r1,r2,r3,r4⟩:=rhoC i q o p hp h1 hc;obtain ⟨r1',r2',r3',r4'⟩:=rhoC i' q' o' p' hp' h1' hc';rw [r1,r1'];rw [r2] at hC;rw [r2'] at hC';refine hm.dis o o' p p' hp hp' (r4 hlv) (r4' hlv') hC hC' ?_;rintro rfl;rcases hc with ⟨hi,rfl,_⟩|⟨hi,hk,_⟩
  ·rcases hc' with ⟨_,h,_⟩|⟨hi',hk',_⟩
   ·exact hne h
   ·have:=hks o (Qb2 hk');omega
  ·rcases hc' with ⟨hi',rfl,_⟩|⟨hi',hk',_⟩
   ·have:=hks o (Qb2 hk);omega
   ·have h2:=(List.getElem?_eq_some_iff.1 hk);have h3:=(List.getElem?_eq_some_iff.1 hk');have:i - n=i' - n:=Que hnd h2.1 h3.1 (h2.2.trans h3.2.symm);omega
 ·simp only [Ctx.shed] at hu;split at hu
  ·rename_i u' hM;simp only [yaa] at hu;subst hu;exact hm.mem b i u' hM
  ·split at hu
   ·split at hu
    ·rename_i u' hc;split at hu
     ·rename_i h1;simp only [yaa] at hu;subst hu;exact ⟨hc,h1⟩
     ·cases hu
    ·cases hu
   ·cases hu
inductive SubT (objs:Objs) (n:Nat) (ks:List Nat) (s:List (Nat × AVal)):List (Nat × AVal)->Prop where
 | nil:SubT objs n ks s []
 | cons (t:Nat) (v:AVal) (r:List (Nat × AVal)) (h:TurnV objs n ks (Q71 s t) v) (hr:SubT objs n ks s r):SubT objs n ks s ((t,v) :: r)
theorem SubT.get {s s':List (Nat × AVal)} (h:SubT objs n ks s s') (t:Nat):TurnV objs n ks (Q71 s t) (Q71 s' t):=by
 induction h with
 | nil=>exact turn_any
 | cons t' v r h _ ih =>
  rw [Qj2]
  by_cases ht:t'=t
  ·subst ht;rw [if_pos rfl];exact h
  ·rw [if_neg ht];exact ih
end
abbrev I (n:Int):AVal:=.lit (.int .i64 n)
abbrev Bo (b:Bool):AVal:=.lit (.bool b)
abbrev Sg (s:ByteArray):AVal:=.lit (.string s)
abbrev U (n:Int):AVal:=.lit (.int .u64 n)
abbrev J (n:Int):AVal:=.lit (.int .i32 n)
abbrev Y (n:Int):AVal:=.lit (.int .u8 n)
abbrev V (n:Int):AVal:=.lit (.int .u32 n)
abbrev w64 (n:Int):Int:=IntKind.i64.wrap n
abbrev wu64 (n:Int):Int:=IntKind.u64.wrap n
abbrev wu32 (n:Int):Int:=IntKind.u32.wrap n
abbrev wu8 (n:Int):Int:=IntKind.u8.wrap n
theorem cond_t {α:Type} {c:Bool} {a b:α} (h:c=true):(bif c then a else b)=a:=by rw [h];rfl
theorem cond_f {α:Type} {c:Bool} {a b:α} (h:c=false):(bif c then a else b)=b:=by rw [h];rfl
theorem dchk {x:Bool} {ops:Array Oper} {ms:List Nat} {K:Prop} (h:(x&&QU2 ops ms)=true) (k:K):(x&&QU2 ops ms)=true∧K:=⟨h,k⟩
theorem Weaker.trans {nt n0:Nat} {a b c:St} (h:Weaker nt n0 a b) (g:Weaker nt n0 b c):Weaker nt n0 a c:=by
 intro K0 K s w hn hle hs;obtain ⟨K1,hle1,hs1⟩:=h K0 K s w hn hle hs;exact g K0 K1 s w hn hle1 hs1
theorem QA1 {nt n0:Nat} {s:List (Nat × AVal)} {o:Objs} (t:TypeId) (k:Nat):Weaker nt n0 ⟨s,o⟩ ⟨s,o++[(0,.row t k [])]⟩:=by
 intro K0 K a w hn hle hs;exact ⟨K.newObj 0 0,hle.trans (Q92 K 0 0),hs.mem.addNone t k,fun i=>(hs.slot i).mono (Q92 K 0 0),hs.size,hs.defers.mono (Q92 K 0 0)⟩
theorem Q25 {objs:Objs} {n:Nat} {ks:List Nat} {k o:Nat} (i:Nat) (hi:ks[i]? = some o):TurnV objs n ks (.lit (.slice none 0 0)) (.own (n+i) 0 k 0 0):=by
 intro K w v hm hr;have:=QZ0 hr;subst this;have hlt:i<ks.length:=(List.getElem?_eq_some_iff.1 hi).1;exact .ownNil _ _ _ (by simp [Ctx.shed];omega) (yna _)
theorem Low.agg' {n:Nat} {xs:List AVal} (h:LowL n xs):Low n (.agg xs):=.agg xs h
theorem Q95 {α:Type} {k:Nat} {c:α->List AVal} {d:α} {l:List α} {n:Nat} (h:∀ x,LowL n (c x)):Low n (listA k c d l):=.seq _ _ _ _ fun _ _ x hx=>h _ x hx
inductive Bare:AVal->Prop where
 | lit (v:Value):Bare (.lit v)
 | agg (cs:List AVal) (h:∀ x ∈ cs,Bare x):Bare (.agg cs)
 | tup (cs:List AVal) (h:∀ x ∈ cs,Bare x):Bare (.tup cs)
theorem Bare.rep {K L:Ctx} {x:AVal} {v:Value} (h:Rep K x v):Bare x->Rep L x v:=by
 induction h with
 | lit v=>exact fun _=>.lit v
 | agg cs vs hl h1 _ ih=>exact fun hb=>by cases hb with|agg _ h=>exact .agg cs vs hl h1 fun i x v hx hv=>ih i x v hx hv (h x (Qb2 hx))
 | tup cs vs hl _ ih=>exact fun hb=>by cases hb with|tup _ h=>exact .tup cs vs hl fun i x v hx hv=>ih i x v hx hv (h x (Qb2 hx))
 | _=>intro hb;cases hb
def bare0:AVal->Bool
 | .lit _=>true
 | _=>false
def bare1:AVal->Bool
 | .agg cs=>cs.all bare0
 | x=>bare0 x
def bare2:AVal->Bool
 | .tup cs=>cs.all bare1
 | x=>bare1 x
theorem QDd {x:AVal} (h:bare0 x=true):Bare x:=by cases x <;> first|exact .lit _|cases h
theorem QEd {x:AVal} (h:bare1 x=true):Bare x:=by
 cases x with
 | agg cs=>exact .agg cs fun x hx=>QDd (List.all_eq_true.1 h x hx)
 | _=>exact QDd h
theorem Qr5 {x:AVal} (h:bare2 x=true):Bare x:=by
 cases x with
 | tup cs=>exact .tup cs fun x hx=>QEd (List.all_eq_true.1 h x hx)
 | _=>exact QEd h
theorem AGives.lent {P:Program} {f:FuncId} {args args':List AVal} {objs:Objs} {r:AVal} (h:AGives P f args' [] r) (hs:SeenL objs args args') (ha:LowL 0 args') (hb:Bare r):AGives P f args objs r:=by
 unfold AGives ACalls at h ⊢;intro K w vs hm hreps;have hst:=hs.reps hm hreps;have hms:=hm.still
 let K1:Ctx:={ (K.still objs w) with n:=0,B:=fun b=>w.heap[b]?,w0:=w }
 have hm1:MemSat K1 [] w:=⟨rfl,fun o p hp=>by simp at hp,fun o p hp=>by simp at hp,fun o p hp=>by simp at hp,fun o o' p p' hp=>by simp at hp,hms.mem,⟨rfl,rfl,rfl,yia _,fun b x hx=>hx⟩⟩;have hr1:Reps K1 args' vs:=⟨hst.1,fun i x v hx hv=>Rep.low0 (K:=K.still objs w) (L:=K1) (fun _ _ _ h=>h) (hst.2 i x v hx hv) (ha x (Qb2 hx))⟩;refine (h K1 w vs hm1 hr1).mono ?_;rintro e w' ⟨v,r',objs',K2,rfl,hle,hm2,hrep,rfl,rfl⟩;have hB:∀ b x,w.heap[b]? = some x->w'.heap[b]? = some x:=fun b x hx=>hm2.below.block b x (hle.B b x hx)
 have hsz:w.heap.size<=w'.heap.size:=by have:=hm2.below.size;rw [hle.w0] at this;exact this
 have blk:∀ b,b<w.heap.size -> ∃ x,w.heap[b]? = some x:=fun b hb=>⟨_,ysa hb⟩
 refine ⟨v,r',objs,K,rfl,Ctx.le.refl K,⟨hm.len,hm.ver,fun o p hp=>?_,fun o p hp hlv hC=>?_,hm.dis,fun b i u hu=>?_,⟨?_,?_,?_,yea hm.below.size hsz,fun b x hx=>hB b x (hm.below.block b x hx)⟩⟩,Bare.rep hrep hb,rfl,rfl⟩
 ·refine (hm.obj o p hp).mono (Ctx.le.refl K) (hm.olt hp) (by rw [hm.ver o p hp];exact yia _) (fun hlv hC=>?_);obtain ⟨x,hx⟩:=blk _ (hm.lo o p hp hlv hC).2.1;rw [hx];exact hB _ x hx
 ·obtain ⟨h1,h2,h3⟩:=hm.lo o p hp hlv hC;exact ⟨h1,yUa h2 hsz,h3⟩
 ·have h1:(K.still objs w).M b i=some u:=(QS8 K objs w).M b i u hu;exact hm2.mem b i u (hle.M b i u h1)
 ·have:=hm2.below.os;rw [hle.w0] at this;exact this.trans hm.below.os
 ·have:=hm2.below.tape;rw [hle.w0] at this;exact this.trans hm.below.tape
 ·have:=hm2.below.output;rw [hle.w0] at this;exact this.trans hm.below.output
theorem Qd0 {α:Type} {l:List α} (d:α) {j:Nat} (h:j<l.length):l.drop j=l.getD j d :: l.drop (j+1):=by
 rw [yMb h];simp [List.getD,yba h]
theorem Qh0 {α:Type} {l:List α} {j:Nat} (h:l.length<=j):l.drop j=[]:=List.drop_of_length_le h
theorem QB1 {α:Type} {l:List α} {p:α->Prop} {d:α} {i:Nat} (h:∀ y ∈ l,p y) (hd:p d):p (l.getD i d):=by
 simp only [List.getD];cases hi:l[i]? with
 | none=>exact hd
 | some y=>exact h y (yza hi)
theorem QQb {objs:Objs} {n:Nat} {ks:List Nat} {t:TypeId} {k:Nat} {es es':List (List AVal)} (he:es=es') (h:∀ e ∈ es',LowL n e):TurnO objs n ks (.row t k es) (.row t k es'):=by
 subst he;exact TurnO.same rfl h
theorem wu64_nonneg (n:Int):0<=wu64 n:=by
 simp only [IntKind.wrap,IntKind.bits,IntKind.signed];simp;omega
theorem as_agg {xs ys:List AVal} (h:AsL xs ys):AsA (.agg xs) (.agg ys):=by
 intro K v hr;obtain ⟨vs,rfl,hx,h1⟩:=QA7 hr;exact Qx8 (h.reps K vs hx) h1
theorem QB0 {P:Program} {e:TypeId} {m:Nat} {q:Bool} (b:Nat) (hb:Qg9 P e=b) (h:m*b<=70368744177664∧m<=70368744177664):(true&&(Nat.beq 0 0||q)&&QHb P e m)=true:=by
 rw [small_of b hb h]
 rfl
theorem foll {α:Type} {a b R:α} (h:a=R) (c:a=b):b=R:=c.symm.trans h
theorem Qwd {α:Type} (enc:α->AVal) {R leaf:α} {r0:AVal} {o:Objs} (e:leaf=R) (hl:Low 0 (enc leaf)) (hs:Seen o r0 (enc leaf)):∃ r objs',Told ([]:Objs).length r0 o r objs'∧(r=enc R∧objs'=[]):=by
 subst e;exact Q60 hl hs
theorem Qcb {α:Type} (l:List α) (d:α) {m i:Nat} (h:i<m):(l.take m).getD i d=l.getD i d:=by
 simp only [List.getD,yKa,if_pos h]
theorem Q4e {α:Type} (l:List α) (d:α) (m i:Nat):(l.drop m).getD i d=l.getD (m+i) d:=by
 simp only [List.getD,yMa]
theorem as_take {α:Type} {k:Nat} {t:Bool} {c:α->List AVal} {d:α} (l:List α) (m:Nat) (hm:m<=l.length):AsA (.seq k m t fun i=>c (l.getD (0+i) d)) (listA k c d (l.take m)) :=
 as_list _ (by simp;omega) fun i hi=>by rw [Qcb l d hi,yda]
theorem as_drop {α:Type} {k:Nat} {t:Bool} {c:α->List AVal} {d:α} (l:List α) (m n:Nat) (hn:n=l.length - m):AsA (.seq k n t fun i=>c (l.getD (m+i) d)) (listA k c d (l.drop m)) :=
 as_list _ (by simp;omega) fun i hi=>by rw [Q4e]
theorem low_es1 {n:Nat} {c:List AVal} (h:LowL n c):∀ e ∈ [c],LowL n e:=fun e he=>by rw [List.mem_singleton.1 he];exact h
theorem Qx7 {α:Type} {n:Nat} {c:α->List AVal} {l:List α} (h:∀ x,LowL n (c x)):∀ e ∈ l.map c,LowL n e:=fun e he=>by
 obtain ⟨x,_,rfl⟩:=List.mem_map.1 he;exact h x
theorem lowL1 {n:Nat} {x:AVal} (h:low2 x=true):LowL n [x]:=.cons (QM2 h) .nil
theorem QB4 {objs:Objs} {n:Nat} {ks:List Nat} {f:Fn} {xs ys xs' ys':List AVal} (h:TurnCs objs n ks xs xs') (g:TurnCs objs n ks ys ys'):TurnV objs n ks (.fn f xs ys) (.fn f xs' ys'):=by
 intro K w v hm hr;obtain ⟨vs,us,rfl,hx,hy⟩:=rep_fn hr;refine .fn f xs' ys' vs us (by rw [hx.1,h.length]) (by rw [hy.1,g.length]) (fun i y v hy' hv=>?_) (fun i y v hy' hv=>?_)
 ·obtain ⟨x,hxx,ht⟩:=h.get hy';exact ht K w v hm (hx.2 i x v hxx hv)
 ·obtain ⟨x,hxx,ht⟩:=g.get hy';exact ht K w v hm (hy.2 i x v hxx hv)
def Qq5 (s:ByteArray):Nat->Nat->List (Nat × Int)
 | 0,_=>[]
 | m+1,pos=>bif decide (pos<s.size) then (pos,((Utf8.decode s pos).1:Int)) :: Qq5 s m (pos+(Utf8.decode s pos).2) else []
def Qxd (s:ByteArray):List (Nat × Int):=Qq5 s s.size 0
theorem Q56 {s:ByteArray} {m pos:Nat} (h:decide (pos<s.size)=true):Qq5 s (m+1) pos=(pos,((Utf8.decode s pos).1:Int)) :: Qq5 s m (pos+(Utf8.decode s pos).2):=by
 simp only [Qq5,h,cond_true]
theorem Q58 {s:ByteArray} {m pos:Nat} (h:decide (pos<s.size)=false):Qq5 s m pos=[]:=by
 cases m with
 | zero=>rfl
 | succ m=>simp only [Qq5,h,cond_false]
theorem Q2a (s:ByteArray) (i:Nat):1<=(Utf8.decode s i).2:=by
 unfold Utf8.decode;simp only
 repeat' split
 all_goals simp
def QV6 (s:ByteArray):List Int:=s.data.toList.map fun b=>(b.toNat:Int)
theorem bytesOf_map (s:ByteArray):(s.data.toList.map fun b=>[AVal.lit (.int .u8 (b.toNat:Int))])=(QV6 s).map fun n=>[Y n]:=by
 unfold QV6;rw [List.map_map]
 rfl
theorem Qi5 (s:ByteArray):(QV6 s).length=s.size:=by
 unfold QV6;rw [yxa]
 rfl
def Qn5 (l:List Int):ByteArray:=l.foldl (fun r n=>r.push (UInt8.ofNat n.toNat)) ByteArray.empty
abbrev runeStr (n:Int):ByteArray:=Utf8.encode n
theorem rangeTake {α β:Type} (l:List α) (d:α) (c:α->β) {m:Nat} (h:m<=l.length):(List.range m).map (fun i=>c (l.getD (0+i) d))=(l.take m).map c:=by
 have:=Qi7 (l.take m) d c;rw [yAa,Nat.min_eq_left h] at this;rw [← this];apply ySb;intro i hi;rw [Qcb l d (List.mem_range.1 hi),yda]
theorem range_cut {α β:Type} (l:List α) (d:α) (c:α->β) (m n:Nat) {q:Nat} (hq:q=n - m) (h:n<=l.length):(List.range q).map (fun i=>c (l.getD (m+i) d))=((l.take n).drop m).map c:=by
 have:=Qi7 ((l.take n).drop m) d c;rw [yEa,yAa,Nat.min_eq_left h] at this;rw [hq,← this];apply ySb;intro i hi;have:=List.mem_range.1 hi;rw [Q4e,Qcb l d oA]
theorem as_cut {α:Type} {k q:Nat} {t:Bool} {c:α->List AVal} {d:α} (l:List α) (m n:Nat) (hq:q=n - m) (hn:n<=l.length):AsA (.seq k q t fun i=>c (l.getD (m+i) d)) (listA k c d ((l.take n).drop m)) :=
 as_list _ (by simp;omega) fun i hi=>by rw [Q4e,Qcb l d oA]
def AMoves (P:Program) (f:FuncId) (args:List AVal) (objs:Objs) (n0:Nat) (r:AVal) (objs':Objs):Prop :=
 ∀ (K:Ctx) (w:World) (vs:List Value),MemSat K objs w->Reps K args vs ->
  Calls P f vs.toArray w fun e w'=>∃ (v:Value) (K':Ctx),e = .returned v∧(K.cut n0).le K'∧MemSat K' objs' w'∧Rep K' r v
theorem Qga {K:Ctx} {n:Nat} (h:n<=K.n):(K.cut n).le K:=⟨fun _ _ _ h=>h,fun _ _ _ _=>rfl,fun _ _ _ _=>rfl,h,fun _ _=>yia _,rfl,fun _ _ h=>h,fun _ _ _ _=>rfl⟩
section
variable {P:Program}
theorem AMoves.of_awp {f:FuncId} {fn:Func} {c:Code} {args:List AVal} {objs:Objs} {n0:Nat} {r0:AVal} {objs0:Objs} (keep:Nat->Bool) (hf:P.funcs[f]? = some fn) (hb:fn.body=some c) (hlen:args.length<=fn.ntmps) (hn0:n0<=objs.length)
  (h:awp P fn.ntmps n0 keep c (RetQ P fn n0 fun r o=>r=r0∧o=objs0) { slots:=Qp3 0 args,objs:=objs }):AMoves P f args objs n0 r0 objs0:=by
 intro K w vs hm hreps;refine callsIn_wide.1 (callsIn_of_wp_marks (n:=0) hf hb trivial (wpIn_wide.2 ?_));have hsat:=Sat.enter (nt:=fn.ntmps) hm.begin (Reps.monoR (QK3 K K.B w) hreps) hlen;have hcut:Ctx.le { K.cut n0 with w0:=w } { K with w0:=w }:=⟨fun _ _ _ h=>h,fun _ _ _ _=>rfl,fun _ _ _ _=>rfl,by have:=hm.len;show n0<=K.n;omega,fun _ _=>yia _,rfl,fun _ _ h=>h,fun _ _ _ _=>rfl⟩;refine wp_mono (Qp7 c _ _ { K.cut n0 with w0:=w } { K with w0:=w } _ w rfl hcut hsat h) ?_;rintro e a' w' ⟨e',K',s',rfl,hle,hs',hq⟩;have leave:QAd P fn n0 (fun r o=>r=r0∧o=objs0) s'->LeavesInM Fence.wide 0 P fn a'.tmps (fun e w'=>∃ (v:Value) (K':Ctx),e = .returned v∧(K.cut n0).le K'∧MemSat K' objs0 w'∧Rep K' r0 v) a'.defers .returning w':=fun hl =>
  Qac (K0:=K.cut n0) hm.below hcut rfl rfl rfl hle hs' hl fun v r objs' K' w' h1 h2 h3 h4=>by
   obtain ⟨rfl,rfl⟩:=h4;exact ⟨v,K',rfl,h1,h2,h3⟩
 cases e' with
 | normal=>exact leave hq
 | ret=>exact leave hq
 | exit id=>exact hq.elim
 | goto l=>exact hq.elim
theorem AMoves.of_cwp {f:FuncId} {fn:Func} {c:Code} {args:List AVal} {objs:Objs} {n0:Nat} {r0:AVal} {objs0:Objs} (keep:Nat->Bool) (hf:P.funcs[f]? = some fn) (hb:fn.body=some c) (hlen:Nat.ble args.length fn.ntmps=true) (hn0:Nat.ble n0 objs.length=true)
  (h:cwp P fn.ntmps n0 keep c (CRet P fn n0 fun r o=>r=r0∧o=objs0) (Qp3 0 args) objs):AMoves P f args objs n0 r0 objs0:=by
 refine AMoves.of_awp keep hf hb (yfa hlen) (yfa hn0) (Q87 c _ _ _ ?_ (QJ8 c _ _ _ h));intro e s hs;cases e with
 | normal=>simp only [CRet,Q96] at hs;exact hs
 | ret=>simp only [CRet,Q96] at hs;exact hs
 | exit id=>exact hs
 | goto l=>exact hs
end
def idOK:Nat->List Nat->Objs->Bool
 | 0,_,_=>true
 | n+1,ks,objs=>(match ks[n]? with|some o=>Nat.beq o n|none=>false)&&(match objs[n]? with|some (0,_)=>true|_=>false)&&idOK n ks objs
theorem idOK_get:∀ {n0:Nat} {ks:List Nat} {objs:Objs},idOK n0 ks objs=true -> ∀ i,i<n0->ks[i]? = some i ∧ ∃ p,objs[i]? = some (0,p)
 | 0,_,_,_,i,hi=>by omega
 | n+1,ks,objs,h,i,hi=>by
  simp only [idOK,yha] at h;obtain ⟨⟨h1,h2⟩,h3⟩:=h
  by_cases e:i=n
  ·subst e;refine ⟨?_,?_⟩
   ·split at h1
    ·rename_i o ho;rw [ho];rw [yla h1]
    ·cases h1
   ·split at h2
    ·rename_i p hp;exact ⟨p,hp⟩
    ·cases h2
  ·exact idOK_get h3 i oA
theorem le_shedI {K0 K:Ctx} {w:World} {objs:Objs} {n0:Nat} {ks:List Nat} (hid:idOK n0 ks objs=true) (hm:MemSat K objs w) (hn:K0.n=n0) (h:K0.le K):K0.le (K.shed w objs 0 ks):=by
 have key:∀ o,o<K0.n->ks.getD o 0=o∧K.vs o=0∧o<ks.length:=by
  intro o ho;obtain ⟨q1,p,q2⟩:=idOK_get hid o oA;exact ⟨by simp [List.getD,q1],(hm.ver o _ q2).symm,(List.getElem?_eq_some_iff.1 q1).1⟩
 refine ⟨fun b i u hu=>turn_M (h.M b i u hu),fun o v ho hv=>?_,fun o v ho hv=>?_,?_,fun o ho=>?_,h.w0,h.B,fun b i x hx=>?_⟩
 ·obtain ⟨q1,q2,q3⟩:=key o ho;have hv0:v=0:=by have:=h.vs o ho;omega
  subst hv0;simp only [Ctx.shed,yPb,if_false,yGb,q1,q2];exact h.ρ o 0 ho hv
 ·obtain ⟨q1,q2,q3⟩:=key o ho;have hv0:v=0:=by have:=h.vs o ho;omega
  subst hv0;simp only [Ctx.shed,yPb,if_false,yGb,q1,q2];exact h.C o 0 ho hv
 ·simp only [Ctx.shed,yda];rcases ySa K0.n with h0|h0
  ·omega
  ·have:=(key (K0.n - 1) oA).2.2;omega
 ·obtain ⟨q1,q2,q3⟩:=key o ho;have:=h.vs o ho;simp only [Ctx.shed,yPb,if_false];omega
 ·have hb:K.B b=some x:=h.B b x hx;have hm0:=h.M0 b i x hx;rw [← hm0];simp only [Ctx.shed];cases hM:K.M b i with
  | some u=>rfl
  | none=>simp [hb]
theorem Q3d {nt n0:Nat} {objs:Objs} {s s':List (Nat × AVal)} {new:Objs} (ks:List Nat) (hid:idOK n0 ks objs=true) (hnd:ks.Nodup) (hT:TurnL objs 0 ks ks new) (hs:SubT objs 0 ks s s'):Weaker nt n0 ⟨s,objs⟩ ⟨s',new⟩:=by
 intro K0 K a w h0 hle hsat;have hsh:=hsat.mem.shed (n:=0) (yna _) (fun o p _ h=>absurd h oA) (fun _ _=>yna _) hnd hT;exact ⟨K.shed w objs 0 ks,le_shedI hid hsat.mem h0 hle,by simpa using hsh,fun t=>hs.get t K w _ hsat.mem (hsat.slot t),hsat.size,hsat.defers⟩
theorem Qb3 {n0:Nat} {objs:Objs} {r0 r:AVal} {new:Objs} (ks:List Nat) (hid:idOK n0 ks objs=true) (hnd:ks.Nodup) (hT:TurnL objs 0 ks ks new) (hr:TurnV objs 0 ks r0 r):Told n0 r0 objs r new:=by
 intro K0 K w v h0 hle hm hrep;have hsh:=hm.shed (n:=0) (yna _) (fun o p _ h=>absurd h oA) (fun _ _=>yna _) hnd hT;exact ⟨K.shed w objs 0 ks,le_shedI hid hm h0 hle,by simpa using hsh,hr K w v hm hrep⟩
inductive Ren (m:List (Nat × Nat)):AVal->AVal->Prop where
 | low (x:AVal) (h:Low 0 x):Ren m x x
 | ptr (i o v k a b:Nat) (h:m[i]? = some (o,v)):Ren m (.ptr i 0 k a b) (.ptr o v k a b)
 | sel (i o v k a b:Nat) (h:m[i]? = some (o,v)):Ren m (.sel i 0 k a b) (.sel o v k a b)
 | own (i o v k a b:Nat) (h:m[i]? = some (o,v)):Ren m (.own i 0 k a b) (.own o v k a b)
 | map (i o:Nat) (h:m[i]? = some (o,0)):Ren m (.map i) (.map o)
 | agg (ys xs:List AVal) (hl:ys.length=xs.length) (h:∀ (i:Nat) (y x:AVal),ys[i]? = some y->xs[i]? = some x->Ren m y x):Ren m (.agg ys) (.agg xs)
 | tup (ys xs:List AVal) (hl:ys.length=xs.length) (h:∀ (i:Nat) (y x:AVal),ys[i]? = some y->xs[i]? = some x->Ren m y x):Ren m (.tup ys) (.tup xs)
 | fn (f:Fn) (ys xs ys' xs':List AVal) (hl:ys.length=xs.length) (hl':ys'.length=xs'.length) (h:∀ (i:Nat) (y x:AVal),ys[i]? = some y->xs[i]? = some x->Ren m y x)
   (h':∀ (i:Nat) (y x:AVal),ys'[i]? = some y->xs'[i]? = some x->Ren m y x):Ren m (.fn f ys ys') (.fn f xs xs')
 | ifc (t:TypeId) (y x:AVal) (h:Ren m y x):Ren m (.ifc t y) (.ifc t x)
inductive RenL (m:List (Nat × Nat)):List AVal->List AVal->Prop where
 | nil:RenL m [] []
 | cons (y x:AVal) (ys xs:List AVal) (h:Ren m y x) (t:RenL m ys xs):RenL m (y :: ys) (x :: xs)
theorem RenL.length {m:List (Nat × Nat)} {ys xs:List AVal} (h:RenL m ys xs):ys.length=xs.length:=by
 induction h with
 | nil=>rfl
 | cons _ _ _ _ _ _ ih=>simp [ih]
theorem RenL.get {m:List (Nat × Nat)} {ys xs:List AVal} (h:RenL m ys xs):∀ (i:Nat) (y x:AVal),ys[i]? = some y->xs[i]? = some x->Ren m y x:=by
 induction h with
 | nil=>intro i y x h;simp at h
 | cons y x ys xs h _ ih =>
  intro i y' x' hy hx;cases i with
  | zero=>simp at hy hx;subst hy hx;exact h
  | succ i=>simp at hy hx;exact ih i y' x' hy hx
theorem ren_agg {m:List (Nat × Nat)} {ys xs:List AVal} (h:RenL m ys xs):Ren m (.agg ys) (.agg xs):=.agg _ _ h.length h.get
theorem ren_tup {m:List (Nat × Nat)} {ys xs:List AVal} (h:RenL m ys xs):Ren m (.tup ys) (.tup xs):=.tup _ _ h.length h.get
theorem ren_fn {m:List (Nat × Nat)} {f:Fn} {ys xs ys' xs':List AVal} (h:RenL m ys xs) (h':RenL m ys' xs'):Ren m (.fn f ys ys') (.fn f xs xs'):=.fn _ _ _ _ _ h.length h'.length h.get h'.get
structure Agree (m:List (Nat × Nat)) (K L:Ctx):Prop where
 ρ:∀ i o v:Nat,m[i]? = some (o,v)->K.ρ i 0=L.ρ o v
 C:∀ i o v:Nat,m[i]? = some (o,v)->K.C i 0=L.C o v
 lt:∀ i o v:Nat,m[i]? = some (o,v)->i<K.n
 lt':∀ i o v:Nat,m[i]? = some (o,v)->o<L.n∧v<=L.vs o
theorem Ren.down {m:List (Nat × Nat)} {K L:Ctx} (hA:Agree m K L) (hM:∀ b i u,L.M b i=some u->K.M b i=some u) {y x:AVal} (h:Ren m y x):∀ {v:Value},Rep L x v->Rep K y v:=by
 induction h with
 | low x h=>exact fun hr=>Rep.low0 hM hr h
 | ptr i o ver k a b h =>
  intro v hr;obtain ⟨rfl,_,_⟩:=Qh5 hr;rw [← hA.ρ i o ver h];exact .ptr i 0 k a b (hA.lt i o ver h) (yna _)
 | sel i o ver k a b h =>
  intro v hr;cases hr with
  | selNil=>exact .selNil _ _ _ _ _
  | selPtr _ _ _ _ _ _ _ =>
   rw [← hA.ρ i o ver h];exact .selPtr i 0 k a b (hA.lt i o ver h) (yna _)
 | own i o ver k a b h =>
  intro v hr;obtain ⟨_,_,hcase⟩:=Qv5 hr;rcases hcase with ⟨rfl,rfl,rfl⟩|⟨a',c,rfl,q1,q2,q3⟩
  ·exact .ownNil _ _ _ (hA.lt i o ver h) (yna _)
  ·exact .own _ _ _ _ _ (hA.lt i o ver h) (yna _) a' c q1 (by rw [hA.C i o ver h];exact q2) (by rw [hA.ρ i o ver h];exact q3)
 | map i o h =>
  intro v hr;obtain ⟨rfl,_⟩:=Qpc hr;rw [← hA.ρ i o 0 h];exact .map i (hA.lt i o 0 h)
 | agg ys xs hl _ ih =>
  intro v hr;obtain ⟨vs,rfl,hx,h1⟩:=QA7 hr;refine .agg ys vs (by rw [hx.1,hl]) h1 fun i y v hy hv=>?_
  have hi:i<xs.length:=by have:=(List.getElem?_eq_some_iff.1 hy).1;omega
  exact ih i y _ hy (yba hi) (hx.2 i _ v (yba hi) hv)
 | tup ys xs hl _ ih =>
  intro v hr;obtain ⟨vs,rfl,hx⟩:=QEe hr;refine .tup ys vs (by rw [hx.1,hl]) fun i y v hy hv=>?_
  have hi:i<xs.length:=by have:=(List.getElem?_eq_some_iff.1 hy).1;omega
  exact ih i y _ hy (yba hi) (hx.2 i _ v (yba hi) hv)
 | fn f ys xs ys' xs' hl hl' _ _ ih ih' =>
  intro v hr;obtain ⟨vs,us,rfl,hx,hy⟩:=rep_fn hr;refine .fn f ys ys' vs us (by rw [hx.1,hl]) (by rw [hy.1,hl']) (fun i y v hyy hv=>?_) (fun i y v hyy hv=>?_)
  ·have hi:i<xs.length:=by have:=(List.getElem?_eq_some_iff.1 hyy).1;omega
   exact ih i y _ hyy (yba hi) (hx.2 i _ v (yba hi) hv)
  ·have hi:i<xs'.length:=by have:=(List.getElem?_eq_some_iff.1 hyy).1;omega
   exact ih' i y _ hyy (yba hi) (hy.2 i _ v (yba hi) hv)
 | ifc t y x _ ih =>
  intro v hr;cases hr with
  | ifc _ _ v' h=>exact .ifc t y v' (ih h)
theorem Ren.up {m:List (Nat × Nat)} {K L:Ctx} (hA:Agree m K L) (hM:∀ b i u,K.M b i=some u->L.M b i=some u) {y x:AVal} (h:Ren m y x):∀ {v:Value},Rep K y v->Rep L x v:=by
 induction h with
 | low x h=>exact fun hr=>Rep.low0 hM hr h
 | ptr i o ver k a b h =>
  intro v hr;obtain ⟨rfl,_,_⟩:=Qh5 hr;rw [hA.ρ i o ver h];exact .ptr o ver k a b (hA.lt' i o ver h).1 (hA.lt' i o ver h).2
 | sel i o ver k a b h =>
  intro v hr;cases hr with
  | selNil=>exact .selNil _ _ _ _ _
  | selPtr _ _ _ _ _ _ _ =>
   rw [hA.ρ i o ver h];exact .selPtr o ver k a b (hA.lt' i o ver h).1 (hA.lt' i o ver h).2
 | own i o ver k a b h =>
  intro v hr;obtain ⟨_,_,hcase⟩:=Qv5 hr;rcases hcase with ⟨rfl,rfl,rfl⟩|⟨a',c,rfl,q1,q2,q3⟩
  ·exact .ownNil _ _ _ (hA.lt' i o ver h).1 (hA.lt' i o ver h).2
  ·exact .own _ _ _ _ _ (hA.lt' i o ver h).1 (hA.lt' i o ver h).2 a' c q1 (by rw [← hA.C i o ver h];exact q2) (by rw [← hA.ρ i o ver h];exact q3)
 | map i o h =>
  intro v hr;obtain ⟨rfl,_⟩:=Qpc hr;rw [hA.ρ i o 0 h];exact .map o (hA.lt' i o 0 h).1
 | agg ys xs hl _ ih =>
  intro v hr;obtain ⟨vs,rfl,hx,h1⟩:=QA7 hr;refine .agg xs vs (by rw [hx.1,hl]) h1 fun i y v hy hv=>?_
  have hi:i<ys.length:=by have:=(List.getElem?_eq_some_iff.1 hy).1;omega
  exact ih i _ y (yba hi) hy (hx.2 i _ v (yba hi) hv)
 | tup ys xs hl _ ih =>
  intro v hr;obtain ⟨vs,rfl,hx⟩:=QEe hr;refine .tup xs vs (by rw [hx.1,hl]) fun i y v hy hv=>?_
  have hi:i<ys.length:=by have:=(List.getElem?_eq_some_iff.1 hy).1;omega
  exact ih i _ y (yba hi) hy (hx.2 i _ v (yba hi) hv)
 | fn f ys xs ys' xs' hl hl' _ _ ih ih' =>
  intro v hr;obtain ⟨vs,us,rfl,hx,hy⟩:=rep_fn hr;refine .fn f xs xs' vs us (by rw [hx.1,hl]) (by rw [hy.1,hl']) (fun i y v hyy hv=>?_) (fun i y v hyy hv=>?_)
  ·have hi:i<ys.length:=by have:=(List.getElem?_eq_some_iff.1 hyy).1;omega
   exact ih i _ y (yba hi) hyy (hx.2 i _ v (yba hi) hv)
  ·have hi:i<ys'.length:=by have:=(List.getElem?_eq_some_iff.1 hyy).1;omega
   exact ih' i _ y (yba hi) hyy (hy.2 i _ v (yba hi) hv)
 | ifc t y x _ ih =>
  intro v hr;cases hr with
  | ifc _ _ v' h=>exact .ifc t x v' (ih h)
inductive RenO (m:List (Nat × Nat)):AObj->AObj->Prop where
 | same (x:AObj) (h:QXa 0 x):RenO m x x
 | row1 (t:TypeId) (k:Nat) (ys xs:List AVal) (h:RenL m ys xs):RenO m (.row t k [ys]) (.row t k [xs])
theorem RenO.live {m:List (Nat × Nat)} {Y X:AObj} (h:RenO m Y X):Y.live=X.live:=by cases h <;> rfl
theorem RenO.down {m:List (Nat × Nat)} {K L:Ctx} {w:World} (hA:Agree m K L) (hM:∀ b i u,L.M b i=some u->K.M b i=some u) {Y X:AObj} {i o v:Nat} (hρ:K.ρ i 0=L.ρ o v) (hC:K.C i 0=L.C o v) (h:RenO m Y X) (hs:ObjSat L w o v X):ObjSat K w i 0 Y:=by
 cases h with
 | same x hl =>
  cases Y with
  | dead=>trivial
  | row t k es =>
   obtain ⟨h1,h2,h3⟩:=hs;refine ⟨h1,by rw [hC];exact h2,fun hc=>?_⟩;rw [hC] at hc;obtain ⟨c,q1,q2,q3,q4⟩:=h3 hc;refine ⟨c,by rw [hρ];exact q1,by rw [hC];exact q2,q3,fun i' j e x he hx=>?_⟩;obtain ⟨u,hu,hr⟩:=q4 i' j e x he hx;exact ⟨u,hu,Rep.low0 hM hr (hl e (Qb2 he) x (Qb2 hx))⟩
  | other x =>
   obtain ⟨h1,b,h2,h3⟩:=hs;refine ⟨by rw [hC];exact h1,b,by rw [hρ];exact h2,?_⟩;exact OtherSat.low (K:=L) (L:=K) (n:=0) hM (yna _) (fun o v ho=>by omega) (fun o v ho=>by omega) (fun o ho=>by omega) hl h3
 | row1 t k ys xs h =>
  obtain ⟨h1,h2,h3⟩:=hs;refine ⟨fun e he=>by rw [List.mem_singleton.1 he,h.length];exact h1 xs (by simp),by rw [hC];exact h2,fun hc=>?_⟩;rw [hC] at hc;obtain ⟨c,q1,q2,q3,q4⟩:=h3 hc;refine ⟨c,by rw [hρ];exact q1,by rw [hC];exact q2,q3,fun i' j e x he hx=>?_⟩;cases i' with
  | succ i'=>simp at he
  | zero =>
   simp at he;subst he;have hj:j<xs.length:=by have:=(List.getElem?_eq_some_iff.1 hx).1;have:=h.length;omega
   obtain ⟨u,hu,hr⟩:=q4 0 j xs _ rfl (yba hj);exact ⟨u,hu,(h.get j x _ hx (yba hj)).down hA hM hr⟩
theorem RenO.up {m:List (Nat × Nat)} {K L:Ctx} {w:World} (hA:Agree m K L) (hM:∀ b i u,K.M b i=some u->L.M b i=some u) {Y X:AObj} {i o v:Nat} (hρ:K.ρ i 0=L.ρ o v) (hC:K.C i 0=L.C o v) (h:RenO m Y X) (hs:ObjSat K w i 0 Y):ObjSat L w o v X:=by
 cases h with
 | same x hl =>
  cases Y with
  | dead=>trivial
  | row t k es =>
   obtain ⟨h1,h2,h3⟩:=hs;refine ⟨h1,by rw [← hC];exact h2,fun hc=>?_⟩;rw [← hC] at hc;obtain ⟨c,q1,q2,q3,q4⟩:=h3 hc;refine ⟨c,by rw [← hρ];exact q1,by rw [← hC];exact q2,q3,fun i' j e x he hx=>?_⟩;obtain ⟨u,hu,hr⟩:=q4 i' j e x he hx;exact ⟨u,hu,Rep.low0 hM hr (hl e (Qb2 he) x (Qb2 hx))⟩
  | other x =>
   obtain ⟨h1,b,h2,h3⟩:=hs;refine ⟨by rw [← hC];exact h1,b,by rw [← hρ];exact h2,?_⟩;exact OtherSat.low (K:=K) (L:=L) (n:=0) hM (yna _) (fun o v ho=>by omega) (fun o v ho=>by omega) (fun o ho=>by omega) hl h3
 | row1 t k ys xs h =>
  obtain ⟨h1,h2,h3⟩:=hs;refine ⟨fun e he=>by rw [List.mem_singleton.1 he,← h.length];exact h1 ys (by simp),by rw [← hC];exact h2,fun hc=>?_⟩;rw [← hC] at hc;obtain ⟨c,q1,q2,q3,q4⟩:=h3 hc;refine ⟨c,by rw [← hρ];exact q1,by rw [← hC];exact q2,q3,fun i' j e x he hx=>?_⟩;cases i' with
  | succ i'=>simp at he
  | zero =>
   simp at he;subst he;have hj:j<ys.length:=by have:=(List.getElem?_eq_some_iff.1 hx).1;have:=h.length;omega
   obtain ⟨u,hu,hr⟩:=q4 0 j ys _ rfl (yba hj);exact ⟨u,hu,(h.get j _ x (yba hj) hx).up hA hM hr⟩
def idxN:List Nat->Nat->Nat->Option Nat
 | [],_,_=>none
 | k :: ks,o,i=>bif Nat.beq k o then some i else idxN ks o (i+1)
theorem idxN_some:∀ {ks:List Nat} {o i j:Nat},idxN ks o i=some j->i<=j∧ks[j - i]? = some o
 | [],_,_,_,h=>by simp [idxN] at h
 | k :: ks,o,i,j,h=>by
  simp only [idxN] at h;cases hb:Nat.beq k o with
  | true=>rw [hb] at h;simp at h;subst h;exact ⟨yia _,by simp [yla hb]⟩
  | false =>
   rw [hb] at h;obtain ⟨h1,h2⟩:=idxN_some (ks:=ks) h;refine ⟨by omega,?_⟩;rw [show j - i=(j - (i+1))+1 by omega];simpa using h2
theorem idxN_none:∀ {ks:List Nat} {o i:Nat},idxN ks o i=none->o ∉ ks
 | [],_,_,_=>by simp
 | k :: ks,o,i,h=>by
  simp only [idxN] at h;cases hb:Nat.beq k o with
  | true=>rw [hb] at h;simp at h
  | false =>
   rw [hb] at h;have:=idxN_none (ks:=ks) h;simp only [y6b,not_or];exact ⟨fun e=>by rw [e] at hb;simp at hb,this⟩
def mvd1 (ks:List Nat) (n0:Nat) (xs:List AObj) (o:Nat) (p:Nat × AObj):Nat × AObj :=
 match idxN ks o 0 with
 | some i=>bif Nat.blt i n0 then (p.1,xs.getD i .dead) else (p.1,.dead)
 | none=>p
def mvd (ks:List Nat) (n0:Nat) (xs:List AObj):Nat->Objs->Objs
 | _,[]=>[]
 | o,p :: r=>mvd1 ks n0 xs o p :: mvd ks n0 xs (o+1) r
def laid:List AObj->Objs
 | []=>[]
 | x :: r=>(0,x) :: laid r
def moved (ks:List Nat) (n0:Nat) (xs:List AObj) (objs:Objs):Objs:=mvd ks n0 xs 0 objs++laid (xs.drop n0)
theorem Qv8 (ks:List Nat) (n0:Nat) (xs:List AObj):∀ (o:Nat) (l:Objs),(mvd ks n0 xs o l).length=l.length
 | _,[]=>rfl
 | o,p :: r=>by simp [mvd,Qv8 ks n0 xs (o+1) r]
theorem mvd_get (ks:List Nat) (n0:Nat) (xs:List AObj):∀ (o:Nat) (l:Objs) (j:Nat),(mvd ks n0 xs o l)[j]? = (l[j]?).map (mvd1 ks n0 xs (o+j))
 | _,[],j=>by simp [mvd]
 | o,p :: r,0=>by simp [mvd]
 | o,p :: r,j+1=>by
  simp only [mvd,List.getElem?_cons_succ];rw [mvd_get ks n0 xs (o+1) r j,show o+1+j=o+(j+1) by omega]
theorem laid_get:∀ (l:List AObj) (j:Nat),(laid l)[j]? = (l[j]?).map fun x=>(0,x)
 | [],j=>by simp [laid]
 | x :: r,0=>by simp [laid]
 | x :: r,j+1=>by simp [laid,laid_get r j]
theorem Qme:∀ (l:List AObj),(laid l).length=l.length
 | []=>rfl
 | x :: r=>by simp [laid,Qme r]
def mIn:List Nat->Objs->List (Nat × Nat)
 | [],_=>[]
 | k :: ks,objs=>(k,match objs[k]? with|some p=>p.1|none=>0) :: mIn ks objs
def mNew:Nat->Nat->List (Nat × Nat)
 | 0,_=>[]
 | c+1,o=>(o,0) :: mNew c (o+1)
def mOut (ks:List Nat) (n0:Nat) (objs:Objs) (c:Nat):List (Nat × Nat):=(mIn ks objs).take n0++mNew c objs.length
theorem mIn_get:∀ {ks:List Nat} {objs:Objs} {i o v:Nat},(mIn ks objs)[i]? = some (o,v)->ks[i]? = some o∧v=(match objs[o]? with|some p=>p.1|none=>0)
 | [],_,_,_,_,h=>by simp [mIn] at h
 | k :: ks,objs,0,o,v,h=>by simp [mIn] at h;obtain ⟨rfl,rfl⟩:=h;exact ⟨rfl,rfl⟩
 | k :: ks,objs,i+1,o,v,h=>by simp [mIn] at h;obtain ⟨h1,h2⟩:=mIn_get h;exact ⟨by simpa using h1,h2⟩
theorem mIn_length:∀ (ks:List Nat) (objs:Objs),(mIn ks objs).length=ks.length
 | [],_=>rfl
 | k :: ks,objs=>by simp [mIn,mIn_length ks objs]
theorem mNew_get:∀ {c o j a v:Nat},(mNew c o)[j]? = some (a,v)->a=o+j∧v=0∧j<c
 | 0,_,_,_,_,h=>by simp [mNew] at h
 | c+1,o,0,a,v,h=>by simp [mNew] at h;omega
 | c+1,o,j+1,a,v,h=>by simp [mNew] at h;obtain ⟨h1,h2,h3⟩:=mNew_get h;exact ⟨by omega,h2,by omega⟩
inductive RenOs (m:List (Nat × Nat)):Objs->List AObj->Prop where
 | nil:RenOs m [] []
 | cons (Y X:AObj) (ys:Objs) (xs:List AObj) (h:RenO m Y X) (t:RenOs m ys xs):RenOs m ((0,Y) :: ys) (X :: xs)
theorem RenOs.length {m:List (Nat × Nat)} {ys:Objs} {xs:List AObj} (h:RenOs m ys xs):ys.length=xs.length:=by
 induction h with
 | nil=>rfl
 | cons _ _ _ _ _ _ ih=>simp [ih]
theorem RenOs.get {m:List (Nat × Nat)} {ys:Objs} {xs:List AObj} (h:RenOs m ys xs):∀ {i:Nat} {q:Nat × AObj},ys[i]? = some q->q.1=0 ∧ ∃ X,xs[i]? = some X∧RenO m q.2 X:=by
 induction h with
 | nil=>intro i q h;simp at h
 | cons Y X ys xs h _ ih =>
  intro i q hq;cases i with
  | zero=>simp at hq;subst hq;exact ⟨rfl,X,rfl,h⟩
  | succ i=>simp at hq;simpa using ih hq
def picks:List Nat->Objs->List AObj
 | [],_=>[]
 | k :: ks,objs=>(match objs[k]? with|some p=>p.2|none=>.dead) :: picks ks objs
theorem picks_get:∀ {ks:List Nat} {objs:Objs} {i:Nat} {X:AObj},(picks ks objs)[i]? = some X -> ∃ o,ks[i]? = some o∧X=(match objs[o]? with|some p=>p.2|none=>.dead)
 | [],_,_,_,h=>by simp [picks] at h
 | k :: ks,objs,0,X,h=>by simp [picks] at h;exact ⟨k,rfl,h.symm⟩
 | k :: ks,objs,i+1,X,h=>by simp [picks] at h;obtain ⟨o,h1,h2⟩:=picks_get h;exact ⟨o,by simpa using h1,h2⟩
def Qxa:List AObj->Bool
 | []=>true
 | x :: r=>x.live&&Qxa r
theorem QCd:∀ {l:List AObj} {i:Nat} {X:AObj},Qxa l=true->l[i]? = some X->X.live=true
 | [],_,_,_,h=>by simp at h
 | x :: r,0,X,ha,h=>by simp [Qxa] at ha h;subst h;exact ha.1
 | x :: r,i+1,X,ha,h=>by simp [Qxa] at ha h;exact QCd ha.2 h
def selB (K:Ctx) (objs:Objs) (ks:List Nat) (b:Nat):Prop:=∃ o p,o ∈ ks∧objs[o]? = some p∧K.C o p.1 ≠ 0∧b=K.ρ o p.1
open Classical in
noncomputable def Ctx.sel (K:Ctx) (w:World) (objs:Objs) (ks:List Nat):Ctx :=
 { K with
  n:=ks.length
  ρ:=fun i _=>K.ρ (ks.getD i 0) (K.vs (ks.getD i 0))
  C:=fun i _=>K.C (ks.getD i 0) (K.vs (ks.getD i 0))
  vs:=fun _=>0
  B:=fun b=>if selB K objs ks b then none else w.heap[b]?
  w0:=w }
def Ctx.back (K K2:Ctx) (n0 c:Nat):Ctx :=
 {M:=K2.M
  ρ:=fun o v=>if o<K.n then K.ρ o v else K2.ρ (n0+(o - K.n)) 0
  C:=fun o v=>if o<K.n then K.C o v else K2.C (n0+(o - K.n)) 0
  n:=K.n+c
  vs:=fun o=>if o<K.n then K.vs o else 0
  B:=K.B
  w0:=K.w0 }
def Dn (m:List (Nat × Nat)) (y x:AVal):Prop:=∀ {K L:Ctx},Agree m K L->(∀ b i u,L.M b i=some u->K.M b i=some u) -> ∀ {v:Value},Rep L x v->Rep K y v
inductive DnL (m:List (Nat × Nat)):List AVal->List AVal->Prop where
 | nil:DnL m [] []
 | cons (y x:AVal) (ys xs:List AVal) (h:Dn m y x) (t:DnL m ys xs):DnL m (y :: ys) (x :: xs)
theorem DnL.length {m:List (Nat × Nat)} {ys xs:List AVal} (h:DnL m ys xs):ys.length=xs.length:=by
 induction h with
 | nil=>rfl
 | cons _ _ _ _ _ _ ih=>simp [ih]
theorem DnL.get {m:List (Nat × Nat)} {ys xs:List AVal} (h:DnL m ys xs):∀ (i:Nat) (y x:AVal),ys[i]? = some y->xs[i]? = some x->Dn m y x:=by
 induction h with
 | nil=>intro i y x h;simp at h
 | cons y x ys xs h _ ih =>
  intro i y' x' hy hx;cases i with
  | zero=>simp at hy hx;subst hy hx;exact h
  | succ i=>simp at hy hx;exact ih i y' x' hy hx
theorem Qo3 {m:List (Nat × Nat)} {x:AVal} (h:Low 0 x):Dn m x x:=fun _ hM _ hr=>Rep.low0 hM hr h
theorem Qha {m:List (Nat × Nat)} {y x:AVal} (h:Ren m y x):Dn m y x:=fun hA hM _ hr=>h.down hA hM hr
theorem dn_as {m:List (Nat × Nat)} {y x:AVal} (h:AsA x y) (hl:Low 0 y):Dn m y x:=fun _ hM _ hr=>Rep.low0 hM (h _ _ hr) hl
theorem dn_ptr {m:List (Nat × Nat)} {i o v k a b:Nat} (h:m[i]? = some (o,v)):Dn m (.ptr i 0 k a b) (.ptr o v k a b):=Qha (.ptr _ _ _ _ _ _ h)
theorem dn_own {m:List (Nat × Nat)} {i o v k a b:Nat} (h:m[i]? = some (o,v)):Dn m (.own i 0 k a b) (.own o v k a b):=Qha (.own _ _ _ _ _ _ h)
theorem QP3 {m:List (Nat × Nat)} {i o v k a b b':Nat} (h:m[i]? = some (o,v)) (e:b'=b):Dn m (.own i 0 k a b) (.own o v k a b'):=by subst e;exact dn_own h
theorem dn_nil {m:List (Nat × Nat)} {i k:Nat} {q:Nat × Nat} (h:m[i]? = some q):Dn m (.own i 0 k 0 0) (.lit (.slice none 0 0)):=by
 intro K L hA _ v hr;have:=QZ0 hr;subst this;exact .ownNil _ _ _ (hA.lt i q.1 q.2 h) (yna _)
theorem dn_fn {m:List (Nat × Nat)} {f:Fn} {ys xs ys' xs':List AVal} (h:DnL m ys xs) (h':DnL m ys' xs'):Dn m (.fn f ys ys') (.fn f xs xs'):=by
 intro K L hA hM v hr;obtain ⟨vs,us,rfl,hx,hy⟩:=rep_fn hr;refine .fn f ys ys' vs us (by rw [hx.1,h.length]) (by rw [hy.1,h'.length]) (fun i y v hyy hv=>?_) (fun i y v hyy hv=>?_)
 ·have hi:i<xs.length:=by have:=(List.getElem?_eq_some_iff.1 hyy).1;have:=h.length;omega
  exact h.get i y _ hyy (yba hi) hA hM (hx.2 i _ v (yba hi) hv)
 ·have hi:i<xs'.length:=by have:=(List.getElem?_eq_some_iff.1 hyy).1;have:=h'.length;omega
  exact h'.get i y _ hyy (yba hi) hA hM (hy.2 i _ v (yba hi) hv)
inductive DnO (m:List (Nat × Nat)):AObj->AObj->Prop where
 | same (x:AObj) (h:QXa 0 x):DnO m x x
 | row1 (t:TypeId) (k:Nat) (ys xs:List AVal) (h:DnL m ys xs):DnO m (.row t k [ys]) (.row t k [xs])
theorem dn_row {m:List (Nat × Nat)} {t:TypeId} {k:Nat} {es es':List (List AVal)} (e:es'=es) (h:∀ q ∈ es,LowL 0 q):DnO m (.row t k es) (.row t k es'):=by subst e;exact .same _ h
theorem DnO.down {m:List (Nat × Nat)} {K L:Ctx} {w:World} (hA:Agree m K L) (hM:∀ b i u,L.M b i=some u->K.M b i=some u) {Y X:AObj} {i o v:Nat} (hρ:K.ρ i 0=L.ρ o v) (hC:K.C i 0=L.C o v) (h:DnO m Y X) (hs:ObjSat L w o v X):ObjSat K w i 0 Y:=by
 cases h with
 | same x hl=>exact RenO.down hA hM hρ hC (.same _ hl) hs
 | row1 t k ys xs h =>
  obtain ⟨h1,h2,h3⟩:=hs;refine ⟨fun e he=>by rw [List.mem_singleton.1 he,h.length];exact h1 xs (by simp),by rw [hC];exact h2,fun hc=>?_⟩;rw [hC] at hc;obtain ⟨c,q1,q2,q3,q4⟩:=h3 hc;refine ⟨c,by rw [hρ];exact q1,by rw [hC];exact q2,q3,fun i' j e x he hx=>?_⟩;cases i' with
  | succ i'=>simp at he
  | zero =>
   simp at he;subst he;have hj:j<xs.length:=by have:=(List.getElem?_eq_some_iff.1 hx).1;have:=h.length;omega
   obtain ⟨u,hu,hr⟩:=q4 0 j xs _ rfl (yba hj);exact ⟨u,hu,h.get j x _ hx (yba hj) hA hM hr⟩
inductive DnOs (m:List (Nat × Nat)):Objs->List AObj->Prop where
 | nil:DnOs m [] []
 | cons (Y X:AObj) (ys:Objs) (xs:List AObj) (h:DnO m Y X) (t:DnOs m ys xs):DnOs m ((0,Y) :: ys) (X :: xs)
theorem DnOs.length {m:List (Nat × Nat)} {ys:Objs} {xs:List AObj} (h:DnOs m ys xs):ys.length=xs.length:=by
 induction h with
 | nil=>rfl
 | cons _ _ _ _ _ _ ih=>simp [ih]
theorem DnOs.get {m:List (Nat × Nat)} {ys:Objs} {xs:List AObj} (h:DnOs m ys xs):∀ {i:Nat} {q:Nat × AObj},ys[i]? = some q->q.1=0 ∧ ∃ X,xs[i]? = some X∧DnO m q.2 X:=by
 induction h with
 | nil=>intro i q h;simp at h
 | cons Y X ys xs h _ ih =>
  intro i q hq;cases i with
  | zero=>simp at hq;subst hq;exact ⟨rfl,X,rfl,h⟩
  | succ i=>simp at hq;simpa using ih hq
theorem ACalls.pad {P:Program} {f:FuncId} {args:List AVal} {objs:Objs} {R:AVal->Objs->Prop} (t:TypeId) (k:Nat) (h:ACalls P f args (objs++[(0,.row t k [])]) R):ACalls P f args objs R:=by
 intro K w vs hm hreps;refine (h (K.newObj 0 0) w vs (hm.addNone t k) (hreps.mono (Q92 K 0 0))).mono ?_;rintro e w' ⟨v,r,o,K',rfl,hle,hm',hr,hR⟩;exact ⟨v,r,o,K',rfl,(Q92 K 0 0).trans hle,hm',hr,hR⟩
open Classical in
theorem AMoves.at {P:Program} {f:FuncId} {args args1:List AVal} {base objs base':Objs} {n0:Nat} {r rc:AVal} {xs:List AObj} (ks:List Nat) (h:AMoves P f args base n0 r base')
  (hnd:ks.Nodup) (hlt:∀ k ∈ ks,k<objs.length) (hn0:n0<=ks.length) (hn1:n0<=base'.length)
  (hin:DnOs (mIn ks objs) base (picks ks objs)) (hlive:Qxa (picks ks objs)=true) (hargs:DnL (mIn ks objs) args args1)
  (hout:RenOs (mOut ks n0 objs (base'.length - n0)) base' xs) (hr:Ren (mOut ks n0 objs (base'.length - n0)) r rc) :
  ACalls P f args1 objs fun r' o'=>r'=rc∧o'=moved ks n0 xs objs:=by
 intro K w vs hm hreps;have hKn:objs.length=K.n:=hm.len;have pk:∀ (i o:Nat),ks[i]? = some o -> ∃ p,objs[o]? = some p∧p.2.live=true∧K.vs o=p.1∧(picks ks objs)[i]? = some p.2∧o<K.n:=by
  intro i o hi;have ho:=hlt o (Qb2 hi);have hp:objs[o]? = some objs[o]:=yba ho;have hpk:(picks ks objs)[i]? = some objs[o].2:=by
   have:∀ {ks:List Nat} {i:Nat},ks[i]? = some o->(picks ks objs)[i]? = some objs[o].2:=by
    intro ks
    induction ks with
    | nil=>intro i h;simp at h
    | cons k ks ih =>
     intro i h;cases i with
     | zero=>simp at h;subst h;simp [picks,hp]
     | succ i=>simp at h;simpa [picks] using ih h
   exact this hi
  exact ⟨_,hp,QCd hlive hpk,(hm.ver o _ hp).symm,hpk,by omega⟩
 have mi:∀ (i o v:Nat),(mIn ks objs)[i]? = some (o,v)->ks[i]? = some o∧v=K.vs o∧o<K.n:=by
  intro i o v hi;obtain ⟨h1,h2⟩:=mIn_get hi;obtain ⟨p,hp,_,hv,_,hlt'⟩:=pk i o h1;rw [hp] at h2;exact ⟨h1,by rw [h2,hv],hlt'⟩
 have gD:∀ {i o:Nat},ks[i]? = some o->ks.getD i 0=o:=fun hi=>by simp [List.getD,hi]
 let K1:Ctx:=K.sel w objs ks
 have hA1:Agree (mIn ks objs) K1 K:=by
  refine ⟨fun i o v hi=>?_,fun i o v hi=>?_,fun i o v hi=>?_,fun i o v hi=>?_⟩
  ·obtain ⟨h1,rfl,_⟩:=mi i o v hi;show K.ρ (ks.getD i 0) (K.vs (ks.getD i 0))=_;rw [gD h1]
  ·obtain ⟨h1,rfl,_⟩:=mi i o v hi;show K.C (ks.getD i 0) (K.vs (ks.getD i 0))=_;rw [gD h1]
  ·obtain ⟨h1,_,_⟩:=mi i o v hi;exact (List.getElem?_eq_some_iff.1 h1).1
  ·obtain ⟨h1,rfl,h3⟩:=mi i o v hi;exact ⟨h3,yia _⟩
 have hlb:base.length=ks.length:=by
  rw [hin.length];have:∀ ks:List Nat,(picks ks objs).length=ks.length:=by
   intro ks;induction ks with
   | nil=>rfl
   | cons k ks ih=>simp [picks,ih]
  exact this ks
 have bs:∀ (i:Nat) (q:Nat × AObj),base[i]? = some q->q.1=0 ∧ ∃ o p,ks[i]? = some o∧objs[o]? = some p∧DnO (mIn ks objs) q.2 p.2∧p.2.live=true∧K.vs o=p.1∧o<K.n∧K1.ρ i 0=K.ρ o p.1∧K1.C i 0=K.C o p.1:=by
  intro i q hq;obtain ⟨h1,X,hX,hR⟩:=hin.get hq;obtain ⟨o,ho,_⟩:=picks_get hX;obtain ⟨p,hp,hl,hv,hpk,hlt'⟩:=pk i o ho;rw [hX] at hpk;simp only [yaa] at hpk;subst hpk;exact ⟨h1,o,p,ho,hp,hR,hl,hv,hlt',by show K.ρ (ks.getD i 0) (K.vs (ks.getD i 0))=_;rw [gD ho,hv],by show K.C (ks.getD i 0) (K.vs (ks.getD i 0))=_;rw [gD ho,hv]⟩
 have selN:∀ {b:Nat},selB K objs ks b->K.B b=none∧b<w.heap.size ∧ ∀ i,K.M b i=none:=by
  rintro b ⟨o,p,ho,hp,hC,rfl⟩;obtain ⟨i,hi,he⟩:=yCb ho;obtain ⟨p',hp',hl',_⟩:=pk i o (by rw [yba hi,he]);rw [hp] at hp';simp only [yaa] at hp';subst hp';exact hm.lo o p hp hl' hC
 have hm1:MemSat K1 base w:=by
  refine ⟨hlb,fun i q hq=>(bs i q hq).1,fun i q hq=>?_,fun i q hq hlv hC=>?_,fun i i' q q' hq hq' hlv hlv' hC hC' hne=>?_,hm.mem,⟨rfl,rfl,rfl,yia _,fun b x hx=>?_⟩⟩
  ·obtain ⟨h0,o,p,ho,hp,hR,hl,hv,hlt',hρ,hC⟩:=bs i q hq;rw [h0];exact hR.down hA1 (fun _ _ _ h=>h) hρ hC (hm.obj o p hp)
  ·obtain ⟨h0,o,p,ho,hp,hR,hl,hv,hlt',hρ,hCe⟩:=bs i q hq;rw [h0] at hC ⊢;rw [hCe] at hC;rw [hρ];have hs:selB K objs ks (K.ρ o p.1):=⟨o,p,Qb2 ho,hp,hC,rfl⟩;obtain ⟨q1,q2,q3⟩:=selN hs;exact ⟨if_pos hs,q2,q3⟩
  ·obtain ⟨h0,o,p,ho,hp,hR,hl,hv,hlt',hρ,hCe⟩:=bs i q hq;obtain ⟨h0',o',p',ho',hp',hR',hl',hv',hlt'',hρ',hCe'⟩:=bs i' q' hq';rw [h0] at hC ⊢;rw [h0'] at hC' ⊢;rw [hCe] at hC;rw [hCe'] at hC';rw [hρ,hρ'];refine hm.dis o o' p p' hp hp' hl hl' hC hC' ?_;rintro rfl;have h2:=(List.getElem?_eq_some_iff.1 ho);have h3:=(List.getElem?_eq_some_iff.1 ho');exact hne (Que hnd h2.1 h3.1 (h2.2.trans h3.2.symm))
  ·simp only [K1,Ctx.sel] at hx;split at hx
   ·cases hx
   ·exact hx
 have hr1:Reps K1 args vs:=by
  refine ⟨by rw [hreps.1,hargs.length],fun i y v hy hv=>?_⟩;have hi:i<args1.length:=by have:=(List.getElem?_eq_some_iff.1 hy).1;have:=hargs.length;omega
  exact hargs.get i y _ hy (yba hi) hA1 (fun _ _ _ h=>h) (hreps.2 i _ v (yba hi) hv)
 refine (h K1 w vs hm1 hr1).mono ?_;rintro e w' ⟨v,K2,rfl,hle,hm2,hrep⟩;have hsz:w.heap.size<=w'.heap.size:=by have:=hm2.below.size;rw [hle.w0] at this;exact this
 have hB:∀ b x,¬ selB K objs ks b->w.heap[b]? = some x->w'.heap[b]? = some x:=fun b x hnb hx=>hm2.below.block b x (hle.B b x (by show (if _ then _ else _)=_;rw [if_neg hnb];exact hx))
 have hM0:∀ b i x,¬ selB K objs ks b->w.heap[b]? = some x->K2.M b i=K.M b i:=fun b i x hnb hx=>hle.M0 b i x (by show (if _ then _ else _)=_;rw [if_neg hnb];exact hx)
 have blk:∀ b,b<w.heap.size -> ∃ x,w.heap[b]? = some x:=fun b hb=>⟨_,ysa hb⟩
 have notB:∀ b x,K.B b=some x -> ¬ selB K objs ks b:=fun b x hx hs=>by rw [(selN hs).1] at hx;cases hx
 have B2:∀ {b:Nat},K2.B b=none->selB K objs ks b∨w.heap.size<=b:=by
  intro b hb
  by_cases hs:selB K objs ks b
  ·exact .inl hs
  ·refine .inr ?_;rcases yGa b w.heap.size with hlt'|hge
   ·obtain ⟨x,hx⟩:=blk b hlt';have h2:=hle.B b x (by show (if _ then _ else _)=_;rw [if_neg hs];exact hx);rw [h2] at hb;cases hb
   ·exact hge
 have hn2:base'.length=K2.n:=hm2.len
 let c:=base'.length - n0
 let K3:Ctx:=K.back K2 n0 c
 have r3:∀ o v,o<K.n->K3.ρ o v=K.ρ o v:=fun o v ho=>by show (if _ then _ else _)=_;rw [if_pos ho]
 have c3:∀ o v,o<K.n->K3.C o v=K.C o v:=fun o v ho=>by show (if _ then _ else _)=_;rw [if_pos ho]
 have v3:∀ o,o<K.n->K3.vs o=K.vs o:=fun o ho=>by show (if _ then _ else _)=_;rw [if_pos ho]
 have r3':∀ j v,K3.ρ (K.n+j) v=K2.ρ (n0+j) 0:=fun j v=>by show (if _ then _ else _)=_;rw [if_neg oA,show K.n+j - K.n=j by omega]
 have c3':∀ j v,K3.C (K.n+j) v=K2.C (n0+j) 0:=fun j v=>by show (if _ then _ else _)=_;rw [if_neg oA,show K.n+j - K.n=j by omega]
 have idρ:∀ (i o:Nat),i<n0->ks[i]? = some o->K2.ρ i 0=K.ρ o (K.vs o)∧K2.C i 0=K.C o (K.vs o):=by
  intro i o hi ho;have e1:=hle.ρ i 0 hi (yna _);have e2:=hle.C i 0 hi (yna _);rw [e1,e2];constructor
  ·show K.ρ (ks.getD i 0) (K.vs (ks.getD i 0))=_;rw [gD ho]
  ·show K.C (ks.getD i 0) (K.vs (ks.getD i 0))=_;rw [gD ho]
 have mo:∀ (i o v:Nat),(mOut ks n0 objs c)[i]? = some (o,v)->(i<n0∧ks[i]? = some o∧v=K.vs o∧o<K.n)∨(n0<=i∧o=K.n+(i - n0)∧v=0∧i - n0<c):=by
  intro i o v hi;have htl:((mIn ks objs).take n0).length=n0:=by rw [yAa,mIn_length];omega
  unfold mOut at hi
  by_cases h0:i<n0
  ·rw [ypa oA,yKa,if_pos h0] at hi;obtain ⟨q1,q2,q3⟩:=mi i o v hi;exact .inl ⟨h0,q1,q2,q3⟩
  ·rw [yva oA,htl] at hi;obtain ⟨q1,q2,q3⟩:=mNew_get hi;exact .inr ⟨by omega,by rw [q1,hKn],q2,q3⟩
 have hA2:Agree (mOut ks n0 objs c) K2 K3:=by
  refine ⟨fun i o v hi=>?_,fun i o v hi=>?_,fun i o v hi=>?_,fun i o v hi=>?_⟩
  ·rcases mo i o v hi with ⟨q1,q2,rfl,q4⟩|⟨q1,rfl,rfl,q4⟩
   ·rw [r3 o _ q4];exact (idρ i o q1 q2).1
   ·rw [r3',show n0+(i - n0)=i by omega]
  ·rcases mo i o v hi with ⟨q1,q2,rfl,q4⟩|⟨q1,rfl,rfl,q4⟩
   ·rw [c3 o _ q4];exact (idρ i o q1 q2).2
   ·rw [c3',show n0+(i - n0)=i by omega]
  ·rcases mo i o v hi with ⟨q1,_,_,_⟩|⟨q1,_,_,q4⟩
   ·omega
   ·have:c=base'.length - n0:=rfl;omega
  ·rcases mo i o v hi with ⟨q1,q2,rfl,q4⟩|⟨q1,rfl,rfl,q4⟩
   ·exact ⟨by show o<K.n+c;omega,by rw [v3 o q4];exact yia _⟩
   ·exact ⟨by show K.n+(i - n0)<K.n+c;omega,yna _⟩
 have hKL:K.le K3:=⟨hle.M,fun o v ho _=>r3 o v ho,fun o v ho _=>c3 o v ho,by show K.n<=K.n+c;omega,fun o ho=>by rw [v3 o ho];exact yia _,rfl,fun _ _ h=>h,fun b i x hx=>hM0 b i x (notB b x hx) (hm.below.block b x hx)⟩;have hxl:=hout.length
 have ob:∀ (o:Nat) (q:Nat × AObj),(moved ks n0 xs objs)[o]? = some q ->
   (o<K.n∧o ∉ ks∧objs[o]? = some q) ∨
   (o<K.n∧q.1=K.vs o ∧ ∃ i Y,i<n0∧ks[i]? = some o∧base'[i]? = some (0,Y)∧RenO (mOut ks n0 objs c) Y q.2) ∨
   (o<K.n∧q.1=K.vs o∧q.2 = .dead) ∨
   (∃ j Y,o=K.n+j∧j<c∧q.1=0∧base'[n0+j]? = some (0,Y)∧RenO (mOut ks n0 objs c) Y q.2):=by
  intro o q hq;unfold moved at hq
  by_cases ho:o<K.n
  ·rw [ypa (by rw [Qv8];omega),mvd_get,yda] at hq;cases hp:objs[o]? with
   | none=>rw [hp] at hq;simp at hq
   | some p =>
    rw [hp] at hq;simp only [yBa,yaa] at hq;subst hq;have hver:=hm.ver o p hp;unfold mvd1;cases hid:idxN ks o 0 with
    | none=>exact .inl ⟨ho,idxN_none hid,rfl⟩
    | some i =>
     have hki:=(idxN_some hid).2;rw [yGb] at hki;cases hb:Nat.blt i n0 with
     | false =>
      exact .inr (.inr (.inl ⟨ho,by simp only [hb,cond_false];exact hver,by simp only [hb,cond_false]⟩))
     | true =>
      simp only [hb,cond_true];have hi:i<n0:=by simpa using hb
      have hib:i<base'.length:=by omega
      obtain ⟨h0,X,hX,hR⟩:=hout.get (yba hib);refine .inr (.inl ⟨ho,hver,i,base'[i].2,hi,hki,?_,?_⟩)
      ·rw [yba hib,← h0]
      ·rw [show xs.getD i .dead=X by simp [List.getD,hX]];exact hR
  ·rw [yva (by rw [Qv8];omega),Qv8,laid_get,hKn,yMa] at hq;cases hx:xs[n0+(o - K.n)]? with
   | none=>rw [hx] at hq;simp at hq
   | some X =>
    rw [hx] at hq;simp only [yBa,yaa] at hq;subst hq;have hlt':n0+(o - K.n)<base'.length:=by have:=(List.getElem?_eq_some_iff.1 hx).1;omega
    obtain ⟨h0,X',hX',hR⟩:=hout.get (yba hlt');rw [hx] at hX';simp only [yaa] at hX';subst hX';exact .inr (.inr (.inr ⟨o - K.n,base'[n0+(o - K.n)].2,by omega,by have:c=base'.length - n0:=rfl;omega,rfl,by rw [yba hlt',← h0],hR⟩))
 have oldB:∀ {o:Nat} {p:Nat × AObj},objs[o]? = some p->p.2.live=true->K.C o p.1 ≠ 0->o ∉ ks -> ¬ selB K objs ks (K.ρ o p.1):=by
  rintro o p hp hl hC hk ⟨o2,p2,ho2,hp2,hC2,he⟩;obtain ⟨i,hi,hie⟩:=yCb ho2;obtain ⟨p',hp',hl',_⟩:=pk i o2 (by rw [yba hi,hie]);rw [hp2] at hp';simp only [yaa] at hp';subst hp';exact hm.dis o o2 p p2 hp hp2 hl hl' hC hC2 (fun e=>hk (e ▸ ho2)) he
 have place:∀ (o:Nat) (q:Nat × AObj),(moved ks n0 xs objs)[o]? = some q->q.2.live=true->K3.C o q.1 ≠ 0 ->
   (o<K.n∧o ∉ ks∧objs[o]? = some q∧K3.ρ o q.1=K.ρ o q.1∧K.C o q.1 ≠ 0)∨(∃ i Y,base'[i]? = some (0,Y)∧Y.live=true∧K3.ρ o q.1=K2.ρ i 0∧K2.C i 0 ≠ 0∧((i<n0∧ks[i]? = some o)∨(n0<=i∧o=K.n+(i - n0)))):=by
  intro o q hq hlv hC;rcases ob o q hq with ⟨h1,h2,h3⟩|⟨h1,h2,i,Y,h3,h4,h5,h6⟩|⟨h1,h2,h3⟩|⟨j,Y,rfl,h2,h3,h4,h5⟩
  ·rw [c3 o _ h1] at hC;exact .inl ⟨h1,h2,h3,r3 o _ h1,hC⟩
  ·rw [c3 o _ h1,h2,← (idρ i o h3 h4).2] at hC;exact .inr ⟨i,Y,h5,by rw [h6.live];exact hlv,by rw [r3 o _ h1,h2];exact (idρ i o h3 h4).1.symm,hC,.inl ⟨h3,h4⟩⟩
  ·rw [h3] at hlv;cases hlv
  ·rw [c3'] at hC;exact .inr ⟨n0+j,Y,h4,by rw [h5.live];exact hlv,r3' j _,hC,.inr ⟨by omega,by omega⟩⟩
 refine ⟨v,rc,moved ks n0 xs objs,K3,rfl,hKL,⟨?_,fun o q hq=>?_,fun o q hq=>?_,fun o q hq hlv hC=>?_,fun o o' q q' hq hq' hlv hlv' hC hC' hne=>?_,hm2.mem,⟨?_,?_,?_,yea hm.below.size hsz,fun b x hx=>hB b x (notB b x hx) (hm.below.block b x hx)⟩⟩,hr.up hA2 (fun _ _ _ h=>h) hrep,rfl,rfl⟩
 ·show (moved ks n0 xs objs).length=K.n+c;unfold moved;rw [yma,Qv8,Qme,yEa,hKn,← hxl]
 ·rcases ob o q hq with ⟨h1,h2,h3⟩|⟨h1,h2,_⟩|⟨h1,h2,h3⟩|⟨j,Y,rfl,h2,h3,_⟩
  ·rw [v3 o h1];exact hm.ver o q h3
  ·rw [v3 o h1];exact h2
  ·rw [v3 o h1];exact h2
  ·rw [h3];show 0=(if _ then _ else _);rw [if_neg oA]
 ·rcases ob o q hq with ⟨h1,h2,h3⟩|⟨h1,h2,i,Y,h3,h4,h5,h6⟩|⟨h1,h2,h3⟩|⟨j,Y,rfl,h2,h3,h4,h5⟩
  ·refine (hm.obj o q h3).mono hKL h1 (by rw [hm.ver o q h3];exact yia _) (fun hlv hC=>?_);obtain ⟨x,hx⟩:=blk _ (hm.lo o q h3 hlv hC).2.1;rw [hx];exact hB _ x (oldB h3 hlv hC h2) hx
  ·have hs:=hm2.obj i _ h5;exact h6.up hA2 (fun _ _ _ h=>h) (by rw [r3 o _ h1,h2];exact (idρ i o h3 h4).1) (by rw [c3 o _ h1,h2];exact (idρ i o h3 h4).2) hs
  ·rw [h3];trivial
  ·have hs:=hm2.obj _ _ h4;rw [h3];exact h5.up hA2 (fun _ _ _ h=>h) (r3' j 0).symm (c3' j 0).symm hs
 ·rcases place o q hq hlv hC with ⟨h1,h2,h3,h4,h5⟩|⟨i,Y,h1,h2,h3,h4,h5⟩
  ·obtain ⟨q1,q2,q3⟩:=hm.lo o q h3 hlv h5;rw [h4];obtain ⟨x,hx⟩:=blk _ q2;exact ⟨q1,yUa q2 hsz,fun j=>(hM0 _ j x (oldB h3 hlv h5 h2) hx).trans (q3 j)⟩
  ·obtain ⟨q1,q2,q3⟩:=hm2.lo i _ h1 h2 h4;rw [h3];refine ⟨?_,q2,q3⟩;rcases B2 q1 with hs|hge
   ·exact (selN hs).1
   ·exact hm.below.fresh hge
 ·have mixed:∀ (o o':Nat) (q q':Nat × AObj),(o<K.n∧o ∉ ks∧objs[o]? = some q∧K3.ρ o q.1=K.ρ o q.1∧K.C o q.1 ≠ 0)->q.2.live=true->(∃ i Y,base'[i]? = some (0,Y)∧Y.live=true∧K3.ρ o' q'.1=K2.ρ i 0∧K2.C i 0 ≠ 0∧((i<n0∧ks[i]? = some o')∨(n0<=i∧o'=K.n+(i - n0))))->K3.ρ o q.1 ≠ K3.ρ o' q'.1:=by
   rintro o o' q q' ⟨h1,h2,h3,h4,h5⟩ hl ⟨i,Y,g1,g2,g3,g4,_⟩ he;rw [h4,g3] at he;obtain ⟨q1,q2,q3⟩:=hm2.lo i _ g1 g2 g4;rw [← he] at q1;rcases B2 q1 with hs|hge
   ·exact oldB h3 hl h5 h2 hs
   ·have:=(hm.lo o q h3 hl h5).2.1;omega
  rcases place o q hq hlv hC with h|h
  ·rcases place o' q' hq' hlv' hC' with h'|h'
   ·obtain ⟨h1,h2,h3,h4,h5⟩:=h;obtain ⟨h1',h2',h3',h4',h5'⟩:=h';rw [h4,h4'];exact hm.dis o o' q q' h3 h3' hlv hlv' h5 h5' hne
   ·exact mixed o o' q q' h hlv h'
  ·rcases place o' q' hq' hlv' hC' with h'|h'
   ·exact fun e=>mixed o' o q' q h' hlv' h e.symm
   ·obtain ⟨i,Y,h1,h2,h3,h4,h5⟩:=h;obtain ⟨i',Y',h1',h2',h3',h4',h5'⟩:=h';rw [h3,h3'];refine hm2.dis i i' _ _ h1 h1' h2 h2' h4 h4' ?_;rintro rfl;rcases h5 with ⟨a1,a2⟩|⟨a1,a2⟩
    ·rcases h5' with ⟨b1,b2⟩|⟨b1,b2⟩
     ·rw [a2] at b2;simp only [yaa] at b2;exact hne b2
     ·omega
    ·rcases h5' with ⟨b1,b2⟩|⟨b1,b2⟩
     ·omega
     ·exact hne (a2.trans b2.symm)
 ·have:=hm2.below.os;rw [hle.w0] at this;exact this.trans hm.below.os
 ·have:=hm2.below.tape;rw [hle.w0] at this;exact this.trans hm.below.tape
 ·have:=hm2.below.output;rw [hle.w0] at this;exact this.trans hm.below.output
theorem QE1 {objs:Objs} {n:Nat} {ks:List Nat} {t:TypeId} {k:Nat} {xs ys:List AVal} (h:TurnCs objs n ks xs ys):TurnO objs n ks (.row t k [xs]) (.row t k [ys]):=.row _ _ _ _ (.cons _ _ _ _ h .nil)
theorem Qs0 {α:Type} (enc:α->AVal) (eo:α->Objs) {n0:Nat} {R leaf:α} {r0:AVal} {o:Objs} (e:leaf=R) (h:Told n0 r0 o (enc leaf) (eo leaf)):∃ r objs',Told n0 r0 o r objs'∧(r=enc R∧objs'=eo R):=by
 subst e;exact ⟨_,_,h,rfl,rfl⟩
theorem ACalls.use {P:Program} {f:FuncId} {args:List AVal} {objs:Objs} {r:AVal} {o:Objs} {K:AVal->Objs->Prop} (h:ACalls P f args objs fun r' o'=>r'=r∧o'=o) (k:K r o):ACalls P f args objs K :=
 h.mono fun _ _ ⟨e1,e2⟩=>by subst e1 e2;exact k
theorem turn_as {objs:Objs} {n:Nat} {ks:List Nat} {x y:AVal} (h:AsA x y) (hl:Low n y):TurnV objs n ks x y:=fun K w v hm hr=>Qg3 hl K w v hm (h K v hr)
theorem seen_as {objs:Objs} {x y:AVal} (h:AsA x y):Seen objs x y:=fun K w v hm hr=>(h K v hr).mono (QS8 K objs w)
theorem Qn7 {α:Type} {objs:Objs} {n:Nat} {ks:List Nat} {o ver k len:Nat} {t:TypeId} {es:List (List AVal)} {c:α->List AVal} (d:α) (l:List α) (hp:objs[o]? = some (ver,.row t k es)) (hn:n<=o) (hk:o ∉ ks) (he:es=l.map c) (hc:∀ x,LowL n (c x)) (hlen:len=l.length) :
  TurnV objs n ks (.own o ver k 0 len) (listA k c d l) :=
 turn_list d l hp hn hk (by subst he;exact .map (fun x=>.low (hc x)) l) hlen
theorem QK5 {α:Type} {k n:Nat} {t:Bool} {f:Nat->List AVal} {c:α->List AVal} {d:α} (l:List α) (h:(List.range n).map f=l.map c):AsA (.seq k n t f) (listA k c d l):=by
 have hn:n=l.length:=by have:=congrArg List.length h;simpa using this
 refine as_list l hn fun i hi=>?_
 have h1:((List.range n).map f)[i]? = some (f i):=by simp [hi]
 rw [h] at h1;have hl:i<l.length:=by omega
 simp [yba hl] at h1;simp [List.getD,yba hl,h1]
theorem AMoves.on {P:Program} {f:FuncId} {args args1:List AVal} {base objs base':Objs} {n0:Nat} {r rc:AVal} {xs:List AObj} (ks:List Nat) (h:AMoves P f args base n0 r base')
  (hnd:ks.Nodup) (hlt:(ks.all fun k=>Nat.blt k objs.length)=true) (hn0:Nat.ble n0 ks.length=true) (hn1:Nat.ble n0 base'.length=true)
  (hin:DnOs (mIn ks objs) base (picks ks objs)) (hlive:Qxa (picks ks objs)=true) (hargs:DnL (mIn ks objs) args args1)
  (hout:RenOs (mOut ks n0 objs (base'.length - n0)) base' xs) (hr:Ren (mOut ks n0 objs (base'.length - n0)) r rc) :
  ACalls P f args1 objs fun r' o'=>r'=rc∧o'=moved ks n0 xs objs :=
 AMoves.at ks h hnd (fun k hk=>by have:=List.all_eq_true.1 hlt k hk;simpa using this) (yfa hn0) (yfa hn1) hin hlive hargs hout hr
theorem turn_map {objs:Objs} {n:Nat} {ks:List Nat} {o:Nat} {p:AObj} (i:Nat) (hi:ks[i]? = some o) (hp:objs[o]? = some (0,p)):TurnV objs n ks (.map o) (.map (n+i)):=by
 intro K w v hm hr;have hver:0=K.vs o:=hm.ver o _ hp;have hlt:i<ks.length:=(List.getElem?_eq_some_iff.1 hi).1;have hg:ks.getD i 0=o:=by simp [List.getD,hi]
 obtain ⟨rfl,_⟩:=Qpc hr;have:=Rep.map (K:=K.shed w objs n ks) (n+i) (by simp [Ctx.shed];omega);simp only [Ctx.shed,if_neg (show ¬ n+i<n by omega),show n+i - n=i by omega,hg,← hver] at this;exact this
theorem AGives.as2 {P:Program} {f:FuncId} {args args':List AVal} {objs:Objs} {r:AVal} (h:AGives P f args' objs r) (ha:AsL args args'):AGives P f args objs r:=AGives.as ha h
theorem Told.pad {n0:Nat} {r0 r:AVal} {objs objs':Objs} (t:TypeId) (k:Nat) (h:Told n0 r0 (objs++[(0,.row t k [])]) r objs'):Told n0 r0 objs r objs':=by
 intro K0 K w v h0 hle hm hrep;exact h K0 (K.newObj 0 0) w v h0 (hle.trans (Q92 K 0 0)) (hm.addNone t k) (hrep.mono (Q92 K 0 0))
theorem elemI_map {α:Type} {c:α->List AVal} {l:List α} {i:Nat} (d:α) (h:i<l.length):elemI (l.map c) i=some (c (l.getD i d)):=by
 rw [Q7b];simp [List.getD,yba h]
theorem Qo0 {α:Type} {c:α->List AVal} {l:List α} {i:Nat} (d:α) (j:Nat) (e:i=j) (h:j<l.length):elemI (l.map c) i=some (c (l.getD j d)):=by
 subst e;exact elemI_map d h
theorem QD7 {α:Type} {c:α->List AVal} {l:List α} {i:Nat} {y:List AVal} (j:Nat) (x:α) (e:i=j) (h:y=c x):(l.map c).set i y=(l.set j x).map c:=by
 subst e h;rw [List.map_set]
theorem wru {n:Int} (h:0<=n∧n<18446744073709551616):wu64 n=n:=by
 simp only [IntKind.wrap,IntKind.bits,IntKind.signed];simp;omega
theorem QHa {i j n:Int} (h0:0<=i) (h1:i<j) (h2:j<=n) (hn:n<=4294967296):w64 (Int.fdiv (wu64 (w64 (i+j))) (2 ^ (min (Int.toNat 1) 64)))=(i+j) / 2:=by
 have e1:w64 (i+j)=i+j:=wr oA;have e2:wu64 (i+j)=i+j:=wru oA;have e3:(2:Int) ^ (min (Int.toNat 1) 64)=2:=rfl;rw [e1,e2,e3,Int.fdiv_eq_ediv_of_nonneg _ oA];exact wr oA
theorem app_eq {α:Type} {a b c d:List α} (h1:a=c) (h2:b=d):a++b=c++d:=by rw [h1,h2]
theorem encode_size (r:Int):(Utf8.encode r).size<=4:=by
 unfold Utf8.encode;simp only
 repeat' split
 all_goals exact yfa rfl
theorem Q06 (ns:List Int):(runesBytes ns).size<=4*ns.length:=by
 unfold runesBytes;have:∀ (l:List Int) (b:ByteArray),(l.foldl (fun r n=>r++Utf8.encode n) b).size<=b.size+4*l.length:=by
  intro l
  induction l with
  | nil=>intro b;simp
  | cons x r ih =>
   intro b;simp only [yBb,yLa];refine yea (ih _) ?_;have:=encode_size x;simp only [ByteArray.size_append];omega
 have h:=this ns ByteArray.empty;simpa using h
def mapEs {α β:Type} (ek:α->Value) (ev:β->AVal):Nat->List (α × β)->List (Value × AVal × Nat)
 | _,[]=>[]
 | i,p :: r=>(ek p.1,ev p.2,i) :: mapEs ek ev (i+1) r
def setM {α β:Type} [BEq α] (k:α) (v:β):List (α × β)->List (α × β)
 | []=>[(k,v)]
 | p :: r=>bif k==p.1 then (k,v) :: r else p :: setM k v r
def getM {α β:Type} [BEq α] (k:α):List (α × β)->Option β
 | []=>none
 | p :: r=>bif k==p.1 then some p.2 else getM k r
def ik (n:Int):Value:=.int .i64 n
def sk (s:ByteArray):Value:=.string s
class Keys {α:Type} [BEq α] (ek:α->Value):Prop where
 same:∀ a b,sameK (ek a) (ek b)=(a==b)
instance:Keys ik:=⟨fun _ _=>rfl⟩
instance:Keys sk:=⟨fun _ _=>rfl⟩
section
variable {α β:Type} [BEq α] {ek:α->Value} [Keys ek] {ev:β->AVal}
omit [BEq α] [Keys ek] in
theorem mapEs_append (s:Nat) (l:List (α × β)) (p:α × β):mapEs ek ev s (l++[p])=mapEs ek ev s l++[(ek p.1,ev p.2,s+l.length)]:=by
 induction l generalizing s with
 | nil=>simp [mapEs]
 | cons q r ih=>simp [mapEs,ih];omega
theorem find_none (k:α) (v:β) (l:List (α × β)):∀ s j,findM (ek k) (mapEs ek ev s l) j=none->setM k v l=l++[(k,v)]∧getM k l=none:=by
 induction l with
 | nil=>intro s j _;exact ⟨rfl,rfl⟩
 | cons p r ih =>
  intro s j h;simp only [mapEs,findM,Keys.same] at h;cases hk:(k==p.1) with
  | true=>rw [hk] at h;cases h
  | false =>
   rw [hk] at h;obtain ⟨h1,h2⟩:=ih _ _ h;simp [setM,getM,hk,h1,h2]
theorem find_some (k:α) (v:β) (l:List (α × β)):∀ s j i y st,findM (ek k) (mapEs ek ev s l) j=some (i,y,st) ->
  ∃ n v',i=j+n∧st=s+n∧y=ev v'∧getM k l=some v'∧(mapEs ek ev s l).set n (ek k,ev v,st)=mapEs ek ev s (setM k v l)∧(setM k v l).length=l.length:=by
 induction l with
 | nil=>intro s j i y st h;cases h
 | cons p r ih =>
  intro s j i y st h;simp only [mapEs,findM,Keys.same] at h;cases hk:(k==p.1) with
  | true =>
   rw [hk] at h;simp only [cond_true,yaa,yDa] at h;obtain ⟨rfl,rfl,rfl⟩:=h;exact ⟨0,p.2,by simp,by simp,rfl,by simp [getM,hk],by simp [mapEs,setM,hk],by simp [setM,hk]⟩
  | false =>
   rw [hk] at h;obtain ⟨n,v',h1,h2,h3,h4,h5,h6⟩:=ih _ _ _ _ _ h;refine ⟨n+1,v',by omega,by omega,h3,by simp [getM,hk,h4],?_,by simp [setM,hk,h6]⟩;simp [mapEs,setM,hk,h5]
theorem Qx6 (k:α) (v:β) (l:List (α × β)) {x:AVal} {c:Nat} (hx:x=ev v) (hc:c=l.length):putM (ek k) x (mapEs ek ev 0 l) c=(mapEs ek ev 0 (setM k v l),(setM k v l).length):=by
 subst hx hc;unfold putM;cases h:findM (ek k) (mapEs ek ev 0 l) 0 with
 | none =>
  obtain ⟨h1,_⟩:=find_none k v l _ _ h;simp [h1,mapEs_append]
 | some q =>
  obtain ⟨i,y,st⟩:=q;obtain ⟨n,v',rfl,rfl,rfl,_,h5,h6⟩:=find_some k v l _ _ _ _ _ h;simp only [yda] at h5 ⊢;rw [h5,h6]
theorem QL0 (k:α) (l:List (α × β)) {z:AVal} (d:β) (hz:AsA z (ev d)):LookP (ek k) (mapEs ek ev 0 l) z (ev ((getM k l).getD d)) (getM k l).isSome:=by
 unfold LookP;cases h:findM (ek k) (mapEs ek ev 0 l) 0 with
 | none =>
  obtain ⟨_,h2⟩:=find_none k d l _ _ h;simp only [h2];exact ⟨hz,rfl⟩
 | some q =>
  obtain ⟨i,y,st⟩:=q;obtain ⟨n,v',_,_,rfl,h4,_,_⟩:=find_some k d l _ _ _ _ _ h;simp only [h4];exact ⟨fun _ _ h=>h,rfl⟩
end
theorem Qc1 {β:Type} {P:Program} {kt:TypeId} {ev:β->AVal} (hk:P.underlying kt=some (.int .i64)) (k:Int) (l:List (Int × β)):QHc P kt (.int .i64 k) (mapEs ik ev 0 l):=by
 unfold QHc;rw [hk];have:∀ s,((mapEs ik ev s l).all fun e=>keyOK (some (.int .i64)) e.1)=true:=by
  induction l with
  | nil=>intro s;rfl
  | cons p r ih=>intro s;rw [mapEs,List.all_cons,ih];rfl
 rw [this];rfl
theorem Qu6 {β:Type} {P:Program} {kt:TypeId} {ev:β->AVal} (hk:P.underlying kt=some .string) (k:ByteArray) (l:List (ByteArray × β)):QHc P kt (.string k) (mapEs sk ev 0 l):=by
 unfold QHc;rw [hk];have:∀ s,((mapEs sk ev s l).all fun e=>keyOK (some .string) e.1)=true:=by
  induction l with
  | nil=>intro s;rfl
  | cons p r ih=>intro s;rw [mapEs,List.all_cons,ih];rfl
 rw [this];rfl
theorem Qz8 {α β:Type} {objs:Objs} {n:Nat} {ks:List Nat} {ek:α->Value} {ev:β->AVal} {es:List (Value × AVal × Nat)} {c:Nat} (l:List (α × β)) (he:es=mapEs ek ev 0 l) (hc:c=l.length) (hl:∀ x,Low n (ev x)):TurnO objs n ks (.other (.map es c)) (.other (.map (mapEs ek ev 0 l) l.length)):=by
 subst he hc;refine .map _ _ _ rfl fun i k y st h=>⟨y,h,Qg3 ?_⟩
 have:∀ (s:Nat) (l:List (α × β)) (i:Nat),(mapEs ek ev s l)[i]? = some (k,y,st)->Low n y:=by
  intro s l
  induction l generalizing s with
  | nil=>intro i h;simp [mapEs] at h
  | cons p r ih =>
   intro i h;cases i with
   | zero=>simp [mapEs] at h;rw [← h.2.1];exact hl _
   | succ i=>simp [mapEs] at h;exact ih _ _ h
 exact this 0 l i h
end Go.Fw
namespace Go.Fw
set_option linter.unusedSimpArgs false
set_option linter.unusedVariables false
variable {α β:Type} {ek:α->Value} {ev:β->AVal}
theorem Qvb {k:Value} {x:AVal} {st:Nat} (d:α × β):∀ {l:List (α × β)} {s:Nat},(k,x,st) ∈ mapEs ek ev s l -> ∃ j,st=s+j∧j<l.length∧k=ek (l.getD j d).1∧x=ev (l.getD j d).2
 | [],s,h=>by simp [mapEs] at h
 | p :: l,s,h=>by
  simp only [mapEs,y6b,yDa] at h;rcases h with ⟨rfl,rfl,rfl⟩|h
  ·exact ⟨0,by simp,by simp,by simp,by simp⟩
  ·obtain ⟨j,rfl,hj,rfl,rfl⟩:=Qvb d h;exact ⟨j+1,by omega,by simp;omega,by simp,by simp⟩
theorem mapEs_get (d:α × β):∀ {l:List (α × β)} {s j:Nat},j<l.length->(ek (l.getD j d).1,ev (l.getD j d).2,s+j) ∈ mapEs ek ev s l
 | [],s,j,h=>absurd h (by simp)
 | p :: l,s,0,h=>by simp [mapEs]
 | p :: l,s,j+1,h=>by
  have:=mapEs_get d (l:=l) (s:=s+1) (j:=j) (by simpa using h);rw [show s+1+j=s+(j+1) by omega] at this;simp only [mapEs,y6b];exact Or.inr (by simpa using this)
theorem Qre (d:α × β):∀ {l:List (α × β)} {s j:Nat},j<l.length->findB (s+j) (mapEs ek ev s l)=some (ek (l.getD j d).1,ev (l.getD j d).2)
 | [],s,j,h=>absurd h (by simp)
 | p :: l,s,0,h=>by simp [mapEs,findB]
 | p :: l,s,j+1,h=>by
  have:=Qre d (l:=l) (s:=s+1) (j:=j) (by simpa using h);rw [show s+1+j=s+(j+1) by omega] at this;have hb:Nat.beq s (s+(j+1))=false:=by
   cases hq:Nat.beq s (s+(j+1)) with
   | false=>rfl
   | true=>have:=yla hq;omega
  simp only [mapEs,findB,hb];simpa using this
theorem map_round {l:List (α × β)} (d:α × β) {seen:Array Nat} {A:Value->AVal->Nat->Prop} {B:Prop}
  (hA:∀ j,j<l.length->seen.contains j=false->A (ek (l.getD j d).1) (ev (l.getD j d).2) j) (hB:(∀ j,j<l.length->seen.contains j=true)->B) :
  ((mapEs ek ev 0 l).all (fun e=>decide (e.2.2<l.length))&&(seen.isEmpty||(mapEs ek ev 0 l).isEmpty || !((mapEs ek ev 0 l).all fun e=>decide (e.2.2 >= l.length))))=true ∧
  (∀ k x st,(k,x,st) ∈ (mapEs ek ev 0 l).filter (fun e=>!seen.contains e.2.2)->A k x st)∧((mapEs ek ev 0 l).filter (fun e=>!seen.contains e.2.2)=[]->B):=by
 have hlt:∀ e ∈ mapEs ek ev 0 l,e.2.2<l.length:=by
  rintro ⟨k,x,st⟩ he;obtain ⟨j,rfl,hj,_,_⟩:=Qvb d he;simpa using hj
 refine ⟨?_,fun k x st h=>?_,fun h=>hB fun j hj=>?_⟩
 ·rw [yha];refine ⟨List.all_eq_true.2 fun e he=>yoa (hlt e he),?_⟩;cases hm:mapEs ek ev 0 l with
  | nil=>simp
  | cons e r =>
   have h1:=hlt e (by rw [hm];exact yIa);rw [yQa];right;simp only [List.all_cons,ydb,Bool.and_eq_false_iff];left;exact y7b oA
 ·obtain ⟨h1,h2⟩:=List.mem_filter.1 h;obtain ⟨j,rfl,hj,rfl,rfl⟩:=Qvb d h1;simp only [yda] at h2 ⊢;exact hA j hj (by simpa using h2)
 ·have h1:=mapEs_get (ek:=ek) (ev:=ev) d (s:=0) hj;cases hc:seen.contains j with
  | true=>rfl
  | false =>
   have:(ek (l.getD j d).1,ev (l.getD j d).2,0+j) ∈ (mapEs ek ev 0 l).filter (fun e=>!seen.contains e.2.2):=List.mem_filter.2 ⟨h1,by show (!seen.contains (0+j))=true;rw [yda,hc];rfl⟩;rw [h] at this;cases this
theorem entry_map {l:List (α × β)} (d:α × β) {objs:Objs} {i ob since c j:Nat} {seen:Array Nat} (hi:objs[i]? = some (0,.other (.mapIter ob since (seen.push j) c))) (hm:Qoa objs ob=some (mapEs ek ev 0 l,c)) (hj:j<l.length) :
  entryA (.ptr i 0 1 0 0) objs=some (.tup [.lit (ek (l.getD j d).1),ev (l.getD j d).2]):=by
 unfold entryA;simp only [hi,hm,Array.back?_push];have h1:Nat.beq c c=true:=Nat.beq_refl c;have h2:=Qre (ek:=ek) (ev:=ev) d (s:=0) hj;rw [yda] at h2;rw [h1,h2]
def unseen (n:Nat) (seen:Array Nat):Nat:=((List.range n).filter fun j=>!seen.contains j).length
theorem unseen_push {n j:Nat} {seen:Array Nat} (hj:j<n) (hs:seen.contains j=false):unseen n (seen.push j)<unseen n seen:=by
 unfold unseen;have h1:((List.range n).filter fun i=>!(seen.push j).contains i)=(((List.range n).filter fun i=>!seen.contains i).filter fun i=>!(i==j)):=by
  rw [List.filter_filter]
  congr 1
  funext i
  rw [Array.contains_push];cases seen.contains i <;> cases h:(i==j) <;> simp_all
 rw [h1];refine List.length_filter_lt_length_iff_exists.2 ⟨j,List.mem_filter.2 ⟨List.mem_range.2 hj,by show (!seen.contains j)=true;rw [hs];rfl⟩,by simp⟩
theorem all_f {l:List (α × β)} {d:α × β} {p:α × β->Bool} {j:Nat} (hj:j<l.length) (h:p (l.getD j d)=false):l.all p=false:=by
 rw [List.all_eq_false];have e:l.getD j d=l[j]:=by simp [List.getD,yba hj]
 exact ⟨l[j],ycb hj,by rw [← e,h];simp⟩
theorem all_t {l:List (α × β)} {d:α × β} {p:α × β->Bool} {seen:Array Nat} (hs:∀ j,j<l.length->seen.contains j=true) (h:∀ j,j<l.length->seen.contains j=true->p (l.getD j d)=true):l.all p=true:=by
 rw [y7a];intro e he;obtain ⟨j,hj,rfl⟩:=yCb he;have:=h j hj (hs j hj);simpa [List.getD,yba hj] using this
theorem seen_push {l:List (α × β)} {d:α × β} {p:α × β->Bool} {seen:Array Nat} {j:Nat} (h:∀ i,i<l.length->seen.contains i=true->p (l.getD i d)=true) (hp:p (l.getD j d)=true):∀ i,i<l.length->(seen.push j).contains i=true->p (l.getD i d)=true:=by
 intro i hi hc;rw [Array.contains_push,yQa] at hc;rcases hc with hc|hc
 ·exact h i hi hc
 ·rw [eq_of_beq hc];exact hp
theorem Qd3 {n:Nat} {l:List (α × β)} {c:Nat} (h:∀ x,Low n (ev x)):QXa n (.other (.map (mapEs ek ev 0 l) c)):=by
 rintro ⟨k,x,st⟩ he;cases l with
 | nil=>simp [mapEs] at he
 | cons p r =>
  obtain ⟨j,_,_,_,rfl⟩:=Qvb p he;exact h _
theorem Qv2 {α:Type} {c:α->List AVal} {l:List α} {i:Nat} {y:List AVal} (d:α) (j:Nat) (e:i=j) (h:j<l.length) (hy:y=c (l.getD j d)):(l.map c).set i y=l.map c:=by
 subst e hy;rw [show c (l.getD i d)=(l.map c)[i]'(by simpa using h) by simp [List.getD,yba h]];exact List.set_getElem_self _
theorem dn_sel {m:List (Nat × Nat)} {i o v k a b:Nat} (h:m[i]? = some (o,v)):Dn m (.sel i 0 k a b) (.sel o v k a b):=Qha (.sel _ _ _ _ _ _ h)
theorem sel_of_ptr {K:Ctx} {o ver k i j:Nat} {v:Value} (h:Rep K (.ptr o ver k i j) v):Rep K (.sel o ver k i j) v:=by
 cases h with
 | ptr _ _ _ _ _ ho hv=>exact .selPtr _ _ _ _ _ ho hv
theorem QVa {objs:Objs} {n:Nat} {ks:List Nat} {o ver k i' j:Nat} {p:AObj} (i:Nat) (hi:ks[i]? = some o) (hp:objs[o]? = some (ver,p)):TurnV objs n ks (.ptr o ver k i' j) (.sel (n+i) 0 k i' j):=fun K w v hm hr=>sel_of_ptr (Qy0 i hi hp K w v hm hr)
theorem turn_selnil {objs:Objs} {n:Nat} {ks:List Nat} {o k i' j:Nat}:TurnV objs n ks (.lit (.pointer none)) (.sel o 0 k i' j):=by
 intro K w v hm hr;cases hr with
 | lit=>exact .selNil _ _ _ _ _
theorem turn_sel {objs:Objs} {n:Nat} {ks:List Nat} {o ver k i' j:Nat} {p:AObj} (i:Nat) (hi:ks[i]? = some o) (hp:objs[o]? = some (ver,p)):TurnV objs n ks (.sel o ver k i' j) (.sel (n+i) 0 k i' j):=by
 intro K w v hm hr;cases hr with
 | selNil=>exact .selNil _ _ _ _ _
 | selPtr _ _ _ _ _ ho hv=>exact QVa i hi hp K w _ hm (.ptr _ _ _ _ _ ho hv)
theorem Q7a {K:Ctx} {o ver k len:Nat} {v:Value} (h:Rep K (.buf o ver k len) v):Rep K (.own o ver k 0 len) v:=by
 cases h with
 | bufNil _ _ _ ho hv=>exact .ownNil _ _ _ ho hv
 | bufSome _ _ _ _ c ho hv hl hc hC=>exact .own _ _ _ _ _ ho hv _ c hl oA (fun _=>by simp)
theorem buf_of_own {K:Ctx} {o ver k len:Nat} {v:Value} (hn:len ≠ 0) (h:Rep K (.own o ver k 0 len) v):Rep K (.buf o ver k len) v:=by
 cases h with
 | ownNil _ _ _ ho hv=>exact absurd rfl hn
 | own _ _ _ _ _ ho hv a c hl hC ha =>
  have e:=ha oA;subst e;have:=Rep.bufSome (K:=K) o ver k len c ho hv hl oA oA;simpa using this
theorem dn_buf {m:List (Nat × Nat)} {i o v k b:Nat} (h:m[i]? = some (o,v)):Dn m (.own i 0 k 0 b) (.buf o v k b):=by
 intro K L hA hM u hr;exact dn_own h hA hM (Q7a hr)
theorem QOe {objs:Objs} {n:Nat} {ks:List Nat} {o ver k len len':Nat} {p:AObj} (i:Nat) (hi:ks[i]? = some o) (hp:objs[o]? = some (ver,p)) (e:len=len') (hn:len' ≠ 0):TurnV objs n ks (.own o ver k 0 len) (.buf (n+i) 0 k len'):=by
 subst e;intro K w v hm hr;exact buf_of_own hn (QPb i hi hp rfl K w v hm hr)
theorem turn_nilbuf {objs:Objs} {n:Nat} {ks:List Nat} {o k:Nat} (i:Nat) (hi:ks[i]? = some o):TurnV objs n ks (.lit (.slice none 0 0)) (.buf (n+i) 0 k 0):=by
 intro K w v hm hr;have h:=Q25 (n:=n) (k:=k) i hi K w v hm hr;have e:=QZ0 hr;subst e;cases h with
 | ownNil _ _ _ ho hv=>exact .bufNil _ _ _ ho hv
theorem turn_buf {objs:Objs} {n:Nat} {ks:List Nat} {o ver k len:Nat} {p:AObj} (i:Nat) (hi:ks[i]? = some o) (hp:objs[o]? = some (ver,p)):TurnV objs n ks (.buf o ver k len) (.buf (n+i) 0 k len):=by
 intro K w v hm hr;have h:=QPb (n:=n) i hi hp rfl K w v hm (Q7a hr);cases hr with
 | bufNil _ _ _ ho hv =>
  cases h with
  | ownNil _ _ _ ho hv=>exact .bufNil _ _ _ ho hv
 | bufSome _ _ _ _ c ho hv hl hc hC =>
  cases h with
  | own _ _ _ _ _ ho hv a c hl hC ha =>
   have e:=ha hc;rw [e];have:=Rep.bufSome (K:=K.shed w objs n ks) (n+i) 0 k len c ho hv hl hc oA;simpa using this
theorem dn_any {m:List (Nat × Nat)} {x:AVal}:Dn m .any x:=fun _ _ _ _=>.any _
theorem dn_bufbuf {m:List (Nat × Nat)} {i o v k b:Nat} (h:m[i]? = some (o,v)):Dn m (.buf i 0 k b) (.buf o v k b):=by
 intro K L hA hM u hr;have h':=dn_own h hA hM (Q7a hr);cases hr with
 | bufNil _ _ _ ho hv =>
  cases h' with
  | ownNil _ _ _ ho hv=>exact .bufNil _ _ _ ho hv
 | bufSome _ _ _ _ c ho hv hl hc hC =>
  cases h' with
  | own _ _ _ _ _ ho hv a c hl hC ha =>
   have e:=ha hc;rw [e];have:=Rep.bufSome (K:=K) i 0 k b c ho hv hl hc oA;simpa using this
theorem turn_miter {objs:Objs} {n:Nat} {ks:List Nat} {o since last:Nat} {seen:Array Nat} {p:AObj} (i:Nat) (hi:ks[i]? = some o) (hp:objs[o]? = some (0,p)):TurnO objs n ks (.other (.mapIter o since seen last)) (.other (.mapIter (n+i) since seen last)):=.mapIter o i since seen last p hi hp
end Go.Fw
namespace Go.Fw
set_option linter.unusedSimpArgs false
set_option linter.unusedVariables false
open Go.RowKit
theorem ct {α:Type} {c:Bool} {a b z:α} (h:c=true) (k:a=z):(bif c then a else b)=z:=(cond_t h).trans k
theorem cf {α:Type} {c:Bool} {a b z:α} (h:c=false) (k:b=z):(bif c then a else b)=z:=(cond_f h).trans k
theorem ai {a b:Prop} (h:a) (k:b):a∧b:=⟨h,k⟩
theorem us {P:Program} {f:FuncId} {args:List AVal} {objs:Objs} {r:AVal} {o:Objs} {K:AVal->Objs->Prop} (h:ACalls P f args objs fun r' o'=>r'=r∧o'=o) (k:K r o):ACalls P f args objs K:=ACalls.use h k
theorem ga {P:Program} {f:FuncId} {fn:Func} {c:Code} {args:List AVal} {r:AVal} (ha:LowL 0 args) (hl:Low 0 r) (keep:Nat->Bool) (hf:P.funcs[f]? = some fn)
  (h:cwp P fn.ntmps ([]:Objs).length keep c (CRet P fn ([]:Objs).length fun r' o=>r'=r∧o=[]) (Qp3 0 args) []) (hb:fn.body=some c:=by exact rfl) (hlen:Nat.ble args.length fn.ntmps=true:=by exact rfl):∀ objs,AGives P f args objs r :=
 AGives.any' ha hl (ACalls.of_cwp keep hf hb hlen h)
theorem mo {P:Program} {f:FuncId} {fn:Func} {c:Code} {args:List AVal} {objs:Objs} {n0:Nat} {r0:AVal} {objs0:Objs} (keep:Nat->Bool) (hf:P.funcs[f]? = some fn)
  (h:cwp P fn.ntmps n0 keep c (CRet P fn n0 fun r o=>r=r0∧o=objs0) (Qp3 0 args) objs) (hb:fn.body=some c:=by exact rfl) (hlen:Nat.ble args.length fn.ntmps=true:=by exact rfl) (hn0:Nat.ble n0 objs.length=true:=by exact rfl):AMoves P f args objs n0 r0 objs0 :=
 AMoves.of_cwp keep hf hb hlen hn0 h
theorem rq {n0:Nat} {r0 X:AVal} {o Y:Objs} (h:Told n0 r0 o X Y):∃ r objs',Told n0 r0 o r objs'∧(r=X∧objs'=Y):=⟨X,Y,h,rfl,rfl⟩
theorem fo2 {α β:Type} (F:α->β) (b:α) {a:α} {R:β} (h:F a=R) (e:a=b):F b=R:=e ▸ h
theorem sr {o:Objs} {r:AVal}:Seen o r r:=Seen.refl _ _
section
variable {P:Program} {f:FuncId} {args:List AVal} {objs o:Objs} {r:AVal}
theorem u2 {K:AVal->Objs->Prop} (h:ACalls P f args objs fun a b=>a=r∧b=o) (k:K r o):∃ r' o',ACalls P f args objs (fun a b=>a=r'∧b=o')∧K r' o':=⟨r,o,h,k⟩
theorem u3 {g:Bool} {K:AVal->Objs->Prop} (h:ACalls P f args objs fun a b=>a=r∧b=objs) (k:K r objs):∃ r' o',(g=true->ACalls P f args objs (fun a b=>a=r'∧b=o'))∧(g=false->o'=objs)∧K r' o':=⟨r,objs,fun _=>h,fun _=>rfl,k⟩
theorem u4 {g:Bool} {K:AVal->Prop} (h:AGives P f args objs r) (k:K r):∃ r',(g=true->AGives P f args objs r')∧K r':=⟨r,fun _=>h,k⟩
end
def inL (t:Nat):List Nat->Bool
 | []=>false
 | a :: r=>bif Nat.beq t a then true else inL t r
def kp (n:Nat) (l:List Nat) (t:Nat):Bool:=bif Nat.ble 1000000 t then true else bif Nat.blt t n then true else inL t l
def kj (js:List Nat) (n:Nat) (l:List Nat) (t:Nat):Bool:=bif inL t js then false else kp n l t
class LowC {α:Type} (c:α->List AVal):Prop where
 low:∀ n x,LowL n (c x)
instance:LowC (fun n:Int=>[I n]):=⟨fun _ _=>lowL1 rfl⟩
instance:LowC (fun n:Int=>[Y n]):=⟨fun _ _=>lowL1 rfl⟩
instance:LowC (fun n:Int=>[J n]):=⟨fun _ _=>lowL1 rfl⟩
instance:LowC (fun n:Int=>[U n]):=⟨fun _ _=>lowL1 rfl⟩
instance:LowC (fun n:ByteArray=>[Sg n]):=⟨fun _ _=>lowL1 rfl⟩
instance:LowC (fun n:Bool=>[Bo n]):=⟨fun _ _=>lowL1 rfl⟩
theorem lw {α:Type} {k:Nat} {c:α->List AVal} [h:LowC c] {d:α} {l:List α} {n:Nat}:Low n (listA k c d l):=Q95 (h.low n)
theorem lm {α:Type} {c:α->List AVal} [h:LowC c] {l:List α} {n:Nat}:∀ e ∈ l.map c,LowL n e:=Qx7 (h.low n)
theorem lx {n:Nat} {x:AVal} (h:low2 x=true:=by exact rfl):Low n x:=QM2 h
theorem l1 {n:Nat} {x:AVal} {xs:List AVal} (t:LowL n xs) (h:low2 x=true:=by exact rfl):LowL n (x :: xs):=.cons (QM2 h) t
theorem lv {n:Nat} {x:AVal} {xs:List AVal} (h:Low n x) (t:LowL n xs):LowL n (x :: xs):=.cons h t
section
variable {objs:Objs} {n:Nat} {ks:List Nat}
theorem t1 {x:AVal} (h:low2 x=true:=by exact rfl):TurnV objs n ks x x:=Qg3 (QM2 h)
theorem to {o ver k off len len':Nat} {p:AObj} (i:Nat) (hl:len=len') (hi:ks[i]? = some o:=by exact rfl) (hp:objs[o]? = some (ver,p):=by exact rfl):TurnV objs n ks (.own o ver k off len) (.own (n+i) 0 k off len'):=QPb i hi hp hl
theorem sv {s:List (Nat × AVal)} {t:Nat} {v:AVal} {r:List (Nat × AVal)} (h:TurnV objs n ks (Q71 s t) v) (hr:SubT objs n ks s r):SubT objs n ks s ((t,v) :: r):=.cons _ _ _ h hr
theorem s1 {s:List (Nat × AVal)} {t:Nat} {v:AVal} {r:List (Nat × AVal)} (hr:SubT objs n ks s r) (e:Q71 s t=v:=by exact rfl) (h:low2 v=true:=by exact rfl):SubT objs n ks s ((t,v) :: r):=.cons _ _ _ (by rw [e];exact Qg3 (QM2 h)) hr
theorem sl {s:List (Nat × AVal)} {t:Nat} {v:AVal} {r:List (Nat × AVal)} (h:Low 0 v) (hr:SubT objs 0 ks s r) (e:Q71 s t=v:=by exact rfl):SubT objs 0 ks s ((t,v) :: r):=.cons _ _ _ (by rw [e];exact Qg3 h) hr
theorem cv {x y:AVal} {xs ys:List AVal} (h:TurnV objs n ks x y) (t:TurnCs objs n ks xs ys):TurnCs objs n ks (x :: xs) (y :: ys):=.cons _ _ _ _ h t
theorem c1 {x:AVal} {xs ys:List AVal} (t:TurnCs objs n ks xs ys) (h:low2 x=true:=by exact rfl):TurnCs objs n ks (x :: xs) (x :: ys):=.cons _ _ _ _ (Qg3 (QM2 h)) t
theorem tO {o:Nat} {os:List Nat} {p:Nat × AObj} {q:AObj} {r:Objs} (hp:objs[o]? = some p) (hq:TurnO objs n ks p.2 q) (hr:TurnL objs n ks os r):TurnL objs n ks (o :: os) ((0,q) :: r):=.cons _ _ _ _ _ hp hq hr
theorem ts {t:TypeId} {k:Nat} {c:List AVal} (h:LowL n c):TurnO objs n ks (.row t k [c]) (.row t k [c]):=QQb rfl (low_es1 h)
theorem tl {α:Type} {t:TypeId} {k:Nat} {c:α->List AVal} [h:LowC c] {l:List α} {es:List (List AVal)} (e:es=l.map c):TurnO objs n ks (.row t k es) (.row t k (l.map c)):=QQb e (Qx7 (h.low n))
theorem wk {nt n0:Nat} {objs:Objs} {s s':List (Nat × AVal)} {new:Objs} (ks:List Nat) (hT:TurnL objs 0 ks ks new) (hs:SubT objs 0 ks s s') (hid:idOK n0 ks objs=true:=by exact rfl) (hnd:ks.Nodup:=by decide):Weaker nt n0 ⟨s,objs⟩ ⟨s',new⟩:=Q3d ks hid hnd hT hs
theorem tt {n0:Nat} {objs:Objs} {r0 r:AVal} {new:Objs} (ks:List Nat) (hT:TurnL objs 0 ks ks new) (hr:TurnV objs 0 ks r0 r) (hid:idOK n0 ks objs=true:=by exact rfl) (hnd:ks.Nodup:=by decide):Told n0 r0 objs r new:=Qb3 ks hid hnd hT hr
end
section
variable {m:List (Nat × Nat)}
theorem dv {y x:AVal} {ys xs:List AVal} (h:Dn m y x) (t:DnL m ys xs):DnL m (y :: ys) (x :: xs):=.cons _ _ _ _ h t
theorem d1 {x:AVal} {ys xs:List AVal} (t:DnL m ys xs) (h:low2 x=true:=by exact rfl):DnL m (x :: ys) (x :: xs):=.cons _ _ _ _ (Qo3 (QM2 h)) t
theorem dl {x:AVal} {ys xs:List AVal} (h:Low 0 x) (t:DnL m ys xs):DnL m (x :: ys) (x :: xs):=.cons _ _ _ _ (Qo3 h) t
theorem dp {i o v k a b:Nat} {ys xs:List AVal} (t:DnL m ys xs) (h:m[i]? = some (o,v):=by exact rfl):DnL m (.ptr i 0 k a b :: ys) (.ptr o v k a b :: xs):=.cons _ _ _ _ (dn_ptr h) t
theorem dO {Y X:AObj} {ys:Objs} {xs:List AObj} (h:DnO m Y X) (t:DnOs m ys xs):DnOs m ((0,Y) :: ys) (X :: xs):=.cons _ _ _ _ h t
theorem ds {t:TypeId} {k:Nat} {c:List AVal} (h:LowL 0 c):DnO m (.row t k [c]) (.row t k [c]):=.same _ (low_es1 h)
theorem dr {α:Type} {t:TypeId} {k:Nat} {c:α->List AVal} [h:LowC c] {l:List α} {es':List (List AVal)} (e:es'=l.map c):DnO m (.row t k (l.map c)) (.row t k es'):=dn_row e (Qx7 (h.low 0))
theorem dc {t:TypeId} {k:Nat} {ys xs:List AVal} (h:DnL m ys xs):DnO m (.row t k [ys]) (.row t k [xs]):=.row1 _ _ _ _ h
theorem rv {y x:AVal} {ys xs:List AVal} (h:Ren m y x) (t:RenL m ys xs):RenL m (y :: ys) (x :: xs):=.cons _ _ _ _ h t
theorem r1 {x:AVal} {ys xs:List AVal} (t:RenL m ys xs) (h:low2 x=true:=by exact rfl):RenL m (x :: ys) (x :: xs):=.cons _ _ _ _ (.low _ (QM2 h)) t
theorem rO {Y X:AObj} {ys:Objs} {xs:List AObj} (h:RenO m Y X) (t:RenOs m ys xs):RenOs m ((0,Y) :: ys) (X :: xs):=.cons _ _ _ _ h t
theorem re {t:TypeId} {k:Nat} {c:List AVal} (h:LowL 0 c):RenO m (.row t k [c]) (.row t k [c]):=.same _ (low_es1 h)
theorem rr {α:Type} {t:TypeId} {k:Nat} {c:α->List AVal} [h:LowC c] {l:List α}:RenO m (.row t k (l.map c)) (.row t k (l.map c)):=.same _ (Qx7 (h.low 0))
theorem rc {t:TypeId} {k:Nat} {ys xs:List AVal} (h:RenL m ys xs):RenO m (.row t k [ys]) (.row t k [xs]):=.row1 _ _ _ _ h
theorem rx {x:AVal} (h:low2 x=true:=by exact rfl):Ren m x x:=.low _ (QM2 h)
theorem rp {i k a b:Nat} (o v:Nat) (h:m[i]? = some (o,v)):Ren m (.ptr i 0 k a b) (.ptr o v k a b):=.ptr _ _ _ _ _ _ h
theorem rw_ {i k a b:Nat} (o v:Nat) (h:m[i]? = some (o,v)):Ren m (.own i 0 k a b) (.own o v k a b):=.own _ _ _ _ _ _ h
end
theorem mv {P:Program} {f:FuncId} {args args1:List AVal} {base objs base':Objs} {n0:Nat} {r rc:AVal} {xs:List AObj} (ks:List Nat) (h:AMoves P f args base n0 r base')
  (hin:DnOs (mIn ks objs) base (picks ks objs)) (hargs:DnL (mIn ks objs) args args1) (hout:RenOs (mOut ks n0 objs (base'.length - n0)) base' xs) (hr:Ren (mOut ks n0 objs (base'.length - n0)) r rc)
  (hnd:ks.Nodup:=by decide) (hlt:(ks.all fun k=>Nat.blt k objs.length)=true:=by exact rfl) (hn0:Nat.ble n0 ks.length=true:=by exact rfl) (hn1:Nat.ble n0 base'.length=true:=by exact rfl) (hlive:Qxa (picks ks objs)=true:=by exact rfl) :
  ACalls P f args1 objs fun r' o'=>r'=rc∧o'=moved ks n0 xs objs:=AMoves.on ks h hnd hlt hn0 hn1 hin hlive hargs hout hr
section
variable {objs:Objs}
theorem ev {x y:AVal} {xs ys:List AVal} (h:Seen objs x y) (t:SeenL objs xs ys):SeenL objs (x :: xs) (y :: ys):=.cons _ _ _ _ h t
theorem e1 {x:AVal} {xs ys:List AVal} (t:SeenL objs xs ys):SeenL objs (x :: xs) (x :: ys):=.cons _ _ _ _ (Seen.refl _ _) t
theorem av {x y:AVal} {xs ys:List AVal} (h:AsA x y) (t:AsL xs ys):AsL (x :: xs) (y :: ys):=.cons _ _ _ _ h t
theorem a1 {x:AVal} {xs ys:List AVal} (t:AsL xs ys):AsL (x :: xs) (x :: ys):=.cons _ _ _ _ (AsA.refl _) t
end
def LoopI1 {A0:Type} (inv:A0->Prop) (ms:A0->Nat) (sl:A0->List (Nat × AVal)) (ob:A0->Objs):Nat->List (Nat × AVal)->Objs->Prop:=fun m s o=>∃ x0,inv x0∧m=ms x0∧s=sl x0∧o=ob x0
theorem Qr0 {A0:Type} {inv:A0->Prop} {ms:A0->Nat} {sl:A0->List (Nat × AVal)} {ob:A0->Objs} {nt n0 m:Nat} {s:St} (x0:A0) (hw:Weaker nt n0 s ⟨sl x0,ob x0⟩) (hlt:ms x0<m) (hi:inv x0):∃ m' s'' o'',m'<m∧Weaker nt n0 s ⟨s'',o''⟩∧LoopI1 inv ms sl ob m' s'' o'':=⟨_,_,_,hlt,hw,x0,hi,rfl,rfl,rfl⟩
theorem Qk0 {A0:Type} (inv:A0->Prop) (ms:A0->Nat) (sl:A0->List (Nat × AVal)) (ob:A0->Objs) (x0:A0) {nt n0:Nat} {s:St} {B:(Nat->List (Nat × AVal)->Objs->Prop)->Nat->List (Nat × AVal)->Objs->Prop} (hw:Weaker nt n0 s ⟨sl x0,ob x0⟩) (hi:inv x0) (hb:∀ x0,inv x0->B (LoopI1 inv ms sl ob) (ms x0) (sl x0) (ob x0)):∃ I n s1 o1,Weaker nt n0 s ⟨s1,o1⟩∧I n s1 o1 ∧ ∀ m s o,I m s o->B I m s o :=
 ⟨LoopI1 inv ms sl ob,_,_,_,hw,⟨x0,hi,rfl,rfl,rfl⟩,by rintro _ _ _ ⟨x0,hy,rfl,rfl,rfl⟩;exact hb x0 hy⟩
def JoinI1 {A0:Type} (inv:A0->Prop) (sl:A0->List (Nat × AVal)) (ob:A0->Objs):List (Nat × AVal)->Objs->Prop:=fun s o=>∃ x0,inv x0∧s=sl x0∧o=ob x0
theorem Qj0 {A0:Type} {inv:A0->Prop} {sl:A0->List (Nat × AVal)} {ob:A0->Objs} {nt n0:Nat} {s:St} (x0:A0) (hw:Weaker nt n0 s ⟨sl x0,ob x0⟩) (hi:inv x0):∃ s'' o'',Weaker nt n0 s ⟨s'',o''⟩∧JoinI1 inv sl ob s'' o'':=⟨_,_,hw,x0,hi,rfl,rfl⟩
theorem Qu1 {A0:Type} (inv:A0->Prop) (sl:A0->List (Nat × AVal)) (ob:A0->Objs) {B:List (Nat × AVal)->Objs->Prop} {A:(List (Nat × AVal)->Objs->Prop)->Prop} (hb:∀ x0,inv x0->B (sl x0) (ob x0)) (ha:A (JoinI1 inv sl ob)):∃ J,(∀ s o,J s o->B s o)∧A J:=⟨JoinI1 inv sl ob,by rintro _ _ ⟨x0,hy,rfl,rfl⟩;exact hb x0 hy,ha⟩
def LoopI2 {A0 A1:Type} (inv:A0->A1->Prop) (ms:A0->A1->Nat) (sl:A0->A1->List (Nat × AVal)) (ob:A0->A1->Objs):Nat->List (Nat × AVal)->Objs->Prop:=fun m s o=>∃ x0 x1,inv x0 x1∧m=ms x0 x1∧s=sl x0 x1∧o=ob x0 x1
theorem Qc0 {A0 A1:Type} {inv:A0->A1->Prop} {ms:A0->A1->Nat} {sl:A0->A1->List (Nat × AVal)} {ob:A0->A1->Objs} {nt n0 m:Nat} {s:St} (x0:A0) (x1:A1) (hw:Weaker nt n0 s ⟨sl x0 x1,ob x0 x1⟩) (hlt:ms x0 x1<m) (hi:inv x0 x1):∃ m' s'' o'',m'<m∧Weaker nt n0 s ⟨s'',o''⟩∧LoopI2 inv ms sl ob m' s'' o'':=⟨_,_,_,hlt,hw,x0,x1,hi,rfl,rfl,rfl⟩
theorem Qu0 {A0 A1:Type} (inv:A0->A1->Prop) (ms:A0->A1->Nat) (sl:A0->A1->List (Nat × AVal)) (ob:A0->A1->Objs) (x0:A0) (x1:A1) {nt n0:Nat} {s:St} {B:(Nat->List (Nat × AVal)->Objs->Prop)->Nat->List (Nat × AVal)->Objs->Prop} (hw:Weaker nt n0 s ⟨sl x0 x1,ob x0 x1⟩) (hi:inv x0 x1) (hb:∀ x0 x1,inv x0 x1->B (LoopI2 inv ms sl ob) (ms x0 x1) (sl x0 x1) (ob x0 x1)):∃ I n s1 o1,Weaker nt n0 s ⟨s1,o1⟩∧I n s1 o1 ∧ ∀ m s o,I m s o->B I m s o :=
 ⟨LoopI2 inv ms sl ob,_,_,_,hw,⟨x0,x1,hi,rfl,rfl,rfl⟩,by rintro _ _ _ ⟨x0,x1,hy,rfl,rfl,rfl⟩;exact hb x0 x1 hy⟩
def LoopI3 {A0 A1 A2:Type} (inv:A0->A1->A2->Prop) (ms:A0->A1->A2->Nat) (sl:A0->A1->A2->List (Nat × AVal)) (ob:A0->A1->A2->Objs):Nat->List (Nat × AVal)->Objs->Prop:=fun m s o=>∃ x0 x1 x2,inv x0 x1 x2∧m=ms x0 x1 x2∧s=sl x0 x1 x2∧o=ob x0 x1 x2
theorem QH1 {A0 A1 A2:Type} {inv:A0->A1->A2->Prop} {ms:A0->A1->A2->Nat} {sl:A0->A1->A2->List (Nat × AVal)} {ob:A0->A1->A2->Objs} {nt n0 m:Nat} {s:St} (x0:A0) (x1:A1) (x2:A2) (hw:Weaker nt n0 s ⟨sl x0 x1 x2,ob x0 x1 x2⟩) (hlt:ms x0 x1 x2<m) (hi:inv x0 x1 x2):∃ m' s'' o'',m'<m∧Weaker nt n0 s ⟨s'',o''⟩∧LoopI3 inv ms sl ob m' s'' o'':=⟨_,_,_,hlt,hw,x0,x1,x2,hi,rfl,rfl,rfl⟩
theorem QT4 {A0 A1 A2:Type} (inv:A0->A1->A2->Prop) (ms:A0->A1->A2->Nat) (sl:A0->A1->A2->List (Nat × AVal)) (ob:A0->A1->A2->Objs) (x0:A0) (x1:A1) (x2:A2) {nt n0:Nat} {s:St} {B:(Nat->List (Nat × AVal)->Objs->Prop)->Nat->List (Nat × AVal)->Objs->Prop} (hw:Weaker nt n0 s ⟨sl x0 x1 x2,ob x0 x1 x2⟩) (hi:inv x0 x1 x2) (hb:∀ x0 x1 x2,inv x0 x1 x2->B (LoopI3 inv ms sl ob) (ms x0 x1 x2) (sl x0 x1 x2) (ob x0 x1 x2)):∃ I n s1 o1,Weaker nt n0 s ⟨s1,o1⟩∧I n s1 o1 ∧ ∀ m s o,I m s o->B I m s o :=
 ⟨LoopI3 inv ms sl ob,_,_,_,hw,⟨x0,x1,x2,hi,rfl,rfl,rfl⟩,by rintro _ _ _ ⟨x0,x1,x2,hy,rfl,rfl,rfl⟩;exact hb x0 x1 x2 hy⟩
def JoinI3 {A0 A1 A2:Type} (inv:A0->A1->A2->Prop) (sl:A0->A1->A2->List (Nat × AVal)) (ob:A0->A1->A2->Objs):List (Nat × AVal)->Objs->Prop:=fun s o=>∃ x0 x1 x2,inv x0 x1 x2∧s=sl x0 x1 x2∧o=ob x0 x1 x2
theorem Qg7 {A0 A1 A2:Type} {inv:A0->A1->A2->Prop} {sl:A0->A1->A2->List (Nat × AVal)} {ob:A0->A1->A2->Objs} {nt n0:Nat} {s:St} (x0:A0) (x1:A1) (x2:A2) (hw:Weaker nt n0 s ⟨sl x0 x1 x2,ob x0 x1 x2⟩) (hi:inv x0 x1 x2):∃ s'' o'',Weaker nt n0 s ⟨s'',o''⟩∧JoinI3 inv sl ob s'' o'':=⟨_,_,hw,x0,x1,x2,hi,rfl,rfl⟩
theorem Qke {A0 A1 A2:Type} (inv:A0->A1->A2->Prop) (sl:A0->A1->A2->List (Nat × AVal)) (ob:A0->A1->A2->Objs) {B:List (Nat × AVal)->Objs->Prop} {A:(List (Nat × AVal)->Objs->Prop)->Prop} (hb:∀ x0 x1 x2,inv x0 x1 x2->B (sl x0 x1 x2) (ob x0 x1 x2)) (ha:A (JoinI3 inv sl ob)):∃ J,(∀ s o,J s o->B s o)∧A J:=⟨JoinI3 inv sl ob,by rintro _ _ ⟨x0,x1,x2,hy,rfl,rfl⟩;exact hb x0 x1 x2 hy,ha⟩
def LoopI4 {A0 A1 A2 A3:Type} (inv:A0->A1->A2->A3->Prop) (ms:A0->A1->A2->A3->Nat) (sl:A0->A1->A2->A3->List (Nat × AVal)) (ob:A0->A1->A2->A3->Objs):Nat->List (Nat × AVal)->Objs->Prop:=fun m s o=>∃ x0 x1 x2 x3,inv x0 x1 x2 x3∧m=ms x0 x1 x2 x3∧s=sl x0 x1 x2 x3∧o=ob x0 x1 x2 x3
theorem QT3 {A0 A1 A2 A3:Type} {inv:A0->A1->A2->A3->Prop} {ms:A0->A1->A2->A3->Nat} {sl:A0->A1->A2->A3->List (Nat × AVal)} {ob:A0->A1->A2->A3->Objs} {nt n0 m:Nat} {s:St} (x0:A0) (x1:A1) (x2:A2) (x3:A3) (hw:Weaker nt n0 s ⟨sl x0 x1 x2 x3,ob x0 x1 x2 x3⟩) (hlt:ms x0 x1 x2 x3<m) (hi:inv x0 x1 x2 x3):∃ m' s'' o'',m'<m∧Weaker nt n0 s ⟨s'',o''⟩∧LoopI4 inv ms sl ob m' s'' o'':=⟨_,_,_,hlt,hw,x0,x1,x2,x3,hi,rfl,rfl,rfl⟩
theorem QIa {A0 A1 A2 A3:Type} (inv:A0->A1->A2->A3->Prop) (ms:A0->A1->A2->A3->Nat) (sl:A0->A1->A2->A3->List (Nat × AVal)) (ob:A0->A1->A2->A3->Objs) (x0:A0) (x1:A1) (x2:A2) (x3:A3) {nt n0:Nat} {s:St} {B:(Nat->List (Nat × AVal)->Objs->Prop)->Nat->List (Nat × AVal)->Objs->Prop} (hw:Weaker nt n0 s ⟨sl x0 x1 x2 x3,ob x0 x1 x2 x3⟩) (hi:inv x0 x1 x2 x3) (hb:∀ x0 x1 x2 x3,inv x0 x1 x2 x3->B (LoopI4 inv ms sl ob) (ms x0 x1 x2 x3) (sl x0 x1 x2 x3) (ob x0 x1 x2 x3)):∃ I n s1 o1,Weaker nt n0 s ⟨s1,o1⟩∧I n s1 o1 ∧ ∀ m s o,I m s o->B I m s o :=
 ⟨LoopI4 inv ms sl ob,_,_,_,hw,⟨x0,x1,x2,x3,hi,rfl,rfl,rfl⟩,by rintro _ _ _ ⟨x0,x1,x2,x3,hy,rfl,rfl,rfl⟩;exact hb x0 x1 x2 x3 hy⟩
end Go.Fw
