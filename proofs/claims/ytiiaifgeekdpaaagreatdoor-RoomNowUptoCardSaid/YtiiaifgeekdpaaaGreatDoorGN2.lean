/-
  Reading arguments with a bound on what they hold together: each string and slice is no longer than that. Program-independent but for the bound's own measure.
  A law's step where what it reads is bounded together. Program-independent but for the bound's own measure.
  How arguments are read, with a bound on what they hold together. No condition.
  If each node that is taken is taken for longer than now, as many are free now as may be granted. Condition: what is read is, together, of bulk at most 1048576.
  RoomNow: If each node that is taken is taken for longer than now, as many are free now as may be granted. Condition: what is read is, together, of bulk at most 1048576.
-/
import Derived.Test.YtiiaifgeekdpaaaGreatDoorG5
import Derived.Test.YtiiaifgeekdpaaaGreatDoorRows
import Derived.Test.YtiiaifgeekdpaaaGreatDoorGN1
import Derived.Deep.DeepHandedRow
import Derived.Deep.DeepWitnessRowRef
import Derived.Test.YtiiaifgeekdpaaaGreatDoorTie
import Derived.Test.YtiiaifgeekdpaaaGreatDoorCards
import Derived.ProofKit
import Derived.LaidMore
import Derived.OpenShut
import Derived.SevenTiedAt
namespace Go.Proofs.YtiiaifgeekdpaaaGreatDoor
set_option linter.unusedSimpArgs false
set_option linter.unusedVariables false
open Go.Fw Go.RowKit Go.ChangeShapes Go.WideShapes Go.Deep
abbrev bk {H:Type} (d:DataW H):Nat:=Rows.uptoBulk d
abbrev bkAll {H:Type} (l:List (DataW H)):Nat:=Rows.uptoBulkAll l
theorem bk_pos {H:Type} (d:DataW H):1<=bk d:=by
 cases d with
 | lit l=>cases l <;> simp [bk,Rows.uptoBulk]
 | _=>simp [bk,Rows.uptoBulk]
theorem bk_mem {H:Type} {d:DataW H} {l:List (DataW H)} (h:d ∈ l):bk d<=bkAll l:=by
 induction l with
 | nil=>cases h
 | cons x r ih =>
  simp only [bkAll,Rows.uptoBulkAll]
  rcases List.mem_cons.1 h with rfl|h
  ·simp only [bk];omega
  ·have:=ih h;simp only [bk,bkAll] at *;omega
theorem bk_len {H:Type} (l:List (DataW H)):l.length<=bkAll l:=by
 induction l with
 | nil=>simp
 | cons x r ih=>have:=bk_pos x;simp only [bk,bkAll,Rows.uptoBulkAll,List.length_cons] at *;omega
def ReadB (P:Program) (t:TypeId) {α:Type} (c:α->List AVal) (G:Nat->α->Prop):Prop :=
 ∀ (H:Type) (enc:TypeId × Value->H) (w:World) (base:Nat) (spare:Nat->Bool) (held:Bool) (fuel:Nat) (cs:List Value) (x:DataW H × List MemPlace),
  DataW.trod enc P w base spare held fuel t cs=some x -> ∃ a,(∀ B,bk x.1<=B->G B a)∧CellsRep (Qe3 w) (c a) cs
variable {P:Program} {t:TypeId}
theorem ReadB.of {α:Type} {c:α->List AVal} {G:α->Prop} (h:ReadAs P t c G):ReadB P t c fun _=>G:=by
 intro H enc w base spare held fuel cs x hx
 obtain ⟨a,ha,hr⟩:=h H enc w base spare held fuel cs x hx
 exact ⟨a,fun _ _=>ha,hr⟩
theorem ReadB.string (ht:P.underlying t=some .string):ReadB P t (fun s=>[.lit (.string s)]) fun B s=>s.size<=B:=by
 intro H enc w base spare held fuel cs x h
 obtain ⟨s,rfl,rfl,hs⟩:=DataW.trod_string ht h
 refine ⟨s,fun B hB=>?_,.one (.lit _) rfl⟩
 have e:bk (DataW.lit (H:=H) (.string s.data.toList))=s.data.toList.length+1:=by simp [bk,Rows.uptoBulk]
 have e2:s.data.toList.length=s.size:=Array.length_toList
 simp only at hB
 omega
theorem ReadB.map {α β:Type} {c:α->List AVal} {c':β->List AVal} {G:Nat->α->Prop} {G':Nat->β->Prop} (h:ReadB P t c G) (g:α->β) (hc:∀ a,c' (g a)=c a) (hG:∀ B a,G B a->G' B (g a)):ReadB P t c' G':=by
 intro H enc w base spare held fuel cs x hx
 obtain ⟨a,ha,hr⟩:=h H enc w base spare held fuel cs x hx
 exact ⟨g a,fun B hB=>hG B a (ha B hB),by rw [hc];exact hr⟩
theorem ReadB.slice {α:Type} {c:α->List AVal} {G:Nat->α->Prop} {e:TypeId} {k:Nat} (d:α) (ht:P.underlying t=some (.slice e)) (hk:P.cellsOf e=k) (hpos:0<k) (he:ReadB P e c G) (hlen:∀ a,(c a).length=k) :
  ReadB P t (fun l=>[listA k c d l]) fun B l=>l.length<=B ∧ ∀ a ∈ l,G B a:=by
 intro H enc w base spare held fuel cs x h
 rcases open_slice ht h with ⟨rfl,_⟩|⟨a,len,cap,m,n,D,Pl,rfl,-,hl,hcap,hm,hx,hi⟩
 ·exact ⟨[],fun _ _=>⟨Nat.zero_le _,fun a ha=>by simp at ha⟩,.one (.nil _ _ _) rfl⟩
 have hlm:len<=m:=by rw [hm];split <;> omega
 have hel:∀ i,i<len -> ∃ y,(∀ B,bk (D i)<=B->G B y) ∧ ∃ vs:List Value,vs.length=k∧(∀ j,j<k->w.cell? (a.add (i*k+j))=vs[j]?)∧CellsRep (Qe3 w) (c y) vs:=by
  intro i hlt
  obtain ⟨cs',hc,htr⟩:=hi i (by omega)
  obtain ⟨y,hy,hr⟩:=he H enc w base spare held n cs' _ htr
  rw [hk] at hc
  obtain ⟨_,hcl,hat⟩:=World.cells?_some hc
  refine ⟨y,hy,cs',hcl,fun j hj=>?_,hr⟩
  rw [← Go.Deep.add_add]
  exact hat j hj
 have hch:∃ ys:List α,ys.length=len ∧ ∀ i,i<len->(∀ B,bk (D i)<=B->G B (ys.getD i d)) ∧ ∃ vs:List Value,vs.length=k∧(∀ j,j<k->w.cell? (a.add (i*k+j))=vs[j]?)∧CellsRep (Qe3 w) (c (ys.getD i d)) vs:=by
  clear hi hm hl hcap hlm h hx
  induction len with
  | zero=>exact ⟨[],rfl,fun i hi=>by omega⟩
  | succ len ih =>
   obtain ⟨ys,hys,hall⟩:=ih fun i hlt=>hel i (by omega)
   obtain ⟨y,hy,hv⟩:=hel len (by omega)
   refine ⟨ys++[y],by simp [hys],fun i hlt=>?_⟩
   rcases Nat.lt_or_ge i len with h'|h'
   ·have e:(ys++[y]).getD i d=ys.getD i d:=by simp [List.getD,List.getElem?_append_left (show i<ys.length by omega)]
    rw [e]
    exact hall i h'
   ·have:i=len:=by omega
    subst this
    have e:(ys++[y]).getD i d=y:=by simp [List.getD,List.getElem?_append_right (show ys.length<=i by omega),hys]
    rw [e]
    exact ⟨hy,hv⟩
 obtain ⟨ys,hys,hall⟩:=hch
 refine ⟨ys,fun B hB=>?_,.one ?_ rfl⟩
 ·have hb:bkAll ((List.range len).map D)<=B:=by
   rw [hx] at hB
   simp only [bk,bkAll,Rows.uptoBulk] at *
   omega
  have hlb:=bk_len ((List.range len).map D)
  simp only [List.length_map,List.length_range] at hlb
  refine ⟨by omega,fun y hy=>?_⟩
  obtain ⟨i,hlt,rfl⟩:=List.getElem_of_mem hy
  have hD:bk (D i)<=B:=Nat.le_trans (bk_mem (List.mem_map.2 ⟨i,List.mem_range.2 (by omega),rfl⟩)) hb
  have:=(hall i (by omega)).1 B hD
  simpa [List.getD,List.getElem?_eq_getElem hlt] using this
 ·rcases Nat.eq_zero_or_pos len with h0|h0
  ·subst h0
   have:ys=[]:=by cases ys with|nil=>rfl|cons _ _=>simp at hys
   subst this
   exact .empty _ _ _ _ _ (fun h=>by cases h)
  ·have hsp:a.spot=none:=by
    obtain ⟨_,vs,hvl,hvc,_⟩:=hall 0 h0
    have:=hvc 0 hpos
    rw [List.getElem?_eq_getElem (by omega)] at this
    have:=cell?_spot this
    simpa [Addr.add] using this
   obtain ⟨b,off,sp⟩:=a
   simp only at hsp
   subst hsp
   have hu:∀ i j,i<len->j<k -> ∃ u,w.cell? ⟨b,off+(i*k+j),none⟩=some u∧u.oneCell'=true ∧ ∀ x,(c (ys.getD i d))[j]? = some x->Rep (Qe3 w) x u:=by
    intro i j hlt hj
    obtain ⟨_,vs,hvl,hvc,hr⟩:=hall i hlt
    have h1:=hvc j hj
    rw [List.getElem?_eq_getElem (by omega)] at h1
    rw [add_none] at h1
    refine ⟨vs[j]'(by omega),h1,hr.2 _ (List.getElem_mem _),fun x hx=>hr.1.2 j x _ hx (List.getElem?_eq_getElem (by omega))⟩
   have hrep:=Rep.seq (K:=Qe3 w) k len false (fun i=>c (ys.getD i d)) b off cap (fun i j=>(w.cell? ⟨b,off+(i*k+j),none⟩).getD default) hl (fun h=>by cases h) (fun i _=>hlen _)
    (fun i j hlt hj=>by
     obtain ⟨u,h1,h2,_⟩:=hu i j hlt hj
     rw [h1]
     exact worldCtx_M h1 h2)
    (fun i j x hlt hx=>by
     have hj:j<k:=by
      have:=(List.getElem?_eq_some_iff.1 hx).1
      rw [hlen] at this
      exact this
     obtain ⟨u,h1,_,h3⟩:=hu i j hlt hj
     rw [h1]
     exact h3 x hx)
   unfold listA
   rw [hys]
   exact hrep
def ReadFb (P:Program) (off:Nat) (fs:List Field) {α:Type} (c:α->List AVal) (G:Nat->α->Prop):Prop :=
 ∀ (H:Type) (enc:TypeId × Value->H) (w:World) (base:Nat) (spare:Nat->Bool) (held:Bool) (fuel:Nat) (cs:List Value) (M:Nat),
  (∀ f ∈ fs,∃ x,DataW.trod enc P w base spare held fuel f.type ((cs.drop f.offset).take (P.cellsOf f.type))=some x∧bk x.1<=M) -> ∃ a,(∀ B,M<=B->G B a)∧CellsRep (Qe3 w) (c a) ((cs.drop off).take ((fs.map fun f=>P.cellsOf f.type).sum))
theorem ReadFb.nil {off:Nat}:ReadFb P off [] (fun _:Unit=>[]) fun _ _=>True:=by
 intro H enc w base spare held fuel cs M _
 exact ⟨(),fun _ _=>trivial,by simp only [List.map_nil,List.sum_nil,List.take_zero];exact ⟨.nil _,fun v hv=>by simp at hv⟩⟩
theorem ReadFb.cons {off:Nat} {f:Field} {fs:List Field} {α β:Type} {c1:α->List AVal} {G1:Nat->α->Prop} {c2:β->List AVal} {G2:Nat->β->Prop} (ho:f.offset=off) (h1:ReadB P f.type c1 G1) (h2:ReadFb P (off+P.cellsOf f.type) fs c2 G2) :
  ReadFb P off (f :: fs) (fun p:α × β=>c1 p.1++c2 p.2) fun B p=>G1 B p.1∧G2 B p.2:=by
 intro H enc w base spare held fuel cs M hall
 obtain ⟨x,hx,hxM⟩:=hall f (List.mem_cons_self ..)
 obtain ⟨a,ha,hra⟩:=h1 H enc w base spare held fuel _ x hx
 obtain ⟨b,hb,hrb⟩:=h2 H enc w base spare held fuel cs M fun g hg=>hall g (List.mem_cons_of_mem _ hg)
 refine ⟨(a,b),fun B hB=>⟨ha B (Nat.le_trans hxM hB),hb B hB⟩,?_⟩
 rw [ho] at hra
 rw [← List.drop_drop] at hrb
 simp only [List.map_cons,List.sum_cons]
 rw [List.take_add]
 exact ⟨hra.1.append hrb.1,fun v hv=>by
  rcases List.mem_append.1 hv with h|h
  ·exact hra.2 v h
  ·exact hrb.2 v h⟩
theorem ReadB.struct {fs:Array Field} {α:Type} {c:α->List AVal} {G:Nat->α->Prop} (ht:P.underlying t=some (.struct fs)) (hs:(fs.toList.map fun f=>P.cellsOf f.type).sum=P.cellsOf t) (h:ReadFb P 0 fs.toList c G):ReadB P t c G:=by
 intro H enc w base spare held fuel cs x hx
 obtain ⟨xs,n,_,hxe,hlen,hxs,hf⟩:=DataW.trod_struct ht hx
 have hbx:∀ y ∈ xs,bk y.1<=bk x.1:=by
  intro y hy
  rw [hxe]
  have:=bk_mem (List.mem_map.2 ⟨y,hy,rfl⟩:y.1 ∈ xs.map (·.1))
  simp only [bk,bkAll,Rows.uptoBulk] at *
  omega
 obtain ⟨a,ha,hr⟩:=h H enc w base spare held n cs (bk x.1) fun f hfm=>by
  obtain ⟨i,hi,rfl⟩:=List.getElem_of_mem hfm
  have hi':i<fs.size:=by simpa using hi
  have:=hf i fs[i] (Array.getElem?_eq_getElem hi')
  rw [List.getElem?_eq_getElem (by omega)] at this
  exact ⟨_,by simpa using this,hbx _ (List.getElem_mem _)⟩
 refine ⟨a,ha,?_⟩
 rw [hs,List.drop_zero,List.take_of_length_le (by omega)] at hr
 exact hr
end Go.Proofs.YtiiaifgeekdpaaaGreatDoor
namespace Go.Proofs.YtiiaifgeekdpaaaGreatDoor
set_option linter.unusedSimpArgs false
set_option linter.unusedVariables false
open Go.Fw Go.RowKit Go.ChangeShapes Go.WideShapes Go.Deep
def ArgB (P:Program) (t:TypeId) {α:Type} (x:α->AVal) (G:Nat->α->Prop):Prop :=
 ∀ (H:Type) (enc:TypeId × Value->H) (w:World) (base:Nat) (v:Value) (d:DataW H) (ps:List MemPlace),
  Value.okWide P w .any base t v->DataW.Trod enc P w 0 (fun _=>true) true t v d ps -> ∃ a,(∀ B,bk d<=B->G B a)∧Rep (Qe3 w) (x a) v
variable {P:Program} {t:TypeId}
theorem ArgB.struct {α:Type} {c:α->List AVal} {G:Nat->α->Prop} {fs:Array Field} (ht:P.underlying t=some (.struct fs)) (h:ReadB P t c G):ArgB P t (fun a=>.agg (c a)) G:=by
 intro H enc w base v d ps hv hd
 obtain ⟨cs,rfl,_⟩:=okWide_struct ht hv
 obtain ⟨fuel,hf⟩:=hd
 obtain ⟨y,hy,hr⟩:=h H enc w _ _ _ fuel _ _ hf
 have hr:CellsRep (Qe3 w) (c y) cs.toList:=by simpa [Value.cells] using hr
 refine ⟨y,hy,?_⟩
 have:=Rep.agg (K:=Qe3 w) (c y) cs.toList hr.1.1 hr.2 hr.1.2
 simpa using this
inductive ArgsB (P:Program):List TypeId->(Nat->List AVal->Prop)->Prop where
 | nil:ArgsB P [] (fun _ l=>l=[])
 | cons (t:TypeId) (ts:List TypeId) {α:Type} (x:α->AVal) (G:Nat->α->Prop) (Q:Nat->List AVal->Prop) (h:ArgB P t x G) (r:ArgsB P ts Q):ArgsB P (t :: ts) (fun B l=>∃ a m,G B a∧Q B m∧l=x a :: m)
theorem ArgsB.read {ts:List TypeId} {Q:Nat->List AVal->Prop} (h:ArgsB P ts Q) {H:Type} {enc:TypeId × Value->H} {w:World} {base B:Nat}:∀ {vs:List Value} {ds:List (DataW H)} {ps:List MemPlace},
  (∀ (j:Nat) t v,ts[j]? = some t->vs[j]? = some v->Value.okWide P w .any base t v)->DataW.TrodAll enc P w 0 (fun _=>true) true ts vs ds ps->bkAll ds<=B -> ∃ l,Q B l∧Reps (Qe3 w) l vs:=by
 induction h with
 | nil =>
  intro vs ds ps hv h _
  obtain ⟨rfl,rfl,rfl⟩:=trodAll_nil h
  exact ⟨[],rfl,.nil _⟩
 | cons t ts x G Q hx _ ih =>
  intro vs ds ps hv h hB
  obtain ⟨v,vs',d,ds',p,q,rfl,rfl,rfl,hd,hrest⟩:=trodAll_cons h
  simp only [bkAll,Rows.uptoBulkAll] at hB
  obtain ⟨a,ha,hr⟩:=hx H enc w base v d p (hv 0 t v rfl rfl) hd
  obtain ⟨m,hm,hrm⟩:=ih (fun j t v hj hv'=>hv (j+1) t v (by simpa using hj) (by simpa using hv')) hrest (by simp only [bkAll];omega)
  exact ⟨x a :: m,⟨a,m,ha B (by simp only [bk];omega),hm,rfl⟩,.cons hr hrm⟩
theorem law_post {C:Checked} {f:FuncId} {fn:Func} {s:ChangeSpec} {apart fresh handsOn again:Bool} {H:Type} {enc:TypeId × Value->H} {Q:Nat->List AVal->Prop} {tb:TypeId}
  (hvars:s.vars=[]) (hres:fn.resultTypes = #[tb]) (hbool:C.prog.underlying tb=some .bool) (laid:laidOutB C.prog=true)
  (hts:fn.params.toList.all (fun t=>C.prog.readableRec t&&decide (t<C.prog.types.size))=true)
  (hspec:∀ ds:List (DataW H),ds.length=fn.params.size->s.fn H ds={ results:=[.lit (.bool true)],args:=ds })
  (hargs:ArgsB C.prog fn.params.toList Q) (hlaw:∀ l,Q 1048576 l->AGives C.prog f l [] (.lit (.bool true)))
  (W:World) (base:Nat) (args:Array Value) (ds gs:List (DataW H)) (before:List MemPlace)
  (hval:∀ (j:Nat) t v,fn.params[j]? = some t->args[j]? = some v->Value.okWide C.prog W .any base t v)
  (hW:DataW.Whole enc C.prog fn.params.toList s.vars apart W args.toList ds gs before) (hk:Rows.uptoSmall H (ds++gs)=true) :
  Calls C.prog f args W fun e W'=>∃ v,e = .returned v∧s.post enc C.prog fn apart fresh handsOn again W args v W':=by
 have hW':=hW
 obtain ⟨p,q,hA,hV,hpq,hfz,hnd⟩:=hW
 rw [hvars] at hV
 obtain ⟨rfl,rfl⟩:=trodVars_none hV
 rw [List.append_nil] at hpq
 subst hpq
 rw [List.append_nil] at hk
 obtain ⟨l,hQ,hreps⟩:=hargs.read (base:=base) (B:=1048576) (vs:=args.toList) (fun j t v hj hv=>hval j t v (by simpa using hj) (by simpa using hv)) hA (of_decide_eq_true hk)
 have hc:=law_calls (hlaw l hQ) hreps
 rw [show args.toList.toArray=args by simp] at hc
 refine hc.mono fun e W' ⟨he,hb⟩=>?_
 subst he
 have hlen:ds.length=fn.params.size:=by
  have:∀ {ts:List TypeId} {vs:List Value} {ds:List (DataW H)} {ps:List MemPlace},DataW.TrodAll enc C.prog W 0 (fun _=>true) true ts vs ds ps->ds.length=ts.length:=by
   intro ts
   induction ts with
   | nil=>intro vs ds ps h;obtain ⟨rfl,rfl,rfl⟩:=trodAll_nil h;rfl
   | cons t ts ih=>intro vs ds ps h;obtain ⟨v,vs',d,ds',p,q,rfl,rfl,rfl,hd,hrest⟩:=trodAll_cons h;simp [ih hrest]
  simpa using this hA
 have hfn2:=hspec ds hlen
 have hold:∀ p ∈ before,p.block<W.heap.size:=fun p hp=>by simpa using hW'.lt p hp
 have hR:∀ (b:Nat) (sp:Nat->Bool) (hd:Bool),DataW.TrodAll enc C.prog W' b sp hd fn.resultTypes.toList ((Value.bool true).resultList fn.resultTypes.size) (s.fn H (ds++[])).results []:=by
  intro b sp hd
  rw [List.append_nil,hfn2,hres]
  exact trodAll_cons_mk (shut_bool hbool _) trodAll_mk0
 have hAr:∀ sp:Nat->Bool,(∀ p ∈ before,sp p.block=true)->DataW.TrodAll enc C.prog W' 0 sp true fn.params.toList args.toList (s.fn H (ds++[])).args before:=by
  intro sp hsp
  rw [List.append_nil,hfn2]
  exact QQ9 laid hb hts hA hold hsp
 have hVr:∀ sp:Nat->Bool,DataW.TrodVars enc C.prog W' sp s.vars (s.fn H (ds++[])).vars []:=by
  intro sp
  rw [List.append_nil,hfn2,hvars]
  rfl
 refine ⟨_,rfl,ds,[],before,[],before,[],hW',hR _ _ _,hAr _ (fun p hp=>by simpa using hold p hp),hVr _,hb.frame _,fun _=>⟨ok_one hres rfl (okWide_bool_mk hbool _),_,_,([]++before)++[],⟨[]++before,[],trodAll_append (hAr _ (fun _ _=>rfl)) (hR _ _ _),hVr _,rfl,?_,?_⟩,?_⟩⟩
 ·intro b off hp
  have hp:MemPlace.cell b off ∈ before:=by simpa using hp
  rw [hb.frozen (p:=⟨b,off,none⟩) (hold _ hp)]
  exact hfz b off (by simpa using hp)
 ·intro ha
  simpa using hnd ha
 ·intro p hp _
  simpa using hp
end Go.Proofs.YtiiaifgeekdpaaaGreatDoor
namespace Go.Proofs.YtiiaifgeekdpaaaGreatDoor
set_option linter.unusedSimpArgs false
set_option linter.unusedVariables false
open Go.Fw
set_option maxRecDepth 100000
def Node.wfb (B:Nat) (x:Node):Prop:=(Lit.int .i64 x.state).wf=true∧(Lit.int .i64 x.job).wf=true∧(Lit.int .i64 x.epoch).wf=true∧True∧(Lit.int .i64 x.want).wf=true∧(Lit.int .i64 x.since).wf=true∧(Lit.int .i64 x.asked).wf=true∧True
theorem readNodeb:ReadB Tryz.prog 54 Node.cells Node.wfb:=by
 have h:=ReadB.struct (P:=Tryz.prog) (t:=54) rfl (by kernel_rfl) (.cons rfl (ReadB.of (ReadAs.int ty0)) (.cons rfl (ReadB.of (ReadAs.int ty0)) (.cons rfl (ReadB.of (ReadAs.int ty0)) (.cons rfl (ReadB.of (ReadAs.bool ty1)) (.cons rfl (ReadB.of (ReadAs.int ty0)) (.cons rfl (ReadB.of (ReadAs.int ty0)) (.cons rfl (ReadB.of (ReadAs.int ty0)) .nil)))))))
 exact h.map (fun p=>(⟨p.1,p.2.1,p.2.2.1,p.2.2.2.1,p.2.2.2.2.1,p.2.2.2.2.2.1,p.2.2.2.2.2.2.1⟩:Node)) (fun _=>rfl) (fun _ _ h=>h)
theorem readNodesb:ReadB Tryz.prog 22 (fun l=>[nodeL l]) fun B l=>l.length<=B ∧ ∀ a ∈ l,Node.wfb B a :=
 ReadB.slice Node.zero rfl (by kernel_rfl) (by decide) readNodeb (fun _=>rfl)
def Alt.wfb (B:Nat) (x:Alt):Prop:=(Lit.int .i64 x.nodes).wf=true∧(Lit.int .i64 x.wall).wf=true∧True
theorem readAltb:ReadB Tryz.prog 87 Alt.cells Alt.wfb:=by
 have h:=ReadB.struct (P:=Tryz.prog) (t:=87) rfl (by kernel_rfl) (.cons rfl (ReadB.of (ReadAs.int ty0)) (.cons rfl (ReadB.of (ReadAs.int ty0)) .nil))
 exact h.map (fun p=>(⟨p.1,p.2.1⟩:Alt)) (fun _=>rfl) (fun _ _ h=>h)
theorem readAltsb:ReadB Tryz.prog 40 (fun l=>[altL l]) fun B l=>l.length<=B ∧ ∀ a ∈ l,Alt.wfb B a :=
 ReadB.slice Alt.zero rfl (by kernel_rfl) (by decide) readAltb (fun _=>rfl)
def Shape.wfb (B:Nat) (x:Shape):Prop:=(Lit.int .i64 x.kind).wf=true∧(x.alts.length<=B ∧ ∀ a ∈ x.alts,Alt.wfb B a)∧(Lit.int .i64 x.min).wf=true∧(Lit.int .i64 x.max).wf=true∧(Lit.int .i64 x.wall).wf=true∧True
theorem readShapeb:ReadB Tryz.prog 42 Shape.cells Shape.wfb:=by
 have h:=ReadB.struct (P:=Tryz.prog) (t:=42) rfl (by kernel_rfl) (.cons rfl (ReadB.of (ReadAs.int ty0)) (.cons rfl (readAltsb) (.cons rfl (ReadB.of (ReadAs.int ty0)) (.cons rfl (ReadB.of (ReadAs.int ty0)) (.cons rfl (ReadB.of (ReadAs.int ty0)) .nil)))))
 exact h.map (fun p=>(⟨p.1,p.2.1,p.2.2.1,p.2.2.2.1,p.2.2.2.2.1⟩:Shape)) (fun _=>rfl) (fun _ _ h=>h)
def Dep.wfb (B:Nat) (x:Dep):Prop:=(Lit.int .i64 x.how).wf=true∧(Lit.int .i64 x.job).wf=true∧True
theorem readDepb:ReadB Tryz.prog 114 Dep.cells Dep.wfb:=by
 have h:=ReadB.struct (P:=Tryz.prog) (t:=114) rfl (by kernel_rfl) (.cons rfl (ReadB.of (ReadAs.int ty0)) (.cons rfl (ReadB.of (ReadAs.int ty0)) .nil))
 exact h.map (fun p=>(⟨p.1,p.2.1⟩:Dep)) (fun _=>rfl) (fun _ _ h=>h)
theorem readDepsb:ReadB Tryz.prog 43 (fun l=>[depL l]) fun B l=>l.length<=B ∧ ∀ a ∈ l,Dep.wfb B a :=
 ReadB.slice Dep.zero rfl (by kernel_rfl) (by decide) readDepb (fun _=>rfl)
def Job.wfb (B:Nat) (x:Job):Prop:=(Lit.int .i64 x.id).wf=true∧x.name.size<=B∧x.user.size<=B∧x.account.size<=B∧Shape.wfb B x.shape∧(Lit.int .i64 x.prio).wf=true∧(x.after.length<=B ∧ ∀ a ∈ x.after,Dep.wfb B a)∧(Lit.int .i64 x.state).wf=true∧True∧(Lit.int .i64 x.born).wf=true∧(Lit.int .i64 x.promise).wf=true∧(Lit.int .i64 x.choice).wf=true∧(Lit.int .i64 x.start).wf=true∧(Lit.int .i64 x.limit).wf=true∧(Lit.int .u64 x.nodes).wf=true∧(Lit.int .i64 x.used).wf=true∧True
theorem readJobb:ReadB Tryz.prog 46 Job.cells Job.wfb:=by
 have h:=ReadB.struct (P:=Tryz.prog) (t:=46) rfl (by kernel_rfl) (.cons rfl (ReadB.of (ReadAs.int ty0)) (.cons rfl (ReadB.string ty2) (.cons rfl (ReadB.string ty2) (.cons rfl (ReadB.string ty2) (.cons rfl (readShapeb) (.cons rfl (ReadB.of (ReadAs.int ty0)) (.cons rfl (readDepsb) (.cons rfl (ReadB.of (ReadAs.int ty0)) (.cons rfl (ReadB.of (ReadAs.bool ty1)) (.cons rfl (ReadB.of (ReadAs.int ty0)) (.cons rfl (ReadB.of (ReadAs.int ty0)) (.cons rfl (ReadB.of (ReadAs.int ty0)) (.cons rfl (ReadB.of (ReadAs.int ty0)) (.cons rfl (ReadB.of (ReadAs.int ty0)) (.cons rfl (ReadB.of (ReadAs.int ty3)) (.cons rfl (ReadB.of (ReadAs.int ty0)) .nil))))))))))))))))
 exact h.map (fun p=>(⟨p.1,p.2.1,p.2.2.1,p.2.2.2.1,p.2.2.2.2.1,p.2.2.2.2.2.1,p.2.2.2.2.2.2.1,p.2.2.2.2.2.2.2.1,p.2.2.2.2.2.2.2.2.1,p.2.2.2.2.2.2.2.2.2.1,p.2.2.2.2.2.2.2.2.2.2.1,p.2.2.2.2.2.2.2.2.2.2.2.1,p.2.2.2.2.2.2.2.2.2.2.2.2.1,p.2.2.2.2.2.2.2.2.2.2.2.2.2.1,p.2.2.2.2.2.2.2.2.2.2.2.2.2.2.1,p.2.2.2.2.2.2.2.2.2.2.2.2.2.2.2.1⟩:Job)) (fun _=>rfl) (fun _ _ h=>h)
theorem readJobsb:ReadB Tryz.prog 23 (fun l=>[jobL l]) fun B l=>l.length<=B ∧ ∀ a ∈ l,Job.wfb B a :=
 ReadB.slice Job.zero rfl (by kernel_rfl) (by decide) readJobb (fun _=>rfl)
def Resize.wfb (B:Nat) (x:Resize):Prop:=(Lit.int .i64 x.job).wf=true∧True∧(Lit.int .u64 x.nodes).wf=true∧(Lit.int .u64 x.said).wf=true∧(Lit.int .i64 x.since).wf=true∧True
theorem readResizeb:ReadB Tryz.prog 279 Resize.cells Resize.wfb:=by
 have h:=ReadB.struct (P:=Tryz.prog) (t:=279) rfl (by kernel_rfl) (.cons rfl (ReadB.of (ReadAs.int ty0)) (.cons rfl (ReadB.of (ReadAs.bool ty1)) (.cons rfl (ReadB.of (ReadAs.int ty3)) (.cons rfl (ReadB.of (ReadAs.int ty3)) (.cons rfl (ReadB.of (ReadAs.int ty0)) .nil)))))
 exact h.map (fun p=>(⟨p.1,p.2.1,p.2.2.1,p.2.2.2.1,p.2.2.2.2.1⟩:Resize)) (fun _=>rfl) (fun _ _ h=>h)
theorem readResizesb:ReadB Tryz.prog 24 (fun l=>[Qt6 l]) fun B l=>l.length<=B ∧ ∀ a ∈ l,Resize.wfb B a :=
 ReadB.slice Resize.zero rfl (by kernel_rfl) (by decide) readResizeb (fun _=>rfl)
def Book.wfb (B:Nat) (x:Book):Prop:=(Lit.int .i64 x.id).wf=true∧(Lit.int .i64 x.from_).wf=true∧(Lit.int .i64 x.to).wf=true∧(Lit.int .i64 x.nodes).wf=true∧True
theorem readBookb:ReadB Tryz.prog 92 Book.cells Book.wfb:=by
 have h:=ReadB.struct (P:=Tryz.prog) (t:=92) rfl (by kernel_rfl) (.cons rfl (ReadB.of (ReadAs.int ty0)) (.cons rfl (ReadB.of (ReadAs.int ty0)) (.cons rfl (ReadB.of (ReadAs.int ty0)) (.cons rfl (ReadB.of (ReadAs.int ty0)) .nil))))
 exact h.map (fun p=>(⟨p.1,p.2.1,p.2.2.1,p.2.2.2.1⟩:Book)) (fun _=>rfl) (fun _ _ h=>h)
theorem readBooksb:ReadB Tryz.prog 25 (fun l=>[bookL l]) fun B l=>l.length<=B ∧ ∀ a ∈ l,Book.wfb B a :=
 ReadB.slice Book.zero rfl (by kernel_rfl) (by decide) readBookb (fun _=>rfl)
def Usage.wfb (B:Nat) (x:Usage):Prop:=x.user.size<=B∧x.account.size<=B∧(Lit.int .i64 x.used).wf=true∧(Lit.int .i64 x.share).wf=true∧True
theorem readUsageb:ReadB Tryz.prog 101 Usage.cells Usage.wfb:=by
 have h:=ReadB.struct (P:=Tryz.prog) (t:=101) rfl (by kernel_rfl) (.cons rfl (ReadB.string ty2) (.cons rfl (ReadB.string ty2) (.cons rfl (ReadB.of (ReadAs.int ty0)) (.cons rfl (ReadB.of (ReadAs.int ty0)) .nil))))
 exact h.map (fun p=>(⟨p.1,p.2.1,p.2.2.1,p.2.2.2.1⟩:Usage)) (fun _=>rfl) (fun _ _ h=>h)
theorem readUsagesb:ReadB Tryz.prog 26 (fun l=>[Qa7 l]) fun B l=>l.length<=B ∧ ∀ a ∈ l,Usage.wfb B a :=
 ReadB.slice Usage.zero rfl (by kernel_rfl) (by decide) readUsageb (fun _=>rfl)
def State.wfb (B:Nat) (x:State):Prop:=(Lit.int .i64 x.now).wf=true∧(x.nodes.length<=B ∧ ∀ a ∈ x.nodes,Node.wfb B a)∧(x.jobs.length<=B ∧ ∀ a ∈ x.jobs,Job.wfb B a)∧(x.resizes.length<=B ∧ ∀ a ∈ x.resizes,Resize.wfb B a)∧(x.books.length<=B ∧ ∀ a ∈ x.books,Book.wfb B a)∧(x.ledger.length<=B ∧ ∀ a ∈ x.ledger,Usage.wfb B a)∧(Lit.int .i64 x.nextJob).wf=true∧(Lit.int .i64 x.nextBook).wf=true∧True
theorem readStateb:ReadB Tryz.prog 28 State.cells State.wfb:=by
 have h:=ReadB.struct (P:=Tryz.prog) (t:=28) rfl (by kernel_rfl) (.cons rfl (ReadB.of (ReadAs.int ty0)) (.cons rfl (readNodesb) (.cons rfl (readJobsb) (.cons rfl (readResizesb) (.cons rfl (readBooksb) (.cons rfl (readUsagesb) (.cons rfl (ReadB.of (ReadAs.int ty0)) (.cons rfl (ReadB.of (ReadAs.int ty0)) .nil))))))))
 exact h.map (fun p=>(⟨p.1,p.2.1,p.2.2.1,p.2.2.2.1,p.2.2.2.2.1,p.2.2.2.2.2.1,p.2.2.2.2.2.2.1,p.2.2.2.2.2.2.2.1⟩:State)) (fun _=>rfl) (fun _ _ h=>h)
theorem Shape.wfb_sz {B N:Nat} (hB:B<=N) {x:Shape} (h:x.wfb B):x.szN N:=Nat.le_trans h.2.1.1 hB
theorem Job.wfb_sz {B N:Nat} (hB:B<=N) {x:Job} (h:x.wfb B):x.szN N:=⟨Nat.le_trans h.2.1 hB,Nat.le_trans h.2.2.1 hB,Nat.le_trans h.2.2.2.1 hB,Shape.wfb_sz hB h.2.2.2.2.1,Nat.le_trans h.2.2.2.2.2.2.1.1 hB⟩
theorem Usage.wfb_sz {B N:Nat} (hB:B<=N) {x:Usage} (h:x.wfb B):x.szN N:=⟨Nat.le_trans h.1 hB,Nat.le_trans h.2.1 hB⟩
theorem State.wfb_sz {B N:Nat} (hB:B<=N) {x:State} (h:x.wfb B):x.szN N :=
 ⟨Nat.le_trans h.2.1.1 hB,Nat.le_trans h.2.2.1.1 hB,fun y hy=>Job.wfb_sz hB (h.2.2.1.2 y hy),Nat.le_trans h.2.2.2.1.1 hB,Nat.le_trans h.2.2.2.2.1.1 hB,Nat.le_trans h.2.2.2.2.2.1.1 hB,fun y hy=>Usage.wfb_sz hB (h.2.2.2.2.2.1.2 y hy)⟩
end Go.Proofs.YtiiaifgeekdpaaaGreatDoor
namespace Go.Proofs.YtiiaifgeekdpaaaGreatDoor
set_option linter.unusedSimpArgs false
set_option linter.unusedVariables false
open Go.Fw Go.RowKit Go.ChangeShapes Go.WideShapes
theorem lawOwn:ownKnob Tryz.prog.godebug=none:=by kernel_rfl
theorem lawLaid:laidOutB Tryz.prog=true:=by kernel_rfl
theorem lawBool:Tryz.prog.underlying 4 = some .bool:=by kernel_rfl
set_option maxRecDepth 100000 in
theorem lawDoor (os:Os) (args:Array Value):laidMetH Tryz.prog Rows.roomNowUptoRow.laid ((World.doorLaid Tryz.prog 400 os).forCall (fun _ _=>0) ⟨#[],args,[]⟩).memory :=
 laidMetH_of_parts3 (fuel:=8) (laidMet_of_run' 8 (by kernel_rfl) (by kernel_rfl)) (by kernel_rfl) (by kernel_rfl)
set_option maxRecDepth 100000 in
theorem roomNow_reads (os:Os) {H:Type} (enc:TypeId × Value->H):DataW.whole enc Tryz.prog ((World.doorLaid Tryz.prog 400 os).forCall (fun _ _=>0) ⟨#[],#[.agg #[.int .i64 0,.slice none 0 0,.slice none 0 0,.slice none 0 0,.slice none 0 0,.slice none 0 0,.int .i64 0,.int .i64 0]],[]⟩).memory Tryz.f5.params.toList Rows.roomNowSpec.vars false #[.agg #[.int .i64 0,.slice none 0 0,.slice none 0 0,.slice none 0 0,.slice none 0 0,.slice none 0 0,.int .i64 0,.int .i64 0]].toList 8=some ([.agg [.lit (.int .i64 0),.nil,.nil,.nil,.nil,.nil,.lit (.int .i64 0),.lit (.int .i64 0)]],[],[]):=by kernel_rfl
set_option maxRecDepth 100000 in
theorem roomNow_lifted (law:∀ (a0:State),State.wfb 1048576 a0->AGives Tryz.prog 5 [State.a a0] [] (.lit (.bool true))) (os:Os) (started:os.Started) (H:Type) (enc:TypeId × Value->H) (F:Stop.Interp) :
  ReturnsInHanded {} Tryz.checked os 5 .any ((Rows.OpenSpec.upto Rows.roomNowSpec).preRow enc Tryz.prog Tryz.f5 Rows.roomNowUptoRow.domain false Rows.roomNowUptoRow.laid) (((Rows.OpenSpec.upto Rows.roomNowSpec).at F).post enc Tryz.prog Tryz.f5 false true false false):=by
 refine returnsInHanded_of_row (C:=Tryz.checked) (s:=Rows.OpenSpec.upto Rows.roomNowSpec) lawOwn started (by kernel_rfl) Tryz.func5
  (witness_row_atRef (enc:=enc) (C:=Tryz.checked) false (World.doorLaid Tryz.prog 400 os) #[.agg #[.int .i64 0,.slice none 0 0,.slice none 0 0,.slice none 0 0,.slice none 0 0,.slice none 0 0,.int .i64 0,.int .i64 0]] rfl (by kernel_rfl) (by kernel_rfl) (by kernel_rfl)
   (OpenSpec.preRow_of_cond 8 (roomNow_reads os enc) (by kernel_rfl) (fun k hk=>by cases hk;kernel_rfl) (by kernel_rfl) (lawDoor os _))) ?_
 intro W base args ds gs before hval hW _ hk _ _ _ _
 refine law_post (fn:=Tryz.f5) (f:=5) (s:=Rows.roomNowSpec) (C:=Tryz.checked) (tb:=4) rfl (by kernel_rfl) lawBool lawLaid (by kernel_rfl) ?_
  (.cons _ _ _ _ _ (ArgB.struct rfl readStateb) .nil) ?_ W base args ds gs before hval hW (hk _ rfl)
 ·intro ds hd
  match ds,hd with
  | [_],_=>rfl
 ·rintro l ⟨a0,m0,g0,rfl,rfl⟩
  exact law a0 g0
theorem roomNow_holds0 (law:∀ (a0:State),State.wfb 1048576 a0->AGives Tryz.prog 5 [State.a a0] [] (.lit (.bool true))):Rows.RoomNowUptoSaid :=
 OpenClaim.holds_of_cond 5 Tryz.f5 rfl rfl rfl rfl rfl rfl rfl ⟨rfl,rfl,rfl,rfl,rfl⟩ rfl rfl rfl rfl rfl (by kernel_rfl) Tryz.func5 (by kernel_rfl)
  (of_decide_eq_true (by kernel_rfl)) (by unfold Func.isWrapper;first|(rw [if_pos (by decide +kernel)];kernel_rfl)|(rw [if_neg (by decide +kernel)];exact ⟨rfl,rfl⟩))
  (fun os started H enc _ F=>by rw [OpenClaim.pre_eq_preRow];exact roomNow_lifted law os started H enc F)
theorem roomNow_card0 (law:∀ (a0:State),State.wfb 1048576 a0->AGives Tryz.prog 5 [State.a a0] [] (.lit (.bool true))):Rows.RoomNowUptoCardSaid :=
 Claim7.holds_tied_plain_at .later [] [.data, .data, .data, .sentinel, .sentinel] true (true, "d3e32341b8367b555bd965d08c0025777ca31e742c62422c152c68100ac60a6e") true
  (roomNow_holds0 law) (fun _ h=>by cases h) (by kernel_rfl) (fun _ h=>by cases h) roomNowUpto_row_tie rfl ⟨rfl,rfl⟩ (by kernel_rfl) rfl
  (fun f fn hf hfn=>by
   obtain rfl : f = 5 := Option.some.inj ((show Tryz.prog.funcNamed "muster/musterlaw20.RoomNow" = some 5 by kernel_rfl).symm.trans hf) |>.symm
   obtain rfl:fn = Tryz.f5:=(Option.some.inj (Tryz.func5.symm.trans hfn)).symm
   exact ⟨by kernel_rfl,fun j t ht=>by
    rcases j with _|j
    ·obtain rfl:t = 28:=(Option.some.inj ((show Tryz.f5.params[0]? = some 28 by kernel_rfl).symm.trans ht)).symm
     exact (show Tryz.prog.wantsStandIn 28 = false by kernel_rfl)
    ·exact absurd ht (by rw [show Tryz.f5.params[j+1]? = none from Array.getElem?_eq_none (by show Tryz.f5.params.size<=j+1;rw [show Tryz.f5.params.size=1 by kernel_rfl];omega)];exact fun h=>nomatch h)⟩)
  (by kernel_rfl)
#print axioms roomNow_card0
end Go.Proofs.YtiiaifgeekdpaaaGreatDoor
namespace Go.Proofs.YtiiaifgeekdpaaaGreatDoor
set_option linter.unusedSimpArgs false
set_option linter.unusedVariables false
open Go.Fw
theorem roomNow_gives (a:State) (ha:State.wfb 1048576 a):AGives Tryz.prog 5 [State.a a] [] (.lit (.bool true)):=by
 have hs:a.sz:=State.wfb_sz (by decide) ha
 have h:=law20_RoomNow_c a (State.wfb_sz (by decide) ha) hs []
 rw [roomNow_true hs (fun x hx=>wf_u64 (by have:=ha.2.2.1.2 x hx;unfold Job.wfb at this;exact this.2.2.2.2.2.2.2.2.2.2.2.2.2.2.1)) Qca] at h
 exact h
theorem roomNow_card:Rows.RoomNowUptoCardSaid:=roomNow_card0 roomNow_gives
#print axioms roomNow_card
end Go.Proofs.YtiiaifgeekdpaaaGreatDoor
