/-
  What the last text of this claim leans on: an evaluator over the code, contracts of functions, plain laws. Conditions stand in each statement.
-/
import Derived.Test.YtldebhdmhpopaaaGreatDoorRL5
import Derived.LaidMore
import Derived.Stop.Joined
import Derived.JoinedOf
import Derived.Handed
import Derived.OpenShut
import Derived.KernelRfl
import Derived.Test.YtldebhdmhpopaaaGreatDoorRL7
import Derived.Test.YtldebhdmhpopaaaGreatDoorProg
namespace Go.Fw
set_option linter.unusedSimpArgs false
set_option linter.unusedVariables false
open Go.RowKit Go.ChangeShapes Go.WideShapes Go.Deep
theorem Qkd {C:Checked} {os:Os} {f:FuncId} {fn:Func} {s:ChangeSpec} {laid0:List (String × DataW Unit)} {conds:List PathCond} {apart fresh handsOn again:Bool} {H:Type} {enc:TypeId × Value->H} {Q:List AVal->Prop} {tb:TypeId}
  (own:ownKnob C.prog.godebug=none) (started:os.Started) (noInit:C.prog.inits.idxOf? f=none) (hfn:C.prog.funcs[f]? = some fn)
  (witness:∃ (w:World) (tape:Tape) (i:Input),w.os=os∧(w.forCall tape i).Shaped C.prog∧i.vars=[]∧Input.okWide C.prog (w.forCall tape i) .any w.heap.size f i ∧
   ((s.pre enc C.prog fn conds apart (w.forCall tape i).memory i.args∧laidMetH C.prog laid0 (w.forCall tape i).memory)∧sizedMet enc C.prog fn (OpenSpec.ofChange s) apart (w.forCall tape i).memory i.args)∧({}:Assume).holds C.prog (lone (Frame.enter C.prog f i.args .normal) [] (w.forCall tape i)))
  (hvars:s.vars=[]) (hres:fn.resultTypes = #[tb]) (hbool:C.prog.underlying tb=some .bool) (laid:laidOutB C.prog=true)
  (hts:fn.params.toList.all (fun t=>C.prog.readableRec t&&decide (t<C.prog.types.size))=true)
  (hspec:∀ ds:List (DataW H),ds.length=fn.params.size->s.fn H ds={ results:=[.lit (.bool true)],args:=ds })
  (hargs:ArgsAs C.prog fn.params.toList Q) (hlaw:∀ l,Q l->AGives C.prog f l [] (.lit (.bool true))) :
  ReturnsInHanded {} C os f .any (fun w args=>(s.pre enc C.prog fn conds apart w args∧laidMetH C.prog laid0 w)∧sizedMet enc C.prog fn (OpenSpec.ofChange s) apart w args) (s.post enc C.prog fn apart fresh handsOn again):=by
 refine returnsInHanded_of_change_and (X:=fun w _=>laidMetH C.prog laid0 w) (fun _ _ _ hh h=>h.of_heap hh) own started noInit hfn witness ?_
 intro W base args ds gs before hval hW hcnd _ _ _
 have hW':=hW
 obtain ⟨p,q,hA,hV,hpq,hfz,hnd⟩:=hW
 rw [hvars] at hV
 obtain ⟨rfl,rfl⟩:=trodVars_none hV
 rw [List.append_nil] at hpq
 subst hpq
 obtain ⟨l,hQ,hreps⟩:=hargs.read (base:=base) (vs:=args.toList) (fun j t v hj hv=>hval j t v (by simpa using hj) (by simpa using hv)) hA
 have hc:=law_calls (hlaw l hQ) hreps
 rw [show args.toList.toArray=args by simp] at hc
 refine hc.mono fun e W' ⟨he,hb⟩=>?_
 subst he
 have hlen:ds.length=fn.params.size:=by
  have:∀ {ts:List TypeId} {vs:List Value} {ds:List (DataW H)} {ps:List MemPlace},DataW.TrodAll enc C.prog W 0 (fun _=>true) true ts vs ds ps->ds.length=ts.length:=by
   intro ts
   induction ts with
   | nil=>intro vs ds ps h;obtain ⟨rfl,rfl,rfl⟩:=trodAll_nil h;rfl
   | cons t ts ih=>intro vs ds ps h;obtain ⟨v,vs',d,ds',p,q,rfl,rfl,rfl,hd,hrest⟩:=trodAll_cons h;simp [ih hrest]
  simpa using this hA
 have hfn2:=hspec ds hlen
 have hold:∀ p ∈ before,p.block<W.heap.size:=fun p hp=>by simpa using hW'.lt p hp
 have hR:∀ (b:Nat) (sp:Nat->Bool) (hd:Bool),DataW.TrodAll enc C.prog W' b sp hd fn.resultTypes.toList ((Value.bool true).resultList fn.resultTypes.size) (s.fn H (ds++[])).results []:=by
  intro b sp hd
  rw [List.append_nil,hfn2,hres]
  exact trodAll_cons_mk (shut_bool hbool _) trodAll_mk0
 have hAr:∀ sp:Nat->Bool,(∀ p ∈ before,sp p.block=true)->DataW.TrodAll enc C.prog W' 0 sp true fn.params.toList args.toList (s.fn H (ds++[])).args before:=by
  intro sp hsp
  rw [List.append_nil,hfn2]
  exact Q5b laid hb hts hA hold hsp
 have hVr:∀ sp:Nat->Bool,DataW.TrodVars enc C.prog W' sp s.vars (s.fn H (ds++[])).vars []:=by
  intro sp
  rw [List.append_nil,hfn2,hvars]
  rfl
 refine ⟨_,rfl,ds,[],before,[],before,[],hW',hR _ _ _,hAr _ (fun p hp=>by simpa using hold p hp),hVr _,hb.frame _,fun _=>⟨ok_one hres rfl (okWide_bool_mk hbool _),_,_,([]++before)++[],⟨[]++before,[],trodAll_append (hAr _ (fun _ _=>rfl)) (hR _ _ _),hVr _,rfl,?_,?_⟩,?_⟩⟩
 ·intro b off hp
  have hp:MemPlace.cell b off ∈ before:=by simpa using hp
  rw [hb.frozen (p:=⟨b,off,none⟩) (hold _ hp)]
  exact hfz b off (by simpa using hp)
 ·intro ha
  simpa using hnd ha
 ·intro p hp _
  simpa using hp
end Go.Fw
namespace Go.Proofs.YtldebhdmhpopaaaGreatDoor
set_option linter.unusedSimpArgs false
set_option linter.unusedVariables false
open Go.Fw
set_option maxRecDepth 100000
theorem ty3:Tryz.prog.underlying 50 = some (.int .u64):=by kernel_rfl
theorem ty2:Tryz.prog.underlying 9 = some (.string):=by kernel_rfl
theorem ty1:Tryz.prog.underlying 4 = some (.bool):=by kernel_rfl
theorem ty0:Tryz.prog.underlying 3 = some (.int .i64):=by kernel_rfl
def Node.wf (x:Node):Prop:=(Lit.int .i64 x.state).wf=true∧(Lit.int .i64 x.job).wf=true∧(Lit.int .i64 x.epoch).wf=true∧True∧(Lit.int .i64 x.want).wf=true∧(Lit.int .i64 x.since).wf=true∧(Lit.int .i64 x.asked).wf=true∧True
theorem readNode:ReadAs Tryz.prog 44 Node.cells Node.wf:=by
 have h:=ReadAs.struct (P:=Tryz.prog) (t:=44) rfl (by kernel_rfl) (.cons rfl (ReadAs.int ty0) (.cons rfl (ReadAs.int ty0) (.cons rfl (ReadAs.int ty0) (.cons rfl (ReadAs.bool ty1) (.cons rfl (ReadAs.int ty0) (.cons rfl (ReadAs.int ty0) (.cons rfl (ReadAs.int ty0) .nil)))))))
 exact h.map (fun p=>(⟨p.1,p.2.1,p.2.2.1,p.2.2.2.1,p.2.2.2.2.1,p.2.2.2.2.2.1,p.2.2.2.2.2.2.1⟩:Node)) (fun _=>rfl) (fun _ h=>h)
theorem readNodes:ReadAs Tryz.prog 22 (fun l=>[nodeL l]) fun l=>l.length<=maxLen ∧ ∀ a ∈ l,Node.wf a :=
 ReadAs.slice Node.zero rfl (by kernel_rfl) (by decide) readNode (fun _=>rfl)
def Alt.wf (x:Alt):Prop:=(Lit.int .i64 x.nodes).wf=true∧(Lit.int .i64 x.wall).wf=true∧True
theorem readAlt:ReadAs Tryz.prog 122 Alt.cells Alt.wf:=by
 have h:=ReadAs.struct (P:=Tryz.prog) (t:=122) rfl (by kernel_rfl) (.cons rfl (ReadAs.int ty0) (.cons rfl (ReadAs.int ty0) .nil))
 exact h.map (fun p=>(⟨p.1,p.2.1⟩:Alt)) (fun _=>rfl) (fun _ h=>h)
theorem readAlts:ReadAs Tryz.prog 46 (fun l=>[altL l]) fun l=>l.length<=maxLen ∧ ∀ a ∈ l,Alt.wf a :=
 ReadAs.slice Alt.zero rfl (by kernel_rfl) (by decide) readAlt (fun _=>rfl)
def Shape.wf (x:Shape):Prop:=(Lit.int .i64 x.kind).wf=true∧(x.alts.length<=maxLen ∧ ∀ a ∈ x.alts,Alt.wf a)∧(Lit.int .i64 x.min).wf=true∧(Lit.int .i64 x.max).wf=true∧(Lit.int .i64 x.wall).wf=true∧True
theorem readShape:ReadAs Tryz.prog 48 Shape.cells Shape.wf:=by
 have h:=ReadAs.struct (P:=Tryz.prog) (t:=48) rfl (by kernel_rfl) (.cons rfl (ReadAs.int ty0) (.cons rfl (readAlts) (.cons rfl (ReadAs.int ty0) (.cons rfl (ReadAs.int ty0) (.cons rfl (ReadAs.int ty0) .nil)))))
 exact h.map (fun p=>(⟨p.1,p.2.1,p.2.2.1,p.2.2.2.1,p.2.2.2.2.1⟩:Shape)) (fun _=>rfl) (fun _ h=>h)
def Dep.wf (x:Dep):Prop:=(Lit.int .i64 x.how).wf=true∧(Lit.int .i64 x.job).wf=true∧True
theorem readDep:ReadAs Tryz.prog 132 Dep.cells Dep.wf:=by
 have h:=ReadAs.struct (P:=Tryz.prog) (t:=132) rfl (by kernel_rfl) (.cons rfl (ReadAs.int ty0) (.cons rfl (ReadAs.int ty0) .nil))
 exact h.map (fun p=>(⟨p.1,p.2.1⟩:Dep)) (fun _=>rfl) (fun _ h=>h)
theorem readDeps:ReadAs Tryz.prog 49 (fun l=>[depL l]) fun l=>l.length<=maxLen ∧ ∀ a ∈ l,Dep.wf a :=
 ReadAs.slice Dep.zero rfl (by kernel_rfl) (by decide) readDep (fun _=>rfl)
def Job.wf (x:Job):Prop:=(Lit.int .i64 x.id).wf=true∧x.name.size<=maxLen∧x.user.size<=maxLen∧x.account.size<=maxLen∧Shape.wf x.shape∧(Lit.int .i64 x.prio).wf=true∧(x.after.length<=maxLen ∧ ∀ a ∈ x.after,Dep.wf a)∧(Lit.int .i64 x.state).wf=true∧True∧(Lit.int .i64 x.born).wf=true∧(Lit.int .i64 x.promise).wf=true∧(Lit.int .i64 x.choice).wf=true∧(Lit.int .i64 x.start).wf=true∧(Lit.int .i64 x.limit).wf=true∧(Lit.int .u64 x.nodes).wf=true∧(Lit.int .i64 x.used).wf=true∧True
theorem readJob:ReadAs Tryz.prog 52 Job.cells Job.wf:=by
 have h:=ReadAs.struct (P:=Tryz.prog) (t:=52) rfl (by kernel_rfl) (.cons rfl (ReadAs.int ty0) (.cons rfl (ReadAs.string ty2) (.cons rfl (ReadAs.string ty2) (.cons rfl (ReadAs.string ty2) (.cons rfl (readShape) (.cons rfl (ReadAs.int ty0) (.cons rfl (readDeps) (.cons rfl (ReadAs.int ty0) (.cons rfl (ReadAs.bool ty1) (.cons rfl (ReadAs.int ty0) (.cons rfl (ReadAs.int ty0) (.cons rfl (ReadAs.int ty0) (.cons rfl (ReadAs.int ty0) (.cons rfl (ReadAs.int ty0) (.cons rfl (ReadAs.int ty3) (.cons rfl (ReadAs.int ty0) .nil))))))))))))))))
 exact h.map (fun p=>(⟨p.1,p.2.1,p.2.2.1,p.2.2.2.1,p.2.2.2.2.1,p.2.2.2.2.2.1,p.2.2.2.2.2.2.1,p.2.2.2.2.2.2.2.1,p.2.2.2.2.2.2.2.2.1,p.2.2.2.2.2.2.2.2.2.1,p.2.2.2.2.2.2.2.2.2.2.1,p.2.2.2.2.2.2.2.2.2.2.2.1,p.2.2.2.2.2.2.2.2.2.2.2.2.1,p.2.2.2.2.2.2.2.2.2.2.2.2.2.1,p.2.2.2.2.2.2.2.2.2.2.2.2.2.2.1,p.2.2.2.2.2.2.2.2.2.2.2.2.2.2.2.1⟩:Job)) (fun _=>rfl) (fun _ h=>h)
theorem readJobs:ReadAs Tryz.prog 23 (fun l=>[jobL l]) fun l=>l.length<=maxLen ∧ ∀ a ∈ l,Job.wf a :=
 ReadAs.slice Job.zero rfl (by kernel_rfl) (by decide) readJob (fun _=>rfl)
def Resize.wf (x:Resize):Prop:=(Lit.int .i64 x.job).wf=true∧True∧(Lit.int .u64 x.nodes).wf=true∧(Lit.int .u64 x.said).wf=true∧(Lit.int .i64 x.since).wf=true∧True
theorem readResize:ReadAs Tryz.prog 126 Resize.cells Resize.wf:=by
 have h:=ReadAs.struct (P:=Tryz.prog) (t:=126) rfl (by kernel_rfl) (.cons rfl (ReadAs.int ty0) (.cons rfl (ReadAs.bool ty1) (.cons rfl (ReadAs.int ty3) (.cons rfl (ReadAs.int ty3) (.cons rfl (ReadAs.int ty0) .nil)))))
 exact h.map (fun p=>(⟨p.1,p.2.1,p.2.2.1,p.2.2.2.1,p.2.2.2.2.1⟩:Resize)) (fun _=>rfl) (fun _ h=>h)
theorem readResizes:ReadAs Tryz.prog 24 (fun l=>[Qq1 l]) fun l=>l.length<=maxLen ∧ ∀ a ∈ l,Resize.wf a :=
 ReadAs.slice Resize.zero rfl (by kernel_rfl) (by decide) readResize (fun _=>rfl)
def Book.wf (x:Book):Prop:=(Lit.int .i64 x.id).wf=true∧(Lit.int .i64 x.from_).wf=true∧(Lit.int .i64 x.to).wf=true∧(Lit.int .i64 x.nodes).wf=true∧True
theorem readBook:ReadAs Tryz.prog 83 Book.cells Book.wf:=by
 have h:=ReadAs.struct (P:=Tryz.prog) (t:=83) rfl (by kernel_rfl) (.cons rfl (ReadAs.int ty0) (.cons rfl (ReadAs.int ty0) (.cons rfl (ReadAs.int ty0) (.cons rfl (ReadAs.int ty0) .nil))))
 exact h.map (fun p=>(⟨p.1,p.2.1,p.2.2.1,p.2.2.2.1⟩:Book)) (fun _=>rfl) (fun _ h=>h)
theorem readBooks:ReadAs Tryz.prog 25 (fun l=>[bookL l]) fun l=>l.length<=maxLen ∧ ∀ a ∈ l,Book.wf a :=
 ReadAs.slice Book.zero rfl (by kernel_rfl) (by decide) readBook (fun _=>rfl)
def Usage.wf (x:Usage):Prop:=x.user.size<=maxLen∧x.account.size<=maxLen∧(Lit.int .i64 x.used).wf=true∧(Lit.int .i64 x.share).wf=true∧True
theorem readUsage:ReadAs Tryz.prog 120 Usage.cells Usage.wf:=by
 have h:=ReadAs.struct (P:=Tryz.prog) (t:=120) rfl (by kernel_rfl) (.cons rfl (ReadAs.string ty2) (.cons rfl (ReadAs.string ty2) (.cons rfl (ReadAs.int ty0) (.cons rfl (ReadAs.int ty0) .nil))))
 exact h.map (fun p=>(⟨p.1,p.2.1,p.2.2.1,p.2.2.2.1⟩:Usage)) (fun _=>rfl) (fun _ h=>h)
theorem readUsages:ReadAs Tryz.prog 26 (fun l=>[Qt1 l]) fun l=>l.length<=maxLen ∧ ∀ a ∈ l,Usage.wf a :=
 ReadAs.slice Usage.zero rfl (by kernel_rfl) (by decide) readUsage (fun _=>rfl)
def State.wf (x:State):Prop:=(Lit.int .i64 x.now).wf=true∧(x.nodes.length<=maxLen ∧ ∀ a ∈ x.nodes,Node.wf a)∧(x.jobs.length<=maxLen ∧ ∀ a ∈ x.jobs,Job.wf a)∧(x.resizes.length<=maxLen ∧ ∀ a ∈ x.resizes,Resize.wf a)∧(x.books.length<=maxLen ∧ ∀ a ∈ x.books,Book.wf a)∧(x.ledger.length<=maxLen ∧ ∀ a ∈ x.ledger,Usage.wf a)∧(Lit.int .i64 x.nextJob).wf=true∧(Lit.int .i64 x.nextBook).wf=true∧True
theorem readState:ReadAs Tryz.prog 28 State.cells State.wf:=by
 have h:=ReadAs.struct (P:=Tryz.prog) (t:=28) rfl (by kernel_rfl) (.cons rfl (ReadAs.int ty0) (.cons rfl (readNodes) (.cons rfl (readJobs) (.cons rfl (readResizes) (.cons rfl (readBooks) (.cons rfl (readUsages) (.cons rfl (ReadAs.int ty0) (.cons rfl (ReadAs.int ty0) .nil))))))))
 exact h.map (fun p=>(⟨p.1,p.2.1,p.2.2.1,p.2.2.2.1,p.2.2.2.2.1,p.2.2.2.2.2.1,p.2.2.2.2.2.2.1,p.2.2.2.2.2.2.2.1⟩:State)) (fun _=>rfl) (fun _ h=>h)
end Go.Proofs.YtldebhdmhpopaaaGreatDoor
namespace Go.Proofs.YtldebhdmhpopaaaGreatDoor
set_option linter.unusedSimpArgs false
set_option linter.unusedVariables false
open Go.Fw
theorem Shape.wf_szM {x:Shape} (h:x.wf):x.szM:=h.2.1.1
theorem Job.wf_szM {x:Job} (h:x.wf):x.szM:=⟨h.2.1,h.2.2.1,h.2.2.2.1,Shape.wf_szM h.2.2.2.2.1,h.2.2.2.2.2.2.1.1⟩
theorem Usage.wf_szM {x:Usage} (h:x.wf):x.szM:=⟨h.1,h.2.1⟩
theorem State.wf_szM {x:State} (h:x.wf):x.szM :=
 ⟨h.2.1.1,h.2.2.1.1,fun y hy=>Job.wf_szM (h.2.2.1.2 y hy),h.2.2.2.1.1,h.2.2.2.2.1.1,h.2.2.2.2.2.1.1,fun y hy=>Usage.wf_szM (h.2.2.2.2.2.1.2 y hy)⟩
end Go.Proofs.YtldebhdmhpopaaaGreatDoor
