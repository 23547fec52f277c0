/-
  What the last text of this claim leans on: an evaluator over the code, contracts of functions, plain laws. Conditions stand in each statement.
-/
import Derived.Test.YtackngeeehiegaaGreatDoorRSS1
import Derived.Test.YtackngeeehiegaaGreatDoorRS8
import Derived.Test.YtackngeeehiegaaGreatDoorProg
namespace Go.Proofs.YtackngeeehiegaaGreatDoor
set_option linter.unusedSimpArgs false
set_option linter.unusedVariables false
open Go.Fw
def WU (s:State):Prop:=(∀ x ∈ s.jobs,U64 x.nodes) ∧ ∀ r ∈ s.resizes,U64 r.nodes∧U64 r.said
theorem WU.words {s:State} (h:WU s) (hz:s.sz):Words s:=⟨hz,h.1,fun r hr=>(h.2 r hr).1,fun r hr=>(h.2 r hr).2⟩
theorem WU.wf {s:State} (h:s.wf):WU s:=⟨fun x hx=>Job.wf_u64 (h.2.2.1.2 x hx),fun r hr=>by
 have:=h.2.2.2.1.2 r hr
 unfold Resize.wf at this
 exact ⟨wf_u64 this.2.2.1,wf_u64 this.2.2.2.1⟩⟩
def ResP (s:State) (r:Resize) (j:Job):Prop:=BaseP r j∧SubP r∧QuiP s r∧(if r.grow=true then AskP s r 2∧SameP s r∧GrowP r j else AskP s r 4∧InP r j∧ShrP r j)
def HeldP (s:State) (j:Job):Prop:=∀ k,tb j.nodes k=true ↔ (k<s.nodes.length∧(s.nodes.getD k Node.zero).job=j.id∧(s.nodes.getD k Node.zero).state=1)
structure NodeP (s:State) (k:Nat):Prop where
 runs:(s.nodes.getD k Node.zero).state=1∨(s.nodes.getD k Node.zero).state=2 -> ∃ j ∈ s.jobs,j.state=2∧j.id=(s.nodes.getD k Node.zero).job
 moved:(s.nodes.getD k Node.zero).state=2∨(s.nodes.getD k Node.zero).want=4 -> ∃ r ∈ s.resizes,r.job=(s.nodes.getD k Node.zero).job∧tb r.nodes k=true
 going:(s.nodes.getD k Node.zero).state=3->(s.nodes.getD k Node.zero).job<s.nextJob
structure Good (s:State):Prop where
 plan:Qr2 s=0
 nextJ:Qj1 s.nextJob (QF1 s.jobs 0 0)=true
 nextB:Qj1 s.nextBook (QG1 s.books 0 0)=true
 sorted:s.resizes.Pairwise (fun a b=>a.job<b.job)
 res:∀ r ∈ s.resizes,∃ j ∈ s.jobs,j.state=2∧j.id=r.job∧ResP s r j
 node:∀ k,k<s.nodes.length->NodeP s k
 held:∀ j ∈ s.jobs,j.state=2->HeldP s j
theorem QBc:∀ (l:List Resize) (i:Nat) (r:Resize),r ∈ l->l.Pairwise (fun a b=>a.job<b.job)->Qs3 r.job l i=r
 | [],_,_,h,_=>nomatch h
 | x :: t,i,r,h,hp=>by
  obtain ⟨h1,h2⟩:=List.pairwise_cons.1 hp
  rw [Qs3]
  rcases List.mem_cons.1 h with rfl|h
  ·simp
  ·have:=h1 r h
   rw [beq_eq_false_iff_ne.2 (by omega)]
   exact QBc t (i+1) r h h2
theorem rof_none:∀ (l:List Resize) (i:Nat) (id:Int),(∀ x ∈ l,x.job ≠ id)->Qs3 id l i=Resize.zero
 | [],_,_,_=>rfl
 | x :: t,i,id,h=>by
  rw [Qs3,beq_eq_false_iff_ne.2 (h x (List.mem_cons_self ..))]
  exact rof_none t (i+1) id fun y hy=>h y (List.mem_cons_of_mem _ hy)
theorem rof_has {s:State} (hs:s.resizes.Pairwise (fun a b=>a.job<b.job)) (hu:∀ r ∈ s.resizes,U64 r.nodes) (id:Int) {k:Nat} (hk:k<64):QT1 (Q05 s id).nodes (k:Int)=true ↔ ∃ r ∈ s.resizes,r.job=id∧tb r.nodes k=true:=by
 unfold Q05
 by_cases h:∃ r ∈ s.resizes,r.job=id
 ·obtain ⟨r,hr,rfl⟩:=h
  rw [QBc _ _ r hr hs,Qab (hu r hr) hk]
  refine ⟨fun h=>⟨r,hr,rfl,h⟩,fun ⟨q,hq,e,h⟩=>?_⟩
  have e1:=QBc _ 0 r hr hs
  have e2:=QBc _ 0 q hq hs
  rw [e] at e2
  rw [← e1,e2]
  exact h
 ·rw [rof_none _ _ id fun x hx e=>h ⟨x,hx,e⟩]
  rw [Qab (s:=Resize.zero.nodes) .zero hk]
  refine ⟨fun h=>?_,fun ⟨r,hr,e,_⟩=>absurd ⟨r,hr,e⟩ h⟩
  simp [Resize.zero,tb] at h
theorem Qy6 {α:Type} {l:List α} {k:Nat} {d:α} (h:k<l.length):l.getD k d ∈ l:=by
 rw [List.getD,List.getElem?_eq_getElem h]
 exact List.getElem_mem _
theorem Qye {α:Type} {l:List α} {x:α} (d:α) (h:x ∈ l):∃ k,k<l.length∧l.getD k d=x:=by
 obtain ⟨k,hk⟩:=List.getElem?_of_mem h
 exact ⟨k,(List.getElem?_eq_some_iff.1 hk).1,by rw [List.getD,hk];rfl⟩
theorem job_one {l:List Job} (hp:l.Pairwise (fun a b=>a.id<b.id)) {x y:Job} (hx:x ∈ l) (hy:y ∈ l) (e:x.id=y.id):x=y:=by
 obtain ⟨p,hp1⟩:=List.getElem?_of_mem hx
 obtain ⟨q,hq1⟩:=List.getElem?_of_mem hy
 rcases Nat.lt_trichotomy p q with h|h|h
 ·have:=Qk4 hp p q x y h hp1 hq1;omega
 ·subst h;rw [hp1] at hq1;exact Option.some.inj hq1
 ·have:=Qk4 hp q p y x h hq1 hp1;omega
theorem runs_iff {s:State} (hp:s.jobs.Pairwise (fun a b=>a.id<b.id)) (id:Int):(Q50 s id).2=true ↔ ∃ j ∈ s.jobs,j.state=2∧j.id=id:=by
 by_cases h:∃ x ∈ s.jobs,x.id=id
 ·obtain ⟨x,hx,rfl⟩:=h
  rw [QI9 hp hx]
  by_cases hs:x.state=2
  ·rw [if_pos hs];exact ⟨fun _=>⟨x,hx,hs,rfl⟩,fun _=>rfl⟩
  ·rw [if_neg hs]
   exact ⟨(fun h=>nomatch h),fun ⟨y,hy,h2,e⟩=>absurd (job_one hp hy hx e ▸ h2) hs⟩
 ·rw [QAe _ fun x hx e=>h ⟨x,hx,e⟩]
  exact ⟨(fun h=>nomatch h),fun ⟨y,hy,_,e⟩=>absurd ⟨y,hy,e⟩ h⟩
theorem held_bits {s:State} (hf:Qa0 s.nodes=0) {x:Job} (hu:U64 x.nodes):QE6 s.nodes x.id 1=x.nodes ↔ HeldP s x:=by
 have hl:s.nodes.length<=64:=by have:=(Q6a hf).1;omega
 obtain ⟨u,b⟩:=QW5 s.nodes (fun (y:Node)=>((y.job==x.id)&&(y.state==1))) hf hl
 rw [← of_eq]
 unfold Qx6 HeldP
 constructor
 ·intro h k
  rw [← h,b]
  simp
 ·intro h
  refine QRf u hu fun k _=>?_
  rw [b,Bool.eq_iff_iff,h k]
  simp
theorem pw_iff {l:List Resize} (hl:l.length<=4294967296):(∀ k,k<l.length->(((k:Int)==0)||(decide ((l.getD (Int.toNat (w64 ((k:Int) - 1))) Resize.zero).job<(l.getD k Resize.zero).job)))=true) ↔ l.Pairwise (fun a b=>a.job<b.job):=by
 have hstep:(∀ k,k<l.length->(((k:Int)==0)||(decide ((l.getD (Int.toNat (w64 ((k:Int) - 1))) Resize.zero).job<(l.getD k Resize.zero).job)))=true) ↔ ∀ k,k+1<l.length->(l.getD k Resize.zero).job<(l.getD (k+1) Resize.zero).job:=by
  constructor
  ·intro h k hk
   have hk':=h (k+1) hk
   have hw:w64 (((k+1:Nat):Int) - 1)=(k:Int):=by
    have:=wr (n:=((k+1:Nat):Int) - 1) (by omega)
    show IntKind.i64.wrap _=_
    rw [this]
    omega
   rw [hw,Int.toNat_natCast] at hk'
   have hne:(((k+1:Nat):Int)==0)=false:=by simp;omega
   rw [hne,Bool.false_or,decide_eq_true_eq] at hk'
   exact hk'
  ·intro h k hk
   rcases k with _|k
   ·rfl
   ·have hw:w64 (((k+1:Nat):Int) - 1)=(k:Int):=by
     have:=wr (n:=((k+1:Nat):Int) - 1) (by omega)
     show IntKind.i64.wrap _=_
     rw [this]
     omega
    rw [hw,Int.toNat_natCast,decide_eq_true (h k hk),Bool.or_true]
 rw [hstep]
 constructor
 ·intro h
  rw [List.pairwise_iff_getElem]
  have hmono:∀ (d a:Nat),a+d+1<l.length->(l.getD a Resize.zero).job<(l.getD (a+d+1) Resize.zero).job:=by
   intro d
   induction d with
   | zero=>intro a ha;exact h a ha
   | succ d ih =>
    intro a ha
    have h1:=ih a (by omega)
    have h2:=h (a+d+1) (by omega)
    have:a+(d+1)+1=a+d+1+1:=by omega
    rw [this]
    omega
  intro a b ha hb hab
  have:=hmono (b - a - 1) a (by omega)
  have e2:a+(b - a - 1)+1=b:=by omega
  rw [e2] at this
  have g1:l.getD a Resize.zero=l[a]:=by rw [List.getD,List.getElem?_eq_getElem ha];rfl
  have g2:l.getD b Resize.zero=l[b]:=by rw [List.getD,List.getElem?_eq_getElem hb];rfl
  rw [g1,g2] at this
  exact this
 ·intro h k hk
  have:=List.pairwise_iff_getElem.1 h k (k+1) (by omega) hk (by omega)
  have g1:l.getD k Resize.zero=l[k]:=by rw [List.getD,List.getElem?_eq_getElem (by omega)];rfl
  have g2:l.getD (k+1) Resize.zero=l[k+1]:=by rw [List.getD,List.getElem?_eq_getElem hk];rfl
  rw [g1,g2]
  exact this
theorem node_bool (a b c d e f g h:Bool):(bif (((a&&((!b)||(!c)))||(d&&(!b)))||(e&&f)) then false else bif (d||g) then h else true)=true ↔ (a=true->b=true∧c=true)∧(d=true->b=true)∧(e=true->f=false)∧(d=true∨g=true->h=true):=by
 cases a <;> cases b <;> cases c <;> cases d <;> cases e <;> cases f <;> cases g <;> cases h <;> simp
section
variable {s:State}
theorem node_iff (hw:Words s) (hp:s.jobs.Pairwise (fun a b=>a.id<b.id)) (hs:s.resizes.Pairwise (fun a b=>a.job<b.job)) (hl:s.nodes.length<=64) (hh:∀ j ∈ s.jobs,j.state=2->HeldP s j) {k:Nat} (hk:k<s.nodes.length):QC3 s (k:Int)=true ↔ NodeP s k:=by
 unfold QC3
 rw [Int.toNat_natCast,node_bool,runs_iff hp,rof_has hs hw.nodes _ (by omega:k<64)]
 simp only [beq_iff_eq,decide_eq_false_iff_not]
 constructor
 ·rintro ⟨h1,h2,h3,h4⟩
  exact ⟨fun h=>h.elim (fun h=>(h1 h).1) h2,h4,fun h=>by have:=h3 h;omega⟩
 ·rintro ⟨h1,h2,h3⟩
  refine ⟨fun h=>?_,fun h=>h1 (.inr h),fun h=>by have:=h3 h;omega,h2⟩
  obtain ⟨j,hj,hst,e⟩:=h1 (.inl h)
  refine ⟨⟨j,hj,hst,e⟩,?_⟩
  rw [← e,QI9 hp hj,if_pos hst]
  show QT1 j.nodes (k:Int)=true
  rw [Qab (hw.jobs j hj) (by omega),hh j hj hst k]
  exact ⟨hk,e.symm,h⟩
theorem res_run (hw:Words s) (hf:Qa0 s.nodes=0) (hp:s.jobs.Pairwise (fun a b=>a.id<b.id)) (hjc:∀ x ∈ s.jobs,Q61 x=0) (hh:∀ j ∈ s.jobs,j.state=2->HeldP s j) {r:Resize} (hr:r ∈ s.resizes) :
  QI1 s r=true ↔ ∃ j ∈ s.jobs,j.state=2∧j.id=r.job∧ResP s r j:=by
 have hl:s.nodes.length<=64:=by have:=(Q6a hf).1;omega
 have key:∀ j ∈ s.jobs,j.state=2->j.id=r.job->(QI1 s r=true ↔ ResP s r j):=by
  intro j hj hst e
  have hrun:Q50 s r.job=(j,true):=by rw [← e,QI9 hp hj,if_pos hst]
  rw [← resize_eq s r j (hw.nodes r hr) (hw.said r hr) (hw.jobs j hj) hf hrun (hjc j hj) fun k=>by rw [← e];exact hh j hj hst k]
  exact prog_iff s r j (hw.nodes r hr) (hw.said r hr) (hw.jobs j hj) hf hl
 constructor
 ·intro h
  have hrun:(Q50 s r.job).2=true:=by
   cases hq:(Q50 s r.job).2 with
   | true=>rfl
   | false =>
    unfold QI1 at h
    rw [hq] at h
    cases h
  obtain ⟨j,hj,hst,e⟩:=(runs_iff hp _).1 hrun
  exact ⟨j,hj,hst,e,(key j hj hst e).1 h⟩
 ·rintro ⟨j,hj,hst,e,h⟩
  exact (key j hj hst e).2 h
theorem good_iff (hw:Words s):Qv0 s=0 ↔ Good s:=by
 have hmain:Qr2 s=0->(Qv0 s=0 ↔ Good s):=by
  intro hpl
  obtain ⟨hf,ht⟩:=Qz4 hpl
  obtain ⟨_,hjc,hp⟩:=Qw4 ht
  have hl:s.nodes.length<=64:=by have:=(Q6a hf).1;omega
  have hrl:s.resizes.length<=4294967296:=hw.sz.2.2.2.1
  rw [state_eq hw,(Qzc (s:=s) (by rw [← plan_eq s hw.sz hw.jobs];exact hpl)).1]
  have hheld:(∀ k,k<s.jobs.length->heldR s k=true) ↔ ∀ j ∈ s.jobs,j.state=2->HeldP s j:=by
   unfold heldR
   constructor
   ·intro h j hj hst
    obtain ⟨k,hk,e⟩:=Qye Job.zero hj
    have:=h k hk
    rw [e,hst] at this
    exact (held_bits hf (hw.jobs j hj)).1 (by simpa using this)
   ·intro h k hk
    cases hst:((s.jobs.getD k Job.zero).state != 2) with
    | true=>rfl
    | false =>
     have hst:(s.jobs.getD k Job.zero).state=2:=by simpa using hst
     rw [(held_bits hf (hw.jobs _ (Qy6 hk))).2 (h _ (Qy6 hk) hst)]
     simp
  rw [hheld]
  have hrz:(∀ k,k<s.resizes.length->rzR s k=true) ↔ (∀ k,k<s.resizes.length->QI1 s (s.resizes.getD k Resize.zero)=true)∧s.resizes.Pairwise (fun a b=>a.job<b.job):=by
   rw [← pw_iff hrl]
   unfold rzR
   simp only [Bool.and_eq_true]
   exact ⟨fun h=>⟨fun k hk=>(h k hk).1,fun k hk=>(h k hk).2⟩,fun h k hk=>⟨h.1 k hk,h.2 k hk⟩⟩
  rw [hrz]
  constructor
  ·rintro ⟨⟨h1,h2⟩,⟨h3,h4⟩,h5,h6⟩
   refine ⟨hpl,h1,h2,h4,fun r hr=>?_,fun k hk=>(node_iff hw hp h4 hl h6 hk).1 (h5 k hk),h6⟩
   obtain ⟨k,hk,e⟩:=Qye Resize.zero hr
   exact (res_run hw hf hp hjc h6 hr).1 (e ▸ h3 k hk)
  ·intro g
   exact ⟨⟨g.nextJ,g.nextB⟩,⟨fun k hk=>(res_run hw hf hp hjc g.held (Qy6 hk)).2 (g.res _ (Qy6 hk)),g.sorted⟩,fun k hk=>(node_iff hw hp g.sorted hl g.held hk).2 (g.node k hk),g.held⟩
 constructor
 ·exact fun h=>(hmain (check_parts h).1).1 h
 ·exact fun h=>(hmain h.plan).2 h
end
theorem QX6 {l:List Node} (h:Qa0 l=0):(1<=l.length∧l.length<=48) ∧ ∀ x ∈ l,QP0 x=true:=by
 unfold Qa0 at h
 cases h1:(((decide ((l.length:Int)<1))||(decide ((l.length:Int) > 48)))||(QF0 l (fun (y:Node)=>(!(QP0 y))))) with
 | true=>rw [h1] at h;cases h
 | false =>
  obtain ⟨h2,h3⟩:=or_f h1
  have hl:=of_decide_eq_false (or_f h2).2
  have hl1:=of_decide_eq_false (or_f h2).1
  rw [Qse] at h3
  refine ⟨by omega,fun x hx=>?_⟩
  have:=List.any_eq_false.1 h3 x hx
  simpa using this
theorem whole_fleet {l:List Node} (h1:1<=l.length∧l.length<=48) (h2:∀ x ∈ l,QP0 x=true):Qa0 l=0:=by
 unfold Qa0
 have e:QF0 l (fun (y:Node)=>(!(QP0 y)))=false:=by
  rw [Qse]
  exact List.any_eq_false.2 fun x hx=>by rw [h2 x hx];simp
 rw [e,decide_eq_false (by omega),decide_eq_false (by omega)]
 rfl
def turnP (p:Nat->Bool) (f:Node->Node) (l:List Node):List Node:=l.mapIdx fun k x=>bif p k then f x else x
theorem QW2 (p:Nat->Bool) (f:Node->Node) (l:List Node):(turnP p f l).length=l.length:=by simp [turnP]
theorem QT5 (p:Nat->Bool) (f:Node->Node) {l:List Node} {k:Nat} (h:k<l.length):(turnP p f l).getD k Node.zero=bif p k then f (l.getD k Node.zero) else l.getD k Node.zero:=by
 have h':k<(turnP p f l).length:=by rw [QW2];exact h
 rw [List.getD,List.getElem?_eq_getElem h',List.getD,List.getElem?_eq_getElem h]
 simp [turnP]
theorem Qnf {a b:List Node} (hl:a.length=b.length) (h:∀ k,k<b.length->a.getD k Node.zero=b.getD k Node.zero):a=b:=by
 refine List.ext_getElem hl fun k h1 h2=>?_
 have:=h k h2
 rw [List.getD,List.getElem?_eq_getElem h1,List.getD,List.getElem?_eq_getElem h2] at this
 exact this
theorem turnP_none (f:Node->Node) (l:List Node):turnP (fun _=>false) f l=l:=by
 refine Qnf (QW2 _ _ _) fun k hk=>?_
 rw [QT5 _ _ hk]
 rfl
theorem QLb {p q:Nat->Bool} (f:Node->Node) {l:List Node} (h:∀ k,k<l.length->p k=q k):turnP p f l=turnP q f l:=by
 refine Qnf (by rw [QW2,QW2]) fun k hk=>?_
 rw [QW2] at hk
 rw [QT5 _ _ hk,QT5 _ _ hk,h k hk]
theorem turnP_set {p:Nat->Bool} {f:Node->Node} {l:List Node} {k:Nat} (hk:k<l.length) (hp:p k=false):(turnP p f l).set k (f (l.getD k Node.zero))=turnP (fun j=>p j||(j==k)) f l:=by
 refine Qnf (by rw [List.length_set,QW2,QW2]) fun j hj=>?_
 rw [QW2] at hj
 rw [QT5 _ _ hj]
 by_cases e:k=j
 ·subst e
  rw [List.getD,List.getElem?_set_self (by rw [QW2];exact hk)]
  simp
 ·rw [List.getD,List.getElem?_set_ne e,← List.getD,QT5 _ _ hj]
  have:(j==k)=false:=by simpa using Ne.symm e
  rw [this,Bool.or_false]
theorem turnP_fine {p:Nat->Bool} {f:Node->Node} {l:List Node} (hc:Qa0 l=0) (h:∀ k,k<l.length->p k=true->QP0 (f (l.getD k Node.zero))=true):Qa0 (turnP p f l)=0:=by
 obtain ⟨h1,h2⟩:=QX6 hc
 refine whole_fleet (by rw [QW2];exact h1) fun x hx=>?_
 obtain ⟨k,hk,rfl⟩:=Qye Node.zero hx
 rw [QW2] at hk
 rw [QT5 _ _ hk]
 cases hp:p k with
 | true=>exact h k hk hp
 | false=>exact h2 _ (Qy6 hk)
section
variable {act job now:Int}
theorem do_ok {c:List Node} {k:Nat} (hc:Qa0 c=0) (hk:k<c.length) (ht:Qg3 now=true) (hm:Qx4 (c.getD k Node.zero) act job=true) :
  Qu3 c (k:Int) act job now=(c.set k (QR0 (c.getD k Node.zero) act job now),0):=by
 unfold Qu3
 rw [hc,decide_eq_false (show ¬ (k:Int)<0 by omega),decide_eq_false (show ¬ (k:Int) >= (c.length:Int) by omega),ht,Int.toNat_natCast,hm]
 rfl
theorem each_go {l:List Node} (S:Int) (hc:Qa0 l=0) (ht:Qg3 now=true):∀ (r:List Nat) (i:Nat) (p:Nat->Bool),r.Nodup->(∀ k ∈ r,k<l.length∧p k=false∧Qx4 (l.getD k Node.zero) act job=true∧QP0 (QR0 (l.getD k Node.zero) act job now)=true) ->
  Qa0 (turnP p (fun x=>QR0 x act job now) l)=0 ->
  ∃ q:Nat->Bool,(∀ k,q k=(p k||decide (k ∈ r)))∧Qa0 (turnP q (fun x=>QR0 x act job now) l)=0 ∧
   QP1 S act job now (r.map fun (k:Nat)=>(k:Int)) i (turnP p (fun x=>QR0 x act job now) l)=(turnP q (fun x=>QR0 x act job now) l,bif QK3 act then Q35 (turnP q (fun x=>QR0 x act job now) l) (Qm0 S) else [],0)
 | [],i,p,_,_,hpc=>by
  refine ⟨p,fun k=>by simp,hpc,?_⟩
  rw [List.map_nil,QP1]
  cases QK3 act <;> rfl
 | k :: r,i,p,hnd,h,hpc=>by
  obtain ⟨hk,hp,hm,hf⟩:=h k (List.mem_cons_self ..)
  obtain ⟨hkr,hnd'⟩:=List.nodup_cons.1 hnd
  have hg:(turnP p (fun x=>QR0 x act job now) l).getD k Node.zero=l.getD k Node.zero:=by rw [QT5 _ _ hk,hp];rfl
  have hdo:=do_ok (c:=turnP p (fun x=>QR0 x act job now) l) (k:=k) hpc (by rw [QW2];exact hk) ht (by rw [hg];exact hm)
  rw [hg,turnP_set (f:=fun x=>QR0 x act job now) hk hp] at hdo
  have hpc':Qa0 (turnP (fun j=>p j||(j==k)) (fun x=>QR0 x act job now) l)=0:=by
   refine turnP_fine hc fun j hj hpj=>?_
   rcases Bool.or_eq_true_iff.1 hpj with hpj|hpj
   ·have:=(QX6 hpc).2 _ (Qy6 (d:=Node.zero) (show j<(turnP p (fun x=>QR0 x act job now) l).length by rw [QW2];exact hj))
    rw [QT5 _ _ hj,hpj] at this
    exact this
   ·rw [eq_of_beq hpj];exact hf
  obtain ⟨q,hq,hqc,e⟩:=each_go S hc ht r (i+1) (fun j=>p j||(j==k)) hnd' (fun j hj=>by
   obtain ⟨a,b,c⟩:=h j (List.mem_cons_of_mem _ hj)
   have:(j==k)=false:=by simp;rintro rfl;exact hkr hj
   exact ⟨a,by rw [b,this];rfl,c⟩) hpc'
  refine ⟨q,fun j=>by rw [hq];show ((p j||decide (j=k))||decide (j ∈ r))=_;simp [Bool.or_assoc],hqc,?_⟩
  rw [List.map_cons,QP1,hdo]
  exact e
theorem list_form {s:Int} (hs:U64 s):Qm0 s=((List.range' 0 64).filter (tb s)).map fun (k:Nat)=>(k:Int):=by
 unfold Qm0 QK2
 rw [list_go hs _ [] 0 (by omega) (by omega)]
 simp
theorem each_ok {l:List Node} {S:Int} (hs:U64 S) (hc:Qa0 l=0) (ht:Qg3 now=true)
  (hm:∀ k,k<64->tb S k=true->k<l.length∧Qx4 (l.getD k Node.zero) act job=true∧QP0 (QR0 (l.getD k Node.zero) act job now)=true) :
  Qp0 l S act job now=(turnP (tb S) (fun x=>QR0 x act job now) l,bif QK3 act then Q35 (turnP (tb S) (fun x=>QR0 x act job now) l) (Qm0 S) else [],0)∧Qa0 (turnP (tb S) (fun x=>QR0 x act job now) l)=0:=by
 obtain ⟨q,hq,hqc,e⟩:=each_go (act:=act) (job:=job) (now:=now) S hc ht ((List.range' 0 64).filter (tb S)) 0 (fun _=>false) ((List.nodup_range' (step:=1)).filter _) (fun k hk=>by
  simp only [List.mem_filter,List.mem_range'_1] at hk
  obtain ⟨a,b,c⟩:=hm k (by omega) hk.2
  exact ⟨a,rfl,b,c⟩) (by rw [turnP_none];exact hc)
 have e2:turnP q (fun x=>QR0 x act job now) l=turnP (tb S) (fun x=>QR0 x act job now) l:=by
  refine QLb _ fun k hk=>?_
  have hl:=(QX6 hc).1
  rw [hq,Bool.eq_iff_iff]
  simp only [Bool.false_or,decide_eq_true_eq,List.mem_filter,List.mem_range'_1]
  exact ⟨fun h=>h.2,fun h=>⟨by omega,h⟩⟩
 rw [turnP_none,← list_form hs,e2] at e
 rw [e2] at hqc
 refine ⟨?_,hqc⟩
 unfold Qp0
 rw [hc]
 exact e
end
theorem popN_count:∀ (K n:Nat),popN K n=(List.range K).countP (fun k=>n.testBit k)
 | 0,_=>rfl
 | K+1,n=>by
  rw [popN,List.range_succ_eq_map,List.countP_cons,List.countP_map,popN_count K (n / 2)]
  have e:((fun k=>n.testBit k) ∘ Nat.succ)=fun k=>(n / 2).testBit k:=by
   funext k
   simp [Nat.testBit_succ]
  rw [e,Nat.testBit_zero]
  rcases Nat.mod_two_eq_zero_or_one n with h|h <;> simp [h,Nat.add_comm]
theorem QO6 {s:Int} (hs:U64 s):Q40 s=(((List.range 64).countP (tb s):Nat):Int):=by
 rw [count_eq hs,popN_count]
 rfl
theorem QSe {p q:Nat->Bool}:∀ (l:List Nat),(∀ k ∈ l,p k=true->q k=false)->l.countP (fun k=>p k||q k)=l.countP p+l.countP q
 | [],_=>rfl
 | x :: l,h=>by
  rw [List.countP_cons,List.countP_cons,List.countP_cons,QSe l fun k hk=>h k (List.mem_cons_of_mem _ hk)]
  have:=h x (List.mem_cons_self ..)
  cases hp:p x <;> cases hq:q x <;> simp_all <;> omega
theorem count_or {x y:Int} (hx:U64 x) (hy:U64 y) (h:∀ k,k<64->tb x k=true->tb y k=false):Q40 (wu64 (BitVec.ofInt 64 x ||| BitVec.ofInt 64 y).toNat)=Q40 x+Q40 y:=by
 rw [QO6 (Qz8 _),QO6 hx,QO6 hy,← Int.natCast_add,← QSe _ fun k hk=>h k (List.mem_range.1 hk)]
 congr 2
 funext k
 exact tb_or hx hy k
theorem count_andnot {x y:Int} (hx:U64 x) (hy:U64 y) (h:∀ k,k<64->tb y k=true->tb x k=true):Q40 (wu64 (BitVec.ofInt 64 x &&& ~~~(BitVec.ofInt 64 y)).toNat)=Q40 x - Q40 y:=by
 have e:=QSe (p:=fun k=>tb x k && !tb y k) (q:=tb y) (List.range 64) (fun k _ hk=>by
  have:tb x k=true∧tb y k=false:=by simpa using hk
  exact this.2)
 have e2:(List.range 64).countP (fun k=>(tb x k && !tb y k)||tb y k)=(List.range 64).countP (tb x):=by
  refine List.countP_congr fun k hk=>?_
  have:=h k (List.mem_range.1 hk)
  cases hy:tb y k with
  | true=>simp [this hy]
  | false=>simp
 rw [QO6 (Qz8 _),QO6 hx,QO6 hy,← e2,e]
 have e3:(tb (wu64 (BitVec.ofInt 64 x &&& ~~~(BitVec.ofInt 64 y)).toNat))=fun k=>tb x k && !tb y k:=funext fun k=>QS5 hx hy k
 rw [e3]
 omega
theorem Qve {x:Int} (hx:U64 x):0<=Q40 x∧Q40 x<=64:=by
 rw [QO6 hx]
 have:=List.countP_le_length (p:=tb x) (l:=List.range 64)
 simp at this
 omega
theorem of_one {k:Nat} (hk:k<64):(QH0 ([(k:Int)]:List Int)).1=(2:Int) ^ k:=by
 unfold QH0
 rw [QE3,decide_eq_false (show ¬ (k:Int)<0 by omega),decide_eq_false (show ¬ (k:Int) >= 64 by omega),and_one .zero hk,QV8]
 show (wu64 (BitVec.ofInt 64 0 ||| BitVec.ofInt 64 (QM1 (k:Int))).toNat)=_
 rw [Qe7 hk]
 refine QRf (Qz8 _) (pow_U hk) fun j _=>?_
 rw [tb_or .zero (pow_U hk),QV8,Bool.false_or]
theorem tb_one {k:Nat} (hk:k<64):U64 (QH0 ([(k:Int)]:List Int)).1 ∧ ∀ j,tb (QH0 ([(k:Int)]:List Int)).1 j=decide (k=j):=by
 rw [of_one hk]
 exact ⟨pow_U hk,tb_pow k⟩
theorem rs_go (l:List Resize) (id:Int) (hl:l.length<=4294967296) (hs:l.Pairwise (fun a b=>a.job<b.job)) (hb:∀ r ∈ l,1<=r.job∧r.job<=99999) (hid:1<=id∧id<=99999):∀ (m:Nat) (i j:Int),Int.toNat (j - i)<m->0<=i->i<=j->j<=(l.length:Int) ->
  (∀ k:Nat,(k:Int)<i->(l.getD k Resize.zero).job<id)->(∀ k:Nat,j<=(k:Int)->k<l.length->id<=(l.getD k Resize.zero).job) ->
  ∃ p:Nat,(Qk0 l id bsrF m i j).1=(p:Int)∧p<=l.length∧(∀ k,k<p->(l.getD k Resize.zero).job<id) ∧ ∀ k,p<=k->k<l.length->id<=(l.getD k Resize.zero).job
 | 0,i,j,hm,_,_,_,_,_=>absurd hm (by omega)
 | m+1,i,j,hm,h0,h1,h2,h3,h4=>by
  rw [Qk0]
  cases hd:decide (i<j) with
  | false =>
   have:=of_decide_eq_false hd
   obtain ⟨q,rfl⟩:∃ q:Nat,i=(q:Int):=⟨i.toNat,by omega⟩
   exact ⟨q,rfl,by omega,fun k hk=>h3 k (by omega),fun k hk hk2=>h4 k (by omega) hk2⟩
  | true =>
   have hlt:=of_decide_eq_true hd
   rw [Qfa h0 hlt h2 (by omega)]
   simp only [cond_true]
   obtain ⟨q,hq⟩:∃ q:Nat,(i+j) / 2=(q:Int):=⟨((i+j) / 2).toNat,by omega⟩
   rw [hq,Int.toNat_natCast]
   have hql:q<l.length:=by omega
   have hqb:=hb _ (Qy6 (d:=Resize.zero) hql)
   have hw:bsrF (l.getD q Resize.zero) id=(l.getD q Resize.zero).job - id:=wr (by omega)
   rw [hw]
   have mono:∀ a b:Nat,a<b->b<l.length->(l.getD a Resize.zero).job<(l.getD b Resize.zero).job:=by
    intro a b hab hbl
    have:=List.pairwise_iff_getElem.1 hs a b (by omega) hbl hab
    rw [List.getD,List.getElem?_eq_getElem (show a<l.length by omega),List.getD,List.getElem?_eq_getElem hbl]
    exact this
   cases hc:decide ((l.getD q Resize.zero).job - id<0) with
   | true =>
    have hc':=of_decide_eq_true hc
    have hw2:w64 ((q:Int)+1)=(q:Int)+1:=wr (by omega)
    simp only [cond_true]
    rw [hw2]
    refine rs_go l id hl hs hb hid m _ _ (by omega) (by omega) (by omega) h2 (fun k hk=>?_) h4
    rcases Nat.lt_or_ge k q with h|h
    ·have:=mono k q h hql;omega
    ·obtain rfl:k=q:=by omega
     omega
   | false =>
    have hc':=of_decide_eq_false hc
    simp only [cond_false]
    refine rs_go l id hl hs hb hid m _ _ (by omega) h0 (by omega) (by omega) h3 (fun k hk hk2=>?_)
    rcases Nat.lt_or_ge q k with h|h
    ·have:=mono q k h hk2;omega
    ·obtain rfl:k=q:=by omega
     omega
theorem place_iff (l:List Resize) (id:Int) (hl:l.length<=4294967296) (hs:l.Pairwise (fun a b=>a.job<b.job)) (hb:∀ r ∈ l,1<=r.job∧r.job<=99999) (hid:1<=id∧id<=99999) :
  ∃ p:Nat,(Q00 l id bsrF).1=(p:Int)∧p<=l.length∧(∀ k,k<p->(l.getD k Resize.zero).job<id)∧(∀ k,p<=k->k<l.length->id<=(l.getD k Resize.zero).job)∧((Q00 l id bsrF).2=true ↔ p<l.length∧(l.getD p Resize.zero).job=id):=by
 obtain ⟨p,h1,h2,h3,h4⟩:=rs_go l id hl hs hb hid ((Int.toNat ((l.length:Int) - 0))+1) 0 (l.length:Int) (by omega) (by omega) (by omega) (by omega) (fun k hk=>absurd hk (by omega)) (fun k hk hk2=>absurd hk2 (by omega))
 refine ⟨p,h1,h2,h3,h4,?_⟩
 unfold Q00 QB0
 simp only
 rw [h1,Int.toNat_natCast,Bool.and_eq_true,decide_eq_true_eq,beq_iff_eq]
 constructor
 ·rintro ⟨a,b⟩
  have hp:p<l.length:=by omega
  have hqb:=hb _ (Qy6 (d:=Resize.zero) hp)
  have hw:bsrF (l.getD p Resize.zero) id=(l.getD p Resize.zero).job - id:=wr (by omega)
  rw [hw] at b
  exact ⟨hp,by omega⟩
 ·rintro ⟨a,b⟩
  refine ⟨by omega,?_⟩
  have hw:bsrF (l.getD p Resize.zero) id=(l.getD p Resize.zero).job - id:=wr (by omega)
  rw [hw]
  omega
theorem Qs9 (x:Node):QP0 x=true ↔ (0<=x.epoch∧x.epoch<=999999999)∧(0<=x.since∧x.since<=1000000)∧(0<=x.asked∧x.asked<=1000000) ∧
  ((x.state=0∧x.job=0∧x.want=0)∨(x.state=1∧(1<=x.job∧x.job<=99999)∧(x.want=0∨x.want=1∨x.want=3∨x.want=4))∨(x.state=2∧(1<=x.job∧x.job<=99999)∧(x.want=0∨x.want=2))∨(x.state=3∧(1<=x.job∧x.job<=99999)∧x.want=5)∨(x.state=4∧x.job=0∧(x.want=0∨x.want=6))):=by
 unfold QP0
 simp only [Qvd,Qg3,List.any_cons,List.any_nil]
 obtain ⟨st,jb,ep,dr,wa,si,as_⟩:=x
 dsimp only
 by_cases h0:st=0
 ·subst h0;grind
 by_cases h1:st=1
 ·subst h1;grind
 by_cases h2:st=2
 ·subst h2;grind
 by_cases h3:st=3
 ·subst h3;grind
 by_cases h4:st=4
 ·subst h4;grind
 grind
theorem act4 (x:Node) (now:Int):QR0 x 4 0 now={ x with want:=0 }∧(Qx4 x 4 0=true ↔ x.state=1∨x.state=2):=by
 refine ⟨rfl,?_⟩
 show ((x.state==1)||(x.state==2))=true ↔ _
 simp
theorem act7 (x:Node) (now:Int):QR0 x 7 0 now=(⟨3,x.job,x.epoch,x.drain,5,now,now⟩:Node)∧(Qx4 x 7 0=true ↔ x.state=1∨x.state=2):=by
 refine ⟨rfl,?_⟩
 show ((x.state==1)||(x.state==2))=true ↔ _
 simp
theorem act6 (x:Node) (now:Int):QR0 x 6 0 now={ x with want:=0 }∧(Qx4 x 6 0=true ↔ x.state=1∧x.want=4):=by
 refine ⟨rfl,?_⟩
 show ((x.state==1)&&(x.want==4))=true ↔ _
 simp
theorem act3 (x:Node) (now:Int):QR0 x 3 0 now=(⟨1,x.job,x.epoch,x.drain,3,now,now⟩:Node)∧(Qx4 x 3 0=true ↔ x.state=2):=by
 refine ⟨rfl,?_⟩
 show (x.state==2)=true ↔ _
 simp
section
variable {s:State}
theorem good_now (g:Good s):0<=s.now∧s.now<=1000000:=by
 have h:=g.plan
 unfold Qr2 at h
 cases h1:(Qt2 s != 0) with
 | true=>rw [h1] at h;cases h
 | false =>
  have hr:Qt2 s=0:=by simpa using h1
  unfold Qt2 at hr
  cases h2:(((((decide (s.now<0))||(decide (s.now > 1000000)))||((Qa0 s.nodes)!=0))||((QW1 s.jobs)!=0))||((QM6 s.books)!=0)) with
  | true=>rw [h2] at hr;cases hr
  | false =>
   have h3:=(or_f (or_f (or_f h2).1).1).1
   simp only [Bool.or_eq_false_iff,decide_eq_false_iff_not] at h3
   omega
theorem Q2f (g:Good s):Qg3 s.now=true:=by
 have:=good_now g
 unfold Qg3
 simp;omega
theorem QQ6 (g:Good s):Qa0 s.nodes=0:=(Qz4 g.plan).1
theorem QR6 (g:Good s):QW1 s.jobs=0:=(Qz4 g.plan).2
theorem good_len (g:Good s):s.nodes.length<=48:=(QX6 (QQ6 g)).1.2
theorem good_fine (g:Good s) {k:Nat} (hk:k<s.nodes.length):QP0 (s.nodes.getD k Node.zero)=true:=(QX6 (QQ6 g)).2 _ (Qy6 hk)
theorem Qwe (g:Good s) {j:Job} (hj:j ∈ s.jobs):Q61 j=0:=(Qw4 (QR6 g)).2.1 j hj
theorem good_resz (g:Good s):∀ r ∈ s.resizes,1<=r.job∧r.job<=99999:=fun r hr=>by
 obtain ⟨j,hj,_,e,_⟩:=g.res r hr
 rw [← e]
 exact Q59 (Qwe g hj)
theorem job_nodes_iff {x:Int} (hx:U64 x):Qz6 x=true ↔ ∀ k,k<64->tb x k=true->k<48:=by
 unfold Qz6
 obtain ⟨u,b⟩:=QU9 (n:=48) (by decide)
 rw [show Qp3 48=Qp3 ((48:Nat):Int) from rfl,Ql9 hx u]
 exact ⟨fun h k hk hb=>by have:=h k hk hb;rw [b] at this;exact of_decide_eq_true this,fun h k hk hb=>by rw [b];exact decide_eq_true (h k hk hb)⟩
structure RzAt (s:State) (r:Resize) (j:Job):Prop where
 g:Good s
 u:WU s
 hr:r ∈ s.resizes
 hj:j ∈ s.jobs
 st:j.state=2
 id:j.id=r.job
 res:ResP s r j
section
variable {r:Resize} {j:Job} (a:RzAt s r j)
include a
theorem RzAt.un:U64 r.nodes:=(a.u.2 r a.hr).1
theorem RzAt.us:U64 r.said:=(a.u.2 r a.hr).2
theorem RzAt.uj:U64 j.nodes:=a.u.1 j a.hj
theorem RzAt.node {k:Nat} (hk:k<64) (h:tb r.nodes k=true):k<s.nodes.length∧(s.nodes.getD k Node.zero).job=r.job∧(s.nodes.getD k Node.zero).state=(if r.grow=true then 2 else 1):=by
 obtain ⟨_,_,_,R⟩:=a.res
 cases hg:r.grow with
 | true =>
  rw [if_pos hg] at R
  simpa using (R.2.1 k hk).1 h
 | false =>
  rw [if_neg (by rw [hg];simp)] at R
  have:=(a.g.held j a.hj a.st k).1 (R.2.1 k hk h)
  rw [a.id] at this
  simpa using this
theorem RzAt.asked {k:Nat} (hk:k<64) (h:tb r.nodes k=true) (h':tb r.said k=false):(s.nodes.getD k Node.zero).want=(if r.grow=true then 2 else 4):=by
 obtain ⟨_,_,_,R⟩:=a.res
 cases hg:r.grow with
 | true =>
  rw [if_pos hg] at R
  simpa using ((R.1 k hk).2 ⟨h,h'⟩).2.2
 | false =>
  rw [if_neg (by rw [hg];simp)] at R
  simpa using ((R.1 k hk).2 ⟨h,h'⟩).2.2
theorem RzAt.state {k:Nat} (hk:k<64) (h:tb r.nodes k=true):(s.nodes.getD k Node.zero).state=1∨(s.nodes.getD k Node.zero).state=2:=by
 have:=(a.node hk h).2.2
 split at this
 ·exact .inr this
 ·exact .inl this
theorem RzAt.settle {k:Nat} (hk:k<64) (h:tb r.nodes k=true):Qp0 s.nodes (QH0 ([(k:Int)]:List Int)).1 4 0 s.now=(turnP (fun i=>decide (k=i)) (fun x=>{ x with want:=0 }) s.nodes,[],0)∧Qa0 (turnP (fun i=>decide (k=i)) (fun x=>{ x with want:=0 }) s.nodes)=0:=by
 obtain ⟨u,b⟩:=tb_one hk
 have e:=each_ok (act:=4) (job:=0) (now:=s.now) u (QQ6 a.g) (Q2f a.g) (fun i hi hb=>by
  rw [b] at hb
  obtain rfl:=of_decide_eq_true hb
  obtain ⟨h1,h2,_⟩:=a.node hk h
  refine ⟨h1,(act4 _ s.now).2.2 (a.state hk h),?_⟩
  rw [(act4 _ s.now).1,Qs9]
  have hf:=(Qs9 _).1 (good_fine a.g h1)
  have hs:=a.state hk h
  dsimp only
  omega)
 have e2:turnP (tb (QH0 ([(k:Int)]:List Int)).1) (fun x=>QR0 x 4 0 s.now) s.nodes=turnP (fun i=>decide (k=i)) (fun x=>{ x with want:=0 }) s.nodes :=
  QLb _ fun i _=>b i
 rw [e2] at e
 exact e
theorem RzAt.all {l:List Node} (hc:Qa0 l=0) (hl:l.length=s.nodes.length) (hst:∀ k,k<s.nodes.length->(l.getD k Node.zero).state=(s.nodes.getD k Node.zero).state∧(l.getD k Node.zero).job=(s.nodes.getD k Node.zero).job) (act:Int) (ha:(act=7)∨(act=3∧r.grow=true)) :
  Qp0 l r.nodes act 0 s.now=(turnP (tb r.nodes) (fun x=>QR0 x act 0 s.now) l,bif QK3 act then Q35 (turnP (tb r.nodes) (fun x=>QR0 x act 0 s.now) l) (Qm0 r.nodes) else [],0)∧Qa0 (turnP (tb r.nodes) (fun x=>QR0 x act 0 s.now) l)=0:=by
 refine each_ok a.un hc (Q2f a.g) fun k hk hb=>?_
 obtain ⟨h1,h2,h3⟩:=a.node hk hb
 obtain ⟨q1,q2⟩:=hst k h1
 have hs:=a.state hk hb
 have hf:=(Qs9 _).1 ((QX6 hc).2 _ (Qy6 (d:=Node.zero) (show k<l.length by omega)))
 have hn:=good_now a.g
 refine ⟨by omega,?_⟩
 rcases ha with rfl|⟨rfl,hg⟩
 ·refine ⟨(act7 _ s.now).2.2 (by rw [q1];exact hs),?_⟩
  rw [(act7 _ s.now).1,Qs9]
  dsimp only
  omega
 ·rw [if_pos hg] at h3
  refine ⟨(act3 _ s.now).2.2 (by rw [q1];exact h3),?_⟩
  rw [(act3 _ s.now).1,Qs9]
  dsimp only
  omega
theorem RzAt.keep (hg:r.grow=false):Qp0 s.nodes (wu64 (BitVec.ofInt 64 r.nodes &&& ~~~(BitVec.ofInt 64 r.said)).toNat) 6 0 s.now=(turnP (fun k=>tb r.nodes k && !tb r.said k) (fun x=>{ x with want:=0 }) s.nodes,[],0)∧Qa0 (turnP (fun k=>tb r.nodes k && !tb r.said k) (fun x=>{ x with want:=0 }) s.nodes)=0:=by
 have e:=each_ok (act:=6) (job:=0) (now:=s.now) (Qz8 (BitVec.ofInt 64 r.nodes &&& ~~~(BitVec.ofInt 64 r.said)).toNat) (QQ6 a.g) (Q2f a.g) (fun k hk hb=>by
  rw [QS5 a.un a.us] at hb
  have hb:tb r.nodes k=true∧tb r.said k=false:=by simpa using hb
  obtain ⟨h1,h2,h3⟩:=a.node hk hb.1
  have h4:=a.asked hk hb.1 hb.2
  rw [if_neg (by rw [hg];simp)] at h3 h4
  refine ⟨h1,(act6 _ s.now).2.2 ⟨h3,h4⟩,?_⟩
  rw [(act6 _ s.now).1,Qs9]
  have hf:=(Qs9 _).1 (good_fine a.g h1)
  dsimp only
  omega)
 have e2:turnP (tb (wu64 (BitVec.ofInt 64 r.nodes &&& ~~~(BitVec.ofInt 64 r.said)).toNat)) (fun x=>QR0 x 6 0 s.now) s.nodes=turnP (fun k=>tb r.nodes k && !tb r.said k) (fun x=>{ x with want:=0 }) s.nodes :=
  QLb _ fun i _=>QS5 a.un a.us i
 rw [e2] at e
 exact e
theorem RzAt.kind:j.shape.kind=3:=a.res.1.1
theorem RzAt.range:j.shape.min<=Q40 j.nodes∧Q40 j.nodes<=j.shape.max∧(decide (j.choice<0)||decide (j.choice >= ((Q51 j.shape).length:Int)))=false:=by
 have h:=job_runs (Qwe a.g a.hj) a.st
 unfold QM2 at h
 cases h1:((decide (j.choice<0))||(decide (j.choice >= ((Q51 j.shape).length:Int)))) with
 | true=>rw [h1] at h;cases h
 | false =>
  rw [h1,a.kind] at h
  have h:(decide (Q40 j.nodes >= j.shape.min)&&decide (Q40 j.nodes<=j.shape.max))=true:=h
  simp only [Bool.and_eq_true,decide_eq_true_eq] at h
  exact ⟨h.1,h.2,rfl⟩
theorem RzAt.bits {k:Nat} (hk:k<64) (h:tb j.nodes k=true∨tb r.nodes k=true):k<48:=by
 have:=good_len a.g
 rcases h with h|h
 ·have:=((a.g.held j a.hj a.st k).1 h).1;omega
 ·have:=(a.node hk h).1;omega
theorem RzAt.size {x:Int} (hx:U64 x) (h1:∀ k,k<64->tb x k=true->k<48) (h2:j.shape.min<=Q40 x∧Q40 x<=j.shape.max):QG2 j x=({ j with nodes:=x },0)∧Q61 { j with nodes:=x }=0:=by
 have hn:=(job_nodes_iff hx).2 h1
 have hA:QM2 j.shape j.choice (Q40 x)=true:=by
  unfold QM2
  rw [a.range.2.2,a.kind]
  show (decide (Q40 x >= j.shape.min)&&decide (Q40 x<=j.shape.max))=true
  simp only [Bool.and_eq_true,decide_eq_true_eq]
  exact ⟨h2.1,h2.2⟩
 constructor
 ·unfold QG2
  rw [Qwe a.g a.hj,hn,hA,a.st]
  rfl
 ·have h:=Qwe a.g a.hj
  unfold Q61 at h ⊢
  have e1:Qn0 { j with nodes:=x }=Qn0 j:=rfl
  rw [e1]
  dsimp only
  cases hq:((((((decide (j.id<1))||(decide (j.id > 99999)))||(!(Qh2 j.born)))||(j.used != (Qh4 j.used)))||((Q44 (Qn0 j))!=0))||(Qs0 j.after (fun (y:Dep)=>(decide (y.job >= j.id))))) with
  | true=>rw [hq] at h;cases h
  | false =>
   rw [hq,a.st] at h
   rw [a.st]
   have hrun:Qk1 { j with nodes:=x }=true:=by
    have h:(bif (!(Qk1 j)) then (140:Int) else 0)=0:=h
    cases hv:Qk1 j with
    | false=>rw [hv] at h;cases h
    | true =>
     unfold Qk1 at hv ⊢
     have e2:QK0 { j with nodes:=x }=QK0 j:=rfl
     rw [e2]
     dsimp only
     cases hw:(((((((!(QK0 j j.choice).2)||j.held)||(!(Qh2 j.start)))||(!(Qh2 j.promise)))||(decide (j.promise<j.start)))||(!(Qh2 j.limit)))||((w64 (j.limit - j.start))!=(QK0 j j.choice).1.wall)) with
     | true=>rw [hw] at hv;cases hv
     | false =>
      rw [hn,hA]
      rfl
   show (bif (!(Qk1 { j with nodes:=x })) then (140:Int) else 0)=0
   rw [hrun]
   rfl
theorem RzAt.more (hg:r.grow=true):Q40 (wu64 (BitVec.ofInt 64 j.nodes ||| BitVec.ofInt 64 r.nodes).toNat)=Q40 j.nodes+Q40 r.nodes∧QG2 j (wu64 (BitVec.ofInt 64 j.nodes ||| BitVec.ofInt 64 r.nodes).toNat)=({ j with nodes:=wu64 (BitVec.ofInt 64 j.nodes ||| BitVec.ofInt 64 r.nodes).toNat },0)∧Q61 { j with nodes:=wu64 (BitVec.ofInt 64 j.nodes ||| BitVec.ofInt 64 r.nodes).toNat }=0:=by
 have hc:=count_or a.uj a.un (fun k hk h=>by
  cases h2:tb r.nodes k with
  | false=>rfl
  | true =>
   have h3:=((a.g.held j a.hj a.st k).1 h).2.2
   have h4:=(a.node hk h2).2.2
   rw [if_pos hg] at h4
   omega)
 refine ⟨hc,a.size (Qz8 _) (fun k hk h=>?_) ?_⟩
 ·rw [tb_or a.uj a.un] at h
  exact a.bits hk (by simpa using h)
 ·obtain ⟨_,_,_,R⟩:=a.res
  rw [if_pos hg] at R
  have h1:=R.2.2
  unfold GrowP at h1
  have h2:=Qve a.uj
  have h3:=Qve a.un
  have h4:=a.range
  rw [w6 (by omega)] at h1
  rw [hc]
  omega
theorem RzAt.less (hg:r.grow=false):Q40 (wu64 (BitVec.ofInt 64 j.nodes &&& ~~~(BitVec.ofInt 64 r.nodes)).toNat)=Q40 j.nodes - Q40 r.nodes∧QG2 j (wu64 (BitVec.ofInt 64 j.nodes &&& ~~~(BitVec.ofInt 64 r.nodes)).toNat)=({ j with nodes:=wu64 (BitVec.ofInt 64 j.nodes &&& ~~~(BitVec.ofInt 64 r.nodes)).toNat },0)∧Q61 { j with nodes:=wu64 (BitVec.ofInt 64 j.nodes &&& ~~~(BitVec.ofInt 64 r.nodes)).toNat }=0:=by
 obtain ⟨_,_,_,R⟩:=a.res
 rw [if_neg (by rw [hg];simp)] at R
 have hc:=count_andnot a.uj a.un R.2.1
 refine ⟨hc,a.size (Qz8 _) (fun k hk h=>?_) ?_⟩
 ·rw [QS5 a.uj a.un] at h
  have h:tb j.nodes k=true∧tb r.nodes k=false:=by simpa using h
  exact a.bits hk (.inl h.1)
 ·have h1:=R.2.2
  unfold ShrP at h1
  have h2:=Qve a.uj
  have h3:=Qve a.un
  have h4:=a.range
  rw [w6 (by omega)] at h1
  rw [hc]
  omega
theorem RzAt.find:QV0 s.jobs r.job=(j,true):=by
 obtain ⟨p,hp⟩:=List.getElem?_of_mem a.hj
 rw [← a.id]
 exact table_Find_ok (QR6 a.g) hp
theorem RzAt.put {x:Int} (h:Q61 { j with nodes:=x }=0):∃ p,s.jobs[p]? = some j∧Qo5 s.jobs { j with nodes:=x }=(s.jobs.set p { j with nodes:=x },0):=by
 obtain ⟨p,hp⟩:=List.getElem?_of_mem a.hj
 refine ⟨p,hp,?_⟩
 obtain ⟨hn,hj,hs⟩:=Qw4 (QR6 a.g)
 have hb:∀ y ∈ s.jobs,1<=y.id∧y.id<=99999:=fun y hy=>Q59 (hj y hy)
 have hpl:p<s.jobs.length:=(List.getElem?_eq_some_iff.1 hp).1
 have hpi:(Qq0 s.jobs j.id).1=(p:Int) :=
  QEc s.jobs j.id hn (hb j a.hj) hb (Qk4 hs) p j hp rfl _ 0 (s.jobs.length:Int) (by omega) (by omega) (by omega) (by omega) (by omega) (fun k hk y hy=>absurd (List.getElem?_eq_some_iff.1 hy).1 (by omega))
 have hp2:(Qq0 s.jobs j.id).2=true:=by
  have e:(Qq0 s.jobs j.id).2=((decide ((Qq0 s.jobs j.id).1<(s.jobs.length:Int)))&&((w64 ((s.jobs.getD (Int.toNat (Qq0 s.jobs j.id).1) Job.zero).id - j.id))==0)):=rfl
  rw [e,hpi,Int.toNat_natCast]
  have hg:s.jobs.getD p Job.zero=j:=by simp [List.getD,hp]
  rw [hg,Int.sub_self,decide_eq_true (show (p:Int)<(s.jobs.length:Int) by omega)]
  rfl
 unfold Qo5
 rw [QR6 a.g,h]
 show (bif (!(Qq0 s.jobs j.id).2) then ([],140) else QHa (s.jobs.set (Int.toNat ((Qq0 s.jobs j.id).1)) { j with nodes:=x }))=_
 rw [hp2,hpi]
 rfl
end
end
abbrev rzI (s:State) (id:Int):Nat:=Int.toNat (Q00 s.resizes id bsrF).1
abbrev rzZ (s:State) (id:Int):Resize:=s.resizes.getD (rzI s id) Resize.zero
abbrev rzT (s:State) (n:Note):List Resize:=s.resizes.set (rzI s n.job) { (rzZ s n.job) with said:=(wu64 (BitVec.ofInt 64 (rzZ s n.job).said ||| BitVec.ofInt 64 (QH0 ([n.node]:List Int)).1).toNat) }
theorem find_sz {l:List Job} (h:∀ y ∈ l,y.sz) (id:Int):(QV0 l id).1.sz:=by
 unfold QV0
 cases (((QW1 l)!=0)||(!(Q77 id))) with
 | true=>exact Job.szz _
 | false =>
  cases (!(Qq0 l id).2) with
  | true=>exact Job.szz _
  | false=>exact Q94 (p:=Job.sz) (fun y hy=>h y (List.mem_of_mem_take (List.mem_of_mem_drop hy))) (Job.szz _)
theorem size_sz {j:Job} (h:j.sz) (x:Int):(QG2 j x).1.sz:=by
 unfold QG2
 cases ((Q61 j)!=0) with
 | true=>exact Job.szz _
 | false =>
  cases ((j.state==2)&&((!(Qz6 x))||(!(QM2 j.shape j.choice (Q40 x))))) with
  | true=>exact Job.szz _
  | false =>
   cases ((Qcc (j.state==2))!=0) with
   | true=>exact Job.szz _
   | false=>exact h
section
variable {s:State}
theorem rz_good (hz:s.sz) (hu:WU s) (hc:((Qv0 s)!=0)=false):Good s:=(good_iff (hu.words hz)).1 (by simpa using hc)
theorem rz_place (hz:s.sz) (hu:WU s) (hc:((Qv0 s)!=0)=false) {id:Int} (hk:Qn1 id=true) :
  ∃ p:Nat,(Q00 s.resizes id bsrF).1=(p:Int)∧p<=s.resizes.length∧(∀ k,k<p->(s.resizes.getD k Resize.zero).job<id)∧(∀ k,p<=k->k<s.resizes.length->id<=(s.resizes.getD k Resize.zero).job)∧((Q00 s.resizes id bsrF).2=true ↔ p<s.resizes.length∧(s.resizes.getD p Resize.zero).job=id):=by
 have g:=rz_good hz hu hc
 unfold Qn1 at hk
 simp only [Bool.and_eq_true,decide_eq_true_eq] at hk
 exact place_iff s.resizes id hz.2.2.2.1 g.sorted (good_resz g) (by omega)
theorem rz_at (hz:s.sz) (hu:WU s) (hc:((Qv0 s)!=0)=false) {id:Int} (hk:Qn1 id=true) (hb:(Q00 s.resizes id bsrF).2=true) :
  ∃ j,RzAt s (rzZ s id) j∧(rzZ s id).job=id∧rzI s id<s.resizes.length∧(Q00 s.resizes id bsrF).1=((rzI s id:Nat):Int):=by
 have g:=rz_good hz hu hc
 obtain ⟨p,h1,h2,h3,h4,h5⟩:=rz_place hz hu hc hk
 obtain ⟨h6,h7⟩:=h5.1 hb
 have e:rzI s id=p:=by show Int.toNat _=p;rw [h1];rfl
 have hm:rzZ s id ∈ s.resizes:=Qy6 (by rw [e];exact h6)
 obtain ⟨j,hj,hst,hid,R⟩:=g.res _ hm
 exact ⟨j,⟨g,hu,hm,hj,hst,hid,R⟩,by show (s.resizes.getD (rzI s id) Resize.zero).job=id;rw [e];exact h7,by rw [e];exact h6,by rw [e];exact h1⟩
theorem rz_T {n:Note} (h:rzI s n.job<s.resizes.length):(rzT s n).getD (rzI s n.job) Resize.zero={ (rzZ s n.job) with said:=(wu64 (BitVec.ofInt 64 (rzZ s n.job).said ||| BitVec.ofInt 64 (QH0 ([n.node]:List Int)).1).toNat) }:=by
 rw [List.getD,List.getElem?_set_self h]
 rfl
theorem has_iff {x:Int} (hx:U64 x) (n:Int):Qu0 x n=true ↔ ∃ k:Nat,n=(k:Int)∧k<64∧tb x k=true:=by
 constructor
 ·intro h
  have h0:0<=n:=by
   unfold Qu0 at h
   simp only [Bool.and_eq_true,decide_eq_true_eq] at h
   omega
  obtain ⟨k,rfl⟩:∃ k:Nat,n=(k:Int):=⟨n.toNat,by omega⟩
  rw [QH2 hx,Bool.and_eq_true,decide_eq_true_eq] at h
  exact ⟨k,rfl,h.1,h.2⟩
 ·rintro ⟨k,rfl,h1,h2⟩
  rw [QH2 hx,h2,decide_eq_true h1]
  rfl
theorem rz_has {r:Resize} {j:Job} (a:RzAt s r j) {n:Int} (h:Qu0 (wu64 (BitVec.ofInt 64 r.nodes &&& ~~~(BitVec.ofInt 64 r.said)).toNat) n=true):∃ k:Nat,n=(k:Int)∧k<64∧tb r.nodes k=true∧tb r.said k=false:=by
 obtain ⟨k,e,hk,hb⟩:=(has_iff (Qz8 _) n).1 h
 rw [QS5 a.un a.us] at hb
 have hb:tb r.nodes k=true∧tb r.said k=false:=by simpa using hb
 exact ⟨k,e,hk,hb.1,hb.2⟩
section
variable {n:Note} (hz:s.sz) (hu:WU s) (hc:((Qv0 s)!=0)=false) (hk:Qn1 n.job=true) (hb:(Q00 s.resizes n.job bsrF).2=true)
include hz hu hc hk hb
theorem rz_in {P:Bool} (h:(!(P||(!(Qu0 (wu64 (BitVec.ofInt 64 (rzZ s n.job).nodes &&& ~~~(BitVec.ofInt 64 (rzZ s n.job).said)).toNat) n.node))))=true):0<=n.node∧n.node<(s.nodes.length:Int):=by
 obtain ⟨j,a,_⟩:=rz_at hz hu hc hk hb
 have h:Qu0 (wu64 (BitVec.ofInt 64 (rzZ s n.job).nodes &&& ~~~(BitVec.ofInt 64 (rzZ s n.job).said)).toNat) n.node=true:=by
  cases hq:Qu0 (wu64 (BitVec.ofInt 64 (rzZ s n.job).nodes &&& ~~~(BitVec.ofInt 64 (rzZ s n.job).said)).toNat) n.node with
  | true=>rfl
  | false=>rw [hq] at h;simp at h
 obtain ⟨k,e,h1,h2,_⟩:=rz_has a h
 have:=(a.node h1 h2).1
 omega
theorem Q1b {P C:Bool} (hx:((P||(!(Qu0 (wu64 (BitVec.ofInt 64 (rzZ s n.job).nodes &&& ~~~(BitVec.ofInt 64 (rzZ s n.job).said)).toNat) n.node)))||C)=false) :
  ∃ j k,RzAt s (rzZ s n.job) j∧rzI s n.job<s.resizes.length∧n.node=((k:Nat):Int)∧k<64∧tb (rzZ s n.job).nodes k=true∧tb (rzZ s n.job).said k=false:=by
 obtain ⟨j,a,_,hi,_⟩:=rz_at hz hu hc hk hb
 have h:Qu0 (wu64 (BitVec.ofInt 64 (rzZ s n.job).nodes &&& ~~~(BitVec.ofInt 64 (rzZ s n.job).said)).toNat) n.node=true:=by
  have:=(or_f (or_f hx).1).2
  simpa using this
 obtain ⟨k,e,h1,h2,h3⟩:=rz_has a h
 exact ⟨j,k,a,hi,e,h1,h2,h3⟩
theorem QBa {P C:Bool} (hx:((P||(!(Qu0 (wu64 (BitVec.ofInt 64 (rzZ s n.job).nodes &&& ~~~(BitVec.ofInt 64 (rzZ s n.job).said)).toNat) n.node)))||C)=false)
  (h:((Qp0 s.nodes ((QH0 ([n.node]:List Int)).1) 4 0 s.now).2.2 != 0)=true):False:=by
 obtain ⟨j,k,a,_,e,h1,h2,_⟩:=Q1b hz hu hc hk hb hx
 rw [e,(a.settle h1 h2).1] at h
 cases h
theorem rz_len {P C:Bool} (hx:((P||(!(Qu0 (wu64 (BitVec.ofInt 64 (rzZ s n.job).nodes &&& ~~~(BitVec.ofInt 64 (rzZ s n.job).said)).toNat) n.node)))||C)=false) :
  (Qp0 s.nodes ((QH0 ([n.node]:List Int)).1) 4 0 s.now).1.length<=4294967296:=by
 obtain ⟨j,k,a,_,e,h1,h2,_⟩:=Q1b hz hu hc hk hb hx
 rw [e,(a.settle h1 h2).1]
 show (turnP _ _ _).length<=_
 rw [QW2]
 exact hz.1
theorem QKf (hg:(rzZ s n.job).grow=true) (h:((Qp0 s.nodes ((rzZ s n.job).nodes) 7 0 s.now).2.2 != 0)=true):False:=by
 obtain ⟨j,a,_⟩:=rz_at hz hu hc hk hb
 rw [(a.all (QQ6 a.g) rfl (fun _ _=>⟨rfl,rfl⟩) 7 (.inl rfl)).1] at h
 cases h
theorem QJf (hg:(rzZ s n.job).grow=false) (h:((Qp0 s.nodes (wu64 (BitVec.ofInt 64 (rzZ s n.job).nodes &&& ~~~(BitVec.ofInt 64 (rzZ s n.job).said)).toNat) 6 0 s.now).2.2 != 0)=true):False:=by
 obtain ⟨j,a,_⟩:=rz_at hz hu hc hk hb
 rw [(a.keep hg).1] at h
 cases h
theorem rz_after {P C:Bool} (hx:((P||(!(Qu0 (wu64 (BitVec.ofInt 64 (rzZ s n.job).nodes &&& ~~~(BitVec.ofInt 64 (rzZ s n.job).said)).toNat) n.node)))||C)=false) (act:Int) (ha:act=7∨(act=3∧(rzZ s n.job).grow=true)) :
  (Qp0 (Qp0 s.nodes ((QH0 ([n.node]:List Int)).1) 4 0 s.now).1 (((rzT s n).getD (rzI s n.job) Resize.zero).nodes) act 0 s.now).2.2=0:=by
 obtain ⟨j,k,a,hi,e,h1,h2,_⟩:=Q1b hz hu hc hk hb hx
 rw [rz_T hi,e,(a.settle h1 h2).1]
 have h:=(a.all (a.settle h1 h2).2 (QW2 _ _ _) (fun i hi=>by
  rw [QT5 _ _ hi]
  cases decide (k=i) <;> exact ⟨rfl,rfl⟩) act ha).1
 rw [h]
theorem QLf {P C:Bool} (hx:((P||(!(Qu0 (wu64 (BitVec.ofInt 64 (rzZ s n.job).nodes &&& ~~~(BitVec.ofInt 64 (rzZ s n.job).said)).toNat) n.node)))||C)=false) (hg:((rzT s n).getD (rzI s n.job) Resize.zero).grow=true)
  (h:((Qp0 (Qp0 s.nodes ((QH0 ([n.node]:List Int)).1) 4 0 s.now).1 (((rzT s n).getD (rzI s n.job) Resize.zero).nodes) 3 0 s.now).2.2 != 0)=true):False:=by
 obtain ⟨j,k,a,hi,_⟩:=Q1b hz hu hc hk hb hx
 rw [rz_after hz hu hc hk hb hx 3 (.inr ⟨rfl,by rw [rz_T hi] at hg;exact hg⟩)] at h
 cases h
theorem Qg9 {P C:Bool} (hx:((P||(!(Qu0 (wu64 (BitVec.ofInt 64 (rzZ s n.job).nodes &&& ~~~(BitVec.ofInt 64 (rzZ s n.job).said)).toNat) n.node)))||C)=false) (hg:((rzT s n).getD (rzI s n.job) Resize.zero).grow=false)
  (h:((Qp0 (Qp0 s.nodes ((QH0 ([n.node]:List Int)).1) 4 0 s.now).1 (((rzT s n).getD (rzI s n.job) Resize.zero).nodes) 7 0 s.now).2.2 != 0)=true):False:=by
 rw [rz_after hz hu hc hk hb hx 7 (.inl rfl)] at h
 cases h
theorem rz_more (hg:((rzT s n).getD (rzI s n.job) Resize.zero).grow=true):∃ j,RzAt s (rzZ s n.job) j∧(rzZ s n.job).grow=true∧rzI s n.job<s.resizes.length ∧
  QG2 (QV0 s.jobs (((rzT s n).getD (rzI s n.job) Resize.zero).job)).1 (wu64 (BitVec.ofInt 64 (QV0 s.jobs (((rzT s n).getD (rzI s n.job) Resize.zero).job)).1.nodes ||| BitVec.ofInt 64 ((rzT s n).getD (rzI s n.job) Resize.zero).nodes).toNat)=({ j with nodes:=wu64 (BitVec.ofInt 64 j.nodes ||| BitVec.ofInt 64 (rzZ s n.job).nodes).toNat },0):=by
 obtain ⟨j,a,_,hi,_⟩:=rz_at hz hu hc hk hb
 rw [rz_T hi] at hg ⊢
 refine ⟨j,a,hg,hi,?_⟩
 show QG2 (QV0 s.jobs (rzZ s n.job).job).1 (wu64 (BitVec.ofInt 64 (QV0 s.jobs (rzZ s n.job).job).1.nodes ||| BitVec.ofInt 64 (rzZ s n.job).nodes).toNat)=_
 rw [a.find]
 exact (a.more hg).2.1
theorem rz_less (hg:((rzT s n).getD (rzI s n.job) Resize.zero).grow=false):∃ j,RzAt s (rzZ s n.job) j∧(rzZ s n.job).grow=false∧rzI s n.job<s.resizes.length ∧
  QG2 (QV0 s.jobs (((rzT s n).getD (rzI s n.job) Resize.zero).job)).1 (wu64 (BitVec.ofInt 64 (QV0 s.jobs (((rzT s n).getD (rzI s n.job) Resize.zero).job)).1.nodes &&& ~~~(BitVec.ofInt 64 ((rzT s n).getD (rzI s n.job) Resize.zero).nodes)).toNat)=({ j with nodes:=wu64 (BitVec.ofInt 64 j.nodes &&& ~~~(BitVec.ofInt 64 (rzZ s n.job).nodes)).toNat },0):=by
 obtain ⟨j,a,_,hi,_⟩:=rz_at hz hu hc hk hb
 rw [rz_T hi] at hg ⊢
 refine ⟨j,a,hg,hi,?_⟩
 show QG2 (QV0 s.jobs (rzZ s n.job).job).1 (wu64 (BitVec.ofInt 64 (QV0 s.jobs (rzZ s n.job).job).1.nodes &&& ~~~(BitVec.ofInt 64 (rzZ s n.job).nodes)).toNat)=_
 rw [a.find]
 exact (a.less hg).2.1
theorem QXd (hg:((rzT s n).getD (rzI s n.job) Resize.zero).grow=true)
  (h:((QG2 (QV0 s.jobs (((rzT s n).getD (rzI s n.job) Resize.zero).job)).1 (wu64 (BitVec.ofInt 64 (QV0 s.jobs (((rzT s n).getD (rzI s n.job) Resize.zero).job)).1.nodes ||| BitVec.ofInt 64 ((rzT s n).getD (rzI s n.job) Resize.zero).nodes).toNat)).2 != 0)=true):False:=by
 obtain ⟨j,a,_,_,e⟩:=rz_more hz hu hc hk hb hg
 rw [e] at h
 cases h
theorem QWd (hg:((rzT s n).getD (rzI s n.job) Resize.zero).grow=false)
  (h:((QG2 (QV0 s.jobs (((rzT s n).getD (rzI s n.job) Resize.zero).job)).1 (wu64 (BitVec.ofInt 64 (QV0 s.jobs (((rzT s n).getD (rzI s n.job) Resize.zero).job)).1.nodes &&& ~~~(BitVec.ofInt 64 ((rzT s n).getD (rzI s n.job) Resize.zero).nodes)).toNat)).2 != 0)=true):False:=by
 obtain ⟨j,a,_,_,e⟩:=rz_less hz hu hc hk hb hg
 rw [e] at h
 cases h
theorem QNf (hg:((rzT s n).getD (rzI s n.job) Resize.zero).grow=true)
  (h:((Qo5 s.jobs (QG2 (QV0 s.jobs (((rzT s n).getD (rzI s n.job) Resize.zero).job)).1 (wu64 (BitVec.ofInt 64 (QV0 s.jobs (((rzT s n).getD (rzI s n.job) Resize.zero).job)).1.nodes ||| BitVec.ofInt 64 ((rzT s n).getD (rzI s n.job) Resize.zero).nodes).toNat)).1).2 != 0)=true):False:=by
 obtain ⟨j,a,h1,_,e⟩:=rz_more hz hu hc hk hb hg
 obtain ⟨p,_,e2⟩:=a.put (a.more h1).2.2
 rw [e,e2] at h
 cases h
theorem QMf (hg:((rzT s n).getD (rzI s n.job) Resize.zero).grow=false)
  (h:((Qo5 s.jobs (QG2 (QV0 s.jobs (((rzT s n).getD (rzI s n.job) Resize.zero).job)).1 (wu64 (BitVec.ofInt 64 (QV0 s.jobs (((rzT s n).getD (rzI s n.job) Resize.zero).job)).1.nodes &&& ~~~(BitVec.ofInt 64 ((rzT s n).getD (rzI s n.job) Resize.zero).nodes)).toNat)).1).2 != 0)=true):False:=by
 obtain ⟨j,a,h1,_,e⟩:=rz_less hz hu hc hk hb hg
 obtain ⟨p,_,e2⟩:=a.put (a.less h1).2.2
 rw [e,e2] at h
 cases h
end
end
theorem list_idx:∀ (m K s:Nat) (out:List Int) (n:Nat),s<m->s<2 ^ K->s<18446744073709551616->(QZ0 m (s:Int) out n).2.1=out++((List.range K).filter (fun k=>s.testBit k)).map (fun (k:Nat)=>((n+k:Nat):Int))
 | 0,_,_,_,_,h,_,_=>absurd h (by omega)
 | m+1,K,s,out,n,hm,hK,hs=>by
  rw [QZ0]
  rcases Nat.eq_zero_or_pos s with h|h
  ·subst h
   simp
  ·obtain ⟨K,rfl⟩:∃ k,K=k+1:=⟨K - 1,by
    rcases K with _|K
    ·simp at hK;omega
    ·rfl⟩
   rw [decide_eq_true (show (s:Int) > 0 by omega)]
   have e1 : Int.tmod (s : Int) 2 = ((s % 2 : Nat) : Int) := rfl
   have e2:Int.tdiv (s:Int) 2=((s / 2:Nat):Int):=rfl
   have e3:wu64 ((s / 2:Nat):Int)=((s / 2:Nat):Int):=QN7 ⟨by omega,by omega⟩
   rw [e1,e2,e3]
   rw [Nat.pow_succ] at hK
   simp only [cond_true]
   have hr : ((List.range (K + 1)).filter (fun k => s.testBit k)).map (fun (k : Nat) => ((n + k : Nat) : Int)) = (if s % 2 = 1 then [(n : Int)] else []) ++ ((List.range K).filter (fun k => (s / 2).testBit k)).map (fun (k : Nat) => ((n + 1 + k : Nat) : Int)) := by
    rw [List.range_succ_eq_map,List.filter_cons,List.filter_map,Nat.testBit_zero]
    have e:((fun k=>s.testBit k) ∘ Nat.succ)=fun k=>(s / 2).testBit k:=by
     funext k
     simp [Nat.testBit_succ]
    have e4:∀ l:List Nat,(l.map Nat.succ).map (fun (k:Nat)=>((n+k:Nat):Int))=l.map (fun (k:Nat)=>((n+1+k:Nat):Int)):=by
     intro l
     rw [List.map_map]
     refine List.map_congr_left fun k _=>?_
     simp only [Function.comp]
     omega
    rw [e]
    by_cases hb : s % 2 = 1
    ·simp only [hb,decide_true,if_true,List.map_cons,Nat.add_zero,e4]
     rfl
    ·simp only [hb,decide_false,if_false,e4,Bool.false_eq_true]
     rfl
   rw [hr]
   rcases Nat.mod_two_eq_zero_or_one s with hb|hb
   ·rw [hb]
    show (QZ0 m ((s / 2:Nat):Int) out (n+1)).2.1=_
    rw [list_idx m K (s / 2) out (n+1) (by omega) (by omega) (by omega)]
    simp
   ·rw [hb]
    show (QZ0 m ((s / 2:Nat):Int) (out++[(n:Int)]) (n+1)).2.1=_
    rw [list_idx m K (s / 2) _ (n+1) (by omega) (by omega) (by omega)]
    simp
theorem list_eq {s:Int} (hs:U64 s):Qm0 s=Qb0 s:=by
 rw [list_form hs]
 obtain ⟨n,rfl⟩:∃ n:Nat,s=(n:Int):=⟨s.toNat,by unfold U64 at hs;omega⟩
 unfold Qb0 Q03
 have hn:n<18446744073709551616:=by unfold U64 at hs;omega
 rw [Int.toNat_natCast,list_idx (n+1) 64 n [] 0 (by omega) (by rw [pow64];exact hn) hn,List.nil_append,← List.range_eq_range']
 refine Eq.trans ?_ (List.map_congr_left (g:=fun (k:Nat)=>((0+k:Nat):Int)) fun k _=>by rw [Nat.zero_add])
 rfl
theorem note_eq' (l:List Node) (n:Int):Qw5 l n=Q84 l n:=by
 unfold Qw5 Q84
 rw [QE5]
theorem notes_g1 (l:List Node):∀ (r:List Int) (out:List Note) (i:Nat),(Qk2 l r out i).1=QE2 l r out i
 | [],_,_=>rfl
 | x :: r,out,i=>by
  rw [Qk2,QE2,note_eq']
  cases (Q84 l x).2 with
  | true=>exact notes_g1 l r _ _
  | false=>exact notes_g1 l r _ _
theorem notes_eq (l:List Node) (r:List Int):Q27 l r=Q35 l r:=notes_g1 l r [] 0
def Act (act:Int):Prop:=act=2∨act=3∨act=4∨act=5∨act=6∨act=7
theorem one_at {act:Int} (ha:Act act) (x:Node) (job now:Int):QG3 x act job now=(QR0 x act job now,Qx4 x act job):=by
 rcases ha with rfl|rfl|rfl|rfl|rfl|rfl <;> rfl
theorem do_eq {act:Int} (ha:Act act) (l:List Node) (n job now:Int):Qu3 l n act job now=Q14 l n act job now:=by
 unfold Qu3 Q14
 rw [one_at ha,← QE5]
 cases hc:(Qa0 l != 0) with
 | true =>
  have e:Qa0 l=120:=by
   unfold Qa0 at hc ⊢
   cases h1:(((decide ((l.length:Int)<1))||(decide ((l.length:Int) > 48)))||(QF0 l (fun (y:Node)=>(!(QP0 y))))) with
   | true=>rfl
   | false=>rw [h1] at hc;cases hc
  rw [e]
  try rfl
 | false =>
  simp only [cond_false,Bool.false_or,Qg3]
  cases decide (n<0) with
  | true=>rfl
  | false =>
   cases decide (n >= (l.length:Int)) with
   | true=>rfl
   | false =>
    simp only [Bool.false_or]
    have e:(!((decide (now >= 0))&&(decide (now<=1000000))))=((decide (now<0))||(decide (now > 1000000))):=by
     rw [Bool.eq_iff_iff]
     simp only [Bool.not_eq_true',Bool.and_eq_false_iff,Bool.or_eq_true,decide_eq_true_eq,decide_eq_false_iff_not]
     omega
    rw [e]
    cases ((decide (now<0))||(decide (now > 1000000))) with
    | true=>rfl
    | false =>
     simp only [Bool.false_or,cond_false]
     cases Qx4 (l.getD (Int.toNat n) Node.zero) act job with
     | false=>rfl
     | true =>
      unfold Qo8
      rw [one_at ha]
theorem sends_eq (act:Int):QK3 act=((((((act==1)||(act==2))||(act==3))||(act==5))||(act==7))||(act==10)):=by
 unfold QK3 Q73
 cases act==1 <;> cases act==2 <;> cases act==3 <;> cases act==5 <;> cases act==7 <;> cases act==10 <;> rfl
theorem each_g1 {act:Int} (ha:Act act) {S:Int} (hs:U64 S) (job now:Int):∀ (r:List Int) (c:List Node) (i:Nat),QP1 S act job now r i c=Q72 S act job now r c i
 | [],c,i=>by
  rw [QP1,Q72,sends_eq,notes_eq,list_eq hs]
 | x :: r,c,i=>by
  rw [QP1,Q72,do_eq ha]
  cases h:((Q14 c x act job now).2 != 0) with
  | true =>
   have:((Q14 c x act job now).2==0)=false:=by simpa using h
   rw [this]
   rfl
  | false =>
   have:((Q14 c x act job now).2==0)=true:=by simpa using h
   rw [this]
   exact each_g1 ha hs job now r _ (i+1)
theorem QWe {act:Int} (ha:Act act) {S:Int} (hs:U64 S) (l:List Node) (job now:Int):QS0 l S act job now=Qp0 l S act job now:=by
 unfold Qp0 QS0
 rw [← QE5,← list_eq hs,each_g1 ha hs]
 cases hc:(Qa0 l != 0) with
 | true =>
  have e:Qa0 l=120:=by
   unfold Qa0 at hc ⊢
   cases h1:(((decide ((l.length:Int)<1))||(decide ((l.length:Int) > 48)))||(QF0 l (fun (y:Node)=>(!(QP0 y))))) with
   | true=>rfl
   | false=>rw [h1] at hc;cases hc
  rw [e]
 | false=>rfl
theorem minus_eq {a b:Int} (ha:U64 a) (hb:U64 b):Qi5 a b=wu64 (BitVec.ofInt 64 a &&& ~~~(BitVec.ofInt 64 b)).toNat:=by
 unfold Qi5
 have h:∀ (x y:BitVec 64),x - (x &&& y)=x &&& ~~~y:=by
  intro x y
  have h1:(x &&& y)+(x &&& ~~~y)=x:=by
   have e:x=(x &&& y) ||| (x &&& ~~~y):=by
    ext i hi
    simp
    cases x[i] <;> cases y[i] <;> rfl
   have d:(x &&& y) &&& (x &&& ~~~y)=0#64:=by
    ext i hi
    simp
    cases x[i] <;> cases y[i] <;> simp
   rw [BitVec.add_eq_or_of_and_eq_zero _ _ d]
   exact e.symm
  have h2:x - (x &&& y)=((x &&& y)+(x &&& ~~~y)) - (x &&& y):=by rw [h1]
  rw [h2,BitVec.add_comm,BitVec.add_sub_cancel]
 rw [wu64_bv]
 have e:=h (BitVec.ofInt 64 a) (BitVec.ofInt 64 b)
 have e2:=congrArg BitVec.toNat e
 rw [← e]
 have ha':(BitVec.ofInt 64 a).toNat=a.toNat:=by
  rw [BitVec.toNat_ofInt]
  unfold U64 at ha
  have : a % ((2 ^ 64 : Nat) : Int) = a := Int.emod_eq_of_lt ha.1 (by have := ha.2; simpa using this)
  rw [this]
 have hle:(BitVec.ofInt 64 a &&& BitVec.ofInt 64 b).toNat<=(BitVec.ofInt 64 a).toNat:=by
  rw [BitVec.toNat_and]
  exact Nat.and_le_left
 rw [BitVec.toNat_sub_of_le (by rw [BitVec.le_def];exact hle)]
 have hu:=ha
 unfold U64 at hu
 congr 1
 omega
theorem Qqd (id:Int):∀ (l out:List Resize) (i:Nat),(Q82 id l out i).1=out++l.filter (fun x=>x.job != id)
 | [],out,i=>by simp [Q82]
 | x :: r,out,i=>by
  rw [Q82,List.filter_cons]
  cases h:(x.job != id) with
  | true=>rw [cond_true,Qqd id r];simp
  | false=>rw [cond_false,Qqd id r];simp
theorem Q2b (l:List Resize) (id:Int):Qs1 l id=l.filter (fun x=>x.job != id):=by
 unfold Qs1 QU2
 rw [Qqd]
 rfl
theorem with_true (r_:Resize):∀ (l out:List Resize) (i:Nat),(QA0 r_ l out true i).1=out++l∧(QA0 r_ l out true i).2.1=true
 | [],out,i=>by simp [QA0]
 | x :: r,out,i=>by
  rw [QA0]
  have:=with_true r_ r (out++[x]) (i+1)
  simpa using this
theorem with_false (r_:Resize):∀ (A B out:List Resize) (i:Nat),(∀ x ∈ A,x.job<=r_.job)->(∀ x ∈ B,x.job > r_.job) ->
  QJ2 r_ (QA0 r_ (A++B) out false i).1 (QA0 r_ (A++B) out false i).2.1 (QA0 r_ (A++B) out false i).2.2=out++A++[r_]++B
 | [],[],out,i,_,_=>by simp [QA0,QJ2]
 | [],x :: r,out,i,_,hB=>by
  have hx:=hB x (List.mem_cons_self ..)
  rw [List.nil_append,QA0,decide_eq_true hx]
  have:=with_true r_ r ((out++[r_])++[x]) (i+1)
  simp only [Bool.not_false,Bool.and_true,cond_true]
  unfold QJ2
  rw [this.1,this.2]
  simp
 | x :: A,B,out,i,hA,hB=>by
  have hx:=hA x (List.mem_cons_self ..)
  rw [List.cons_append,QA0,decide_eq_false (by omega)]
  have:=with_false r_ A B (out++[x]) (i+1) (fun y hy=>hA y (List.mem_cons_of_mem _ hy)) hB
  simp only [Bool.not_false,Bool.and_false,cond_false]
  rw [this]
  simp
theorem with_eq (r_:Resize) (A B:List Resize) (hA:∀ x ∈ A,x.job<=r_.job) (hB:∀ x ∈ B,x.job > r_.job):Qr6 (A++B) r_=A++[r_]++B:=by
 unfold Qr6
 rw [with_false r_ A B [] 0 hA hB]
 simp
theorem jobs_g1 (id set_:Int):∀ (m i:Nat) (c:List Job),c.length - i<m->i<=c.length->(Q52 id set_ m i c).2=c.take i++(c.drop i).map fun x=>if x.id=id then { x with nodes:=set_ } else x
 | 0,_,_,h,_=>absurd h (by omega)
 | m+1,i,c,hm,hi=>by
  rw [Q52]
  rcases Nat.lt_or_ge i c.length with h|h
  ·rw [decide_eq_true (show (i:Int)<(c.length:Int) by omega)]
   have hg:c.getD i Job.zero=c[i]:=by rw [List.getD,List.getElem?_eq_getElem h];rfl
   have hd:c.drop i=c[i] :: c.drop (i+1):=List.drop_eq_getElem_cons h
   rw [hg,hd,List.map_cons]
   cases he:(c[i].id==id) with
   | true =>
    have he:c[i].id=id:=by simpa using he
    simp only [cond_true]
    rw [jobs_g1 id set_ m (i+1) _ (by rw [List.length_set];omega) (by rw [List.length_set];omega),if_pos he,List.drop_set_of_lt (by omega)]
    rw [List.take_succ_eq_append_getElem (by rw [List.length_set];exact h),List.getElem_set_self,List.take_set_of_le (by omega)]
    simp
   | false =>
    have he:¬ c[i].id=id:=by simpa using he
    simp only [cond_true,cond_false]
    rw [jobs_g1 id set_ m (i+1) _ (by omega) (by omega),if_neg he,List.take_succ_eq_append_getElem h,List.append_assoc]
    rfl
  ·rw [decide_eq_false (show ¬ (i:Int)<(c.length:Int) by omega),cond_false]
   show c=_
   rw [List.drop_of_length_le h,List.take_of_length_le h]
   simp
theorem jobs_eq {l:List Job} (hp:l.Pairwise (fun a b=>a.id<b.id)) {p:Nat} {x:Job} (hx:l[p]? = some x) (set_:Int):Qb6 l x.id set_=l.set p { x with nodes:=set_ }:=by
 unfold Qb6 QV3
 rw [jobs_g1 x.id set_ _ 0 l (by omega) (by omega)]
 simp only [List.take_zero,List.nil_append,List.drop_zero]
 refine List.ext_getElem? fun k=>?_
 rw [List.getElem?_map,List.getElem?_set]
 by_cases h:p=k
 ·subst h
  rw [if_pos rfl,hx,if_pos (List.getElem?_eq_some_iff.1 hx).1]
  simp
 ·rw [if_neg h]
  cases hy:l[k]? with
  | none=>rfl
  | some y =>
   have:y.id ≠ x.id:=by
    rcases Nat.lt_or_gt_of_ne h with h|h
    ·have:=Qk4 hp p k x y h hx hy;omega
    ·have:=Qk4 hp k p y x h hy hx;omega
   simp [this]
theorem has09 {x:Int} (hx:U64 x) (n:Int):QC4 x n=Qu0 x n:=by
 rcases Int.lt_or_le n 0 with h|h
 ·unfold QC4 Qu0
  rw [decide_eq_true h,decide_eq_false (show ¬ n >= 0 by omega)]
  rfl
 ·obtain ⟨k,rfl⟩:∃ k:Nat,n=(k:Int):=⟨n.toNat,by omega⟩
  exact has_eq hx k
theorem has_andnot {x y:Int} (hx:U64 x) (hy:U64 y) (n:Int):Qu0 (wu64 (BitVec.ofInt 64 x &&& ~~~(BitVec.ofInt 64 y)).toNat) n=(Qu0 x n && !Qu0 y n):=by
 rcases Int.lt_or_le n 0 with h|h
 ·unfold Qu0
  rw [decide_eq_false (show ¬ n >= 0 by omega)]
  rfl
 ·obtain ⟨k,rfl⟩:∃ k:Nat,n=(k:Int):=⟨n.toNat,by omega⟩
  rw [QH2 (Qz8 _),QH2 hx,QH2 hy,QS5 hx hy]
  cases decide (k<64) <;> simp
theorem set_one {k:Nat} (hk:k<64):QN1 ([(k:Int)]:List Int)=(2:Int) ^ k:=by
 unfold QN1 Qd5
 rw [Ql4,has09 .zero,QH2 .zero,QV8,Bool.and_false]
 show (Ql4 [] (wu64 (0+QH5 (k:Int))) 1).1=_
 rw [bit09 k (by omega),Int.zero_add,QN7 (pow_U hk)]
 rfl
theorem add_bit {x:Int} (hx:U64 x) {k:Nat} (hk:k<64) (h:tb x k=false):wu64 (x+(2:Int) ^ k)=wu64 (BitVec.ofInt 64 x ||| BitVec.ofInt 64 ((2:Int) ^ k)).toNat:=by
 have hp:=pow_U hk
 have d:BitVec.ofInt 64 x &&& BitVec.ofInt 64 ((2:Int) ^ k)=0#64:=by
  refine BitVec.eq_of_getLsbD_eq fun i hi=>?_
  rw [BitVec.getLsbD_and,Qq7 hx,Qq7 hp,tb_pow]
  by_cases e:k=i
  ·subst e;rw [h];simp
  ·simp [e]
 rw [← BitVec.add_eq_or_of_and_eq_zero _ _ d]
 have hx':(BitVec.ofInt 64 x).toNat=x.toNat:=by
  rw [BitVec.toNat_ofInt]
  unfold U64 at hx
  have : x % ((2 ^ 64 : Nat) : Int) = x := Int.emod_eq_of_lt hx.1 (by have := hx.2; simpa using this)
  rw [this]
 have hp':(BitVec.ofInt 64 ((2:Int) ^ k)).toNat=((2:Int) ^ k).toNat:=by
  rw [BitVec.toNat_ofInt]
  unfold U64 at hp
  have : ((2 : Int) ^ k) % ((2 ^ 64 : Nat) : Int) = (2 : Int) ^ k := Int.emod_eq_of_lt hp.1 (by have := hp.2; simpa using this)
  rw [this]
 rw [BitVec.toNat_add,hx',hp']
 unfold U64 at hx hp
 have : ((x.toNat + ((2 : Int) ^ k).toNat) % 2 ^ 64 : Nat) = ((x + (2 : Int) ^ k) % 18446744073709551616).toNat := by
  have:(2:Nat) ^ 64=18446744073709551616:=by decide
  rw [this]
  omega
 rw [this,wu64_eq,wu64_eq]
 omega
section
variable {s t:State} {id:Int}
structure Off (s t:State) (id:Int):Prop where
 g:Good s
 now:t.now=s.now
 books:t.books=s.books
 ledger:t.ledger=s.ledger
 nextJob:t.nextJob=s.nextJob
 nextBook:t.nextBook=s.nextBook
 len:t.nodes.length=s.nodes.length
 fleet:Qa0 t.nodes=0
 off:∀ k,k<s.nodes.length->t.nodes.getD k Node.zero=s.nodes.getD k Node.zero∨(((s.nodes.getD k Node.zero).job=id∨(s.nodes.getD k Node.zero).job=0)∧(t.nodes.getD k Node.zero).job=id)
 table:QW1 t.jobs=0
 ids:t.jobs.map (·.id)=s.jobs.map (·.id)
 jobs:∀ j,j.id ≠ id->(j ∈ t.jobs ↔ j ∈ s.jobs)
 job:∃ j ∈ t.jobs,j.state=2∧j.id=id
 sorted:t.resizes.Pairwise (fun a b=>a.job<b.job)
 resizes:∀ r,r.job ≠ id->(r ∈ t.resizes ↔ r ∈ s.resizes)
section
variable (o:Off s t id)
include o
end
end
section
variable {s:State} {r:Resize} {j:Job} (a:RzAt s r j)
include a
end
structure Asked (s:State) (j:Job):Prop where
 g:Good s
 u:WU s
 hj:j ∈ s.jobs
 st:j.state=2
 kind:j.shape.kind=3
 quiet:∀ k,tb j.nodes k=true->(s.nodes.getD k Node.zero).want=0
 no:∀ r ∈ s.resizes,r.job ≠ j.id
section
variable {s t:State} {j:Job} (b:Asked s j)
include b
end
theorem few_room {s:State} (h:Q75 s=true):s.resizes.length<4294967296:=by
 simp only [Q75,Bool.and_eq_true,decide_eq_true_eq] at h
 have:=h.2
 omega
section
variable {s:State}
theorem check_141 (hc:((Qv0 s)!=0)=true):Qv0 s=141:=by
 cases hp:(Qr2 s != 0) with
 | true =>
  unfold Qv0
  rw [hp]
  rfl
 | false =>
  have e:Qv0 s=QH1 s (QF1 s.jobs 0 0) (QG1 s.books 0 0) (Qy0 s.jobs 0 []) s.resizes 0 []:=by
   unfold Qv0 QX3 QY3 Qe3
   rw [hp]
   rfl
  obtain ⟨_,p2⟩:=g4_iff s (QF1 s.jobs 0 0) (QG1 s.books 0 0) (Qy0 s.jobs 0 []) s.resizes 0 [] (by simp) (by omega)
  rw [← e] at p2
  rcases p2 with h|h
  ·rw [h] at hc;cases hc
  ·exact h
theorem Qyc (hz:s.sz) (hu:WU s):Qa2 s=Qv0 s:=(state_eq (hu.words hz)).symm
theorem QCb {r:Resize} {j:Job} (hz:s.sz) (a:RzAt s r j):Q20 s r.job=(r,true):=by
 unfold Q20
 have e:Q05 s r.job=r:=QBc _ 0 r a.hr a.g.sorted
 have h:Qv0 s=0:=(good_iff (a.u.words hz)).2 a.g
 rw [e,Qyc hz a.u,h]
 have:(r.nodes==0)=false:=by simpa using a.res.1.2.1
 rw [this]
 rfl
theorem Q47 {id:Int} (h:∀ r ∈ s.resizes,r.job ≠ id):Q20 s id=(Resize.zero,false):=by
 unfold Q20
 have e:Q05 s id=Resize.zero:=rof_none _ 0 id h
 rw [e]
 rfl
theorem QSa (hz:s.sz) (hu:WU s) (hc:((Qv0 s)!=0)=false) {id:Int} (h:Qn1 id=false∨(Q00 s.resizes id bsrF).2=false):∀ r ∈ s.resizes,r.job ≠ id:=by
 have g:=rz_good hz hu hc
 intro r hr e
 have hb:=good_resz g r hr
 have hk:Qn1 id=true:=by unfold Qn1;simp;omega
 rcases h with h|h
 ·rw [hk] at h;cases h
 ·obtain ⟨p,h1,h2,h3,h4,h5⟩:=rz_place hz hu hc hk
  obtain ⟨k,hkl,hke⟩:=Qye Resize.zero hr
  have hkp:k=p:=by
   rcases Nat.lt_trichotomy k p with hq|hq|hq
   ·have:=h3 k hq;rw [hke] at this;omega
   ·exact hq
   ·have h6:=h4 p (Nat.le_refl _) (by omega)
    have h7:=List.pairwise_iff_getElem.1 g.sorted p k (by omega) hkl hq
    rw [List.getD,List.getElem?_eq_getElem hkl] at hke
    rw [List.getD,List.getElem?_eq_getElem (show p<s.resizes.length by omega)] at h6
    simp only [Option.getD_some] at hke h6
    rw [hke] at h7
    omega
  subst hkp
  rw [h5.2 ⟨hkl,by rw [hke];exact e⟩] at h
  cases h
theorem rz_at' (hz:s.sz) (hu:WU s) (hc:((Qv0 s)!=0)=false) {id:Int} (hk:Qn1 id=true) (hb:(Q00 s.resizes id bsrF).2=true) :
  ∃ (p:Nat) (j:Job),Q00 s.resizes id bsrF=((p:Int),true)∧p<s.resizes.length∧RzAt s (s.resizes.getD p Resize.zero) j∧(s.resizes.getD p Resize.zero).job=id:=by
 obtain ⟨j,a,hid,hi,hp⟩:=rz_at hz hu hc hk hb
 exact ⟨rzI s id,j,Prod.ext hp hb,hi,a,hid⟩
theorem ref_found (hz:s.sz) (hu:WU s) {id:Int} (hc:(Qa2 s != 0)=false) (h:(Q20 s id).2=true):∃ j,RzAt s (Q20 s id).1 j:=by
 rw [Qyc hz hu] at hc
 cases hk:Qn1 id with
 | false=>rw [Q47 (QSa hz hu hc (.inl hk))] at h;cases h
 | true =>
  cases hb:(Q00 s.resizes id bsrF).2 with
  | false=>rw [Q47 (QSa hz hu hc (.inr hb))] at h;cases h
  | true =>
   obtain ⟨p,j,hbs,hi,a,hid⟩:=rz_at' hz hu hc hk hb
   have hres:=QCb hz a
   rw [hid] at hres
   rw [hres]
   exact ⟨j,a⟩
theorem ref_in (hz:s.sz) (hu:WU s) {n:Note} (hc:(Qa2 s != 0)=false) {B D:Bool} (h:((((!(Q20 s n.job).2)||B)||(!(QC4 (Q20 s n.job).1.nodes n.node)))||D)=false):0<=n.node∧n.node<(s.nodes.length:Int)∧n.node<64:=by
 have h1:=or_f (or_f (or_f h).1).1
 have hF:(Q20 s n.job).2=true:=by simpa using h1.1
 have hH:QC4 (Q20 s n.job).1.nodes n.node=true:=by simpa using (or_f (or_f h).1).2
 obtain ⟨j,a⟩:=ref_found hz hu hc hF
 rw [has09 a.un] at hH
 obtain ⟨k,e,h2,h3⟩:=(has_iff a.un n.node).1 hH
 have:=(a.node h2 h3).1
 rw [e]
 refine ⟨by omega,by omega,by omega⟩
theorem QQ9 (l:List Resize) (id:Int):(Qs1 l id).length<=l.length:=by
 rw [Q2b]
 exact List.length_filter_le _ _
theorem QXe (S act job now:Int):∀ (r:List Int) (l:List Node) (i:Nat),((Q72 S act job now r l i).1).length<=l.length
 | [],l,i=>by
  unfold Q72
  rw [Bool.cond_eq_ite]
  split <;> exact Nat.le_refl _
 | x :: r,l,i=>by
  unfold Q72
  rw [Bool.cond_eq_ite]
  split
  ·exact Nat.zero_le _
  ·have:=QNd l x act job now
   have:=QXe S act job now r ((Q14 l x act job now).1) (i+1)
   omega
theorem Q38 (l:List Node) (S act job now:Int):((QS0 l S act job now).1).length<=l.length:=by
 unfold QS0
 rw [Bool.cond_eq_ite]
 split
 ·exact Nat.zero_le _
 ·exact QXe ..
theorem not_t {b:Bool} (h:(!b)=true):b=false:=by simpa using h
theorem around {l:List Resize} (hs:l.Pairwise (fun a b=>a.job<b.job)) {p:Nat} (hp:p<l.length):l=l.take p++[l.getD p Resize.zero]++l.drop (p+1)∧(∀ x ∈ l.take p,x.job<(l.getD p Resize.zero).job)∧(∀ x ∈ l.drop (p+1),(l.getD p Resize.zero).job<x.job):=by
 have hg:l.getD p Resize.zero=l[p]:=by rw [List.getD,List.getElem?_eq_getElem hp];rfl
 have e:l=l.take p++l[p] :: l.drop (p+1):=by rw [← List.drop_eq_getElem_cons hp,List.take_append_drop]
 rw [hg]
 refine ⟨by rw [List.append_assoc];exact e,?_,?_⟩
 ·rw [e] at hs
  intro x hx
  exact (List.pairwise_append.1 hs).2.2 x hx _ (List.mem_cons_self ..)
 ·rw [e] at hs
  intro x hx
  exact (List.pairwise_cons.1 (List.pairwise_append.1 hs).2.1).1 x hx
theorem del_filter {l:List Resize} (hs:l.Pairwise (fun a b=>a.job<b.job)) {p:Nat} (hp:p<l.length) (hl:l.length<=4294967296):Qc2 l (p:Int) (w64 ((p:Int)+1))=l.filter (fun x=>x.job != (l.getD p Resize.zero).job)∧Qc2 l (p:Int) (w64 ((p:Int)+1))=l.take p++l.drop (p+1):=by
 obtain ⟨e,h1,h2⟩:=around hs hp
 have hw:w64 ((p:Int)+1)=(p:Int)+1:=wr (by omega)
 have e2:Qc2 l (p:Int) (w64 ((p:Int)+1))=l.take p++l.drop (p+1):=by
  unfold Qc2
  rw [hw,Int.toNat_natCast]
  have:Int.toNat ((p:Int)+1)=p+1:=by omega
  rw [this]
 refine ⟨?_,e2⟩
 rw [e2]
 generalize hgx:l.getD p Resize.zero=x at *
 generalize l.take p=A at *
 generalize l.drop (p+1)=B at *
 rw [e,List.filter_append,List.filter_append,List.filter_eq_self.2 (fun y hy=>by have:=h1 y hy;simp;omega),(List.filter_eq_self (l:=B)).2 (fun y hy=>by have:=h2 y hy;simp;omega)]
 simp
theorem del_set {l:List Resize} {p:Nat} (hp:p<l.length) (hl:l.length<=4294967296) (x:Resize):Qc2 (l.set p x) (p:Int) (w64 ((p:Int)+1))=Qc2 l (p:Int) (w64 ((p:Int)+1)):=by
 have hw:w64 ((p:Int)+1)=(p:Int)+1:=wr (by omega)
 unfold Qc2
 rw [hw,Int.toNat_natCast]
 have:Int.toNat ((p:Int)+1)=p+1:=by omega
 rw [this,List.take_set_of_le (Nat.le_refl _),List.drop_set_of_lt (by omega)]
end
theorem small_sz:law26_small.sz:=⟨by decide,by decide,fun y hy=>by rw [List.mem_singleton.1 hy];exact ⟨by decide,by decide,by decide,(by decide:(0:Nat)<=4294967296),by decide⟩,by decide,by decide,by decide,fun _ h=>absurd h List.not_mem_nil⟩
theorem QVc:(Qw0 law26_small 5 3).1.jobs=law26_small.jobs:=by kernel_rfl
theorem begun_nodes:((Qw0 law26_small 5 3).1.nodes).length=4:=by kernel_rfl
theorem QQb:(Qw0 law26_small 5 3).1.resizes.map (fun r=>(r.job,r.nodes,r.said))=[(5,4,0)]:=by kernel_rfl
theorem begun_books:(Qw0 law26_small 5 3).1.books=[]:=by kernel_rfl
theorem Qsd:(Qw0 law26_small 5 3).1.ledger=[]:=by kernel_rfl
theorem begun_sz:(Qw0 law26_small 5 3).1.sz:=by
 refine ⟨by rw [begun_nodes];decide,by rw [QVc];exact small_sz.2.1,by rw [QVc];exact small_sz.2.2.1,?_,by rw [begun_books];decide,by rw [Qsd];decide,by rw [Qsd];exact fun _ h=>absurd h List.not_mem_nil⟩
 have e:=congrArg List.length QQb
 rw [List.length_map] at e
 rw [e]
 decide
theorem begun_wu:WU (Qw0 law26_small 5 3).1:=by
 refine ⟨?_,?_⟩
 ·rw [QVc]
  intro y hy
  rw [List.mem_singleton.1 hy]
  exact ⟨by decide,by decide⟩
 ·intro r hr
  have h:=List.mem_map_of_mem (f:=fun r:Resize=>(r.job,r.nodes,r.said)) hr
  rw [QQb] at h
  have h:=List.mem_singleton.1 h
  injection h with h1 h2
  injection h2 with h2 h3
  rw [h2,h3]
  exact ⟨⟨by decide,by decide⟩,⟨by decide,by decide⟩⟩
set_option maxRecDepth 20000
set_option maxHeartbeats 4000000
attribute [local irreducible] ACalls AMoves
theorem agC {P:Program} {f:FuncId} {args:List AVal} {objs:Objs} {r:AVal} (h:ACalls P f args objs fun r' o'=>r'=r∧o'=objs):AGives P f args objs r:=h
def QZ1 (s:State) (n:Note):State × (List Note) × Int:=bif ((Qn1 n.job)&&(Q00 s.resizes n.job bsrF).2) then bif ((Qv0 s)!=0) then (State.zero,[],(Qv0 s)) else (fun bs:Int × Bool=>bif ((((!true)||(!((n.kind==8)||(n.kind==9))))||(!(Qu0 (wu64 (BitVec.ofInt 64 (s.resizes.getD (Int.toNat bs.1) Resize.zero).nodes &&& ~~~(BitVec.ofInt 64 (s.resizes.getD (Int.toNat bs.1) Resize.zero).said)).toNat) n.node)))||((s.nodes.getD (Int.toNat n.node) Node.zero).epoch != n.epoch)) then (State.zero,[],230) else bif (n.kind==9) then bif (s.resizes.getD (Int.toNat bs.1) Resize.zero).grow then (fun ea:(List Node) × (List Note) × Int=>({ s with nodes:=ea.1,resizes:=(Qc2 s.resizes bs.1 (w64 (bs.1+1))) },ea.2.1,0)) (Qp0 s.nodes ((s.resizes.getD (Int.toNat bs.1) Resize.zero).nodes) 7 0 s.now) else (fun ea1:(List Node) × (List Note) × Int=>({ s with nodes:=ea1.1,resizes:=(Qc2 s.resizes bs.1 (w64 (bs.1+1))) },ea1.2.1,0)) (Qp0 s.nodes (wu64 (BitVec.ofInt 64 (s.resizes.getD (Int.toNat bs.1) Resize.zero).nodes &&& ~~~(BitVec.ofInt 64 (s.resizes.getD (Int.toNat bs.1) Resize.zero).said)).toNat) 6 0 s.now) else (fun ea2:(List Node) × (List Note) × Int=>(fun tw:List Resize=>bif ((tw.getD (Int.toNat bs.1) Resize.zero).said==(tw.getD (Int.toNat bs.1) Resize.zero).nodes) then bif (tw.getD (Int.toNat bs.1) Resize.zero).grow then (fun ea3:(List Node) × (List Note) × Int=>(fun tf:Job × Bool=>(fun jz:Job × Int=>(fun tp:(List Job) × Int=>({ s with nodes:=ea3.1,jobs:=tp.1,resizes:=(Qc2 tw bs.1 (w64 (bs.1+1))) },(ea2.2.1++ea3.2.1),0)) (Qo5 s.jobs jz.1)) (QG2 tf.1 (wu64 (BitVec.ofInt 64 tf.1.nodes ||| BitVec.ofInt 64 (tw.getD (Int.toNat bs.1) Resize.zero).nodes).toNat))) (QV0 s.jobs ((tw.getD (Int.toNat bs.1) Resize.zero).job))) (Qp0 ea2.1 ((tw.getD (Int.toNat bs.1) Resize.zero).nodes) 3 0 s.now) else (fun ea4:(List Node) × (List Note) × Int=>(fun tf1:Job × Bool=>(fun jz1:Job × Int=>(fun tp1:(List Job) × Int=>({ s with nodes:=ea4.1,jobs:=tp1.1,resizes:=(Qc2 tw bs.1 (w64 (bs.1+1))) },(ea2.2.1++ea4.2.1),0)) (Qo5 s.jobs jz1.1)) (QG2 tf1.1 (wu64 (BitVec.ofInt 64 tf1.1.nodes &&& ~~~(BitVec.ofInt 64 (tw.getD (Int.toNat bs.1) Resize.zero).nodes)).toNat))) (QV0 s.jobs ((tw.getD (Int.toNat bs.1) Resize.zero).job))) (Qp0 ea2.1 ((tw.getD (Int.toNat bs.1) Resize.zero).nodes) 7 0 s.now) else ({ s with nodes:=ea2.1,resizes:=tw },ea2.2.1,0)) (s.resizes.set (Int.toNat bs.1) { (s.resizes.getD (Int.toNat bs.1) Resize.zero) with said:=(wu64 (BitVec.ofInt 64 (s.resizes.getD (Int.toNat bs.1) Resize.zero).said ||| BitVec.ofInt 64 (QH0 ([n.node]:List Int)).1).toNat) })) (Qp0 s.nodes ((QH0 ([n.node]:List Int)).1) 4 0 s.now)) (Q00 s.resizes n.job bsrF) else bif ((Qv0 s)!=0) then (State.zero,[],(Qv0 s)) else bif (Qn1 n.job) then (fun bs:Int × Bool=>(State.zero,[],230)) (Q00 s.resizes n.job bsrF) else (State.zero,[],230)
theorem Qr1 {P:Prop} (h:P:=by first|((subst_vars;with_reducible exact rz_len hk0 hp0 (by assumption) (by assumption) (by assumption) (by assumption)))|first|((subst_vars;with_reducible exact find_sz (by assumption) _))|first|((subst_vars;with_reducible exact size_sz (find_sz (by assumption) _) _))|exact szA):P:=h
theorem QUd (s:State) (n:Note) (hs0:s.sz) (hp0:WU s):GV 14 [State.a s,Note.a n] (AVal.tup [State.a ((QZ1 s n).1),noteL ((QZ1 s n).2.1),I ((QZ1 s n).2.2)]):=by
 generalize hR:QZ1 s n=R;refine gA (kp 13 [19,27,88,98,148]) Tryz.func14 ?_;have hk0:=hs0;obtain ⟨z46,z47,z48,z49,z50,z51,z52⟩:=hs0
 cases h1:((Qn1 n.job)&&(Q00 s.resizes n.job bsrF).2)
 ·skip;refine ACalls.of_cwp (fun _=>true) Tryz.func30 rfl rfl ?_;refine us (Q08 s Qr1 _) ?_;refine ai (fun h2=>?_) (fun h3=>?_)
  ·refine ⟨_,_,Told.refl,?_⟩;refine ai (fun h4=>?_) (fun h5=>?_)
   ·refine ACalls.of_cwp (fun _=>true) Tryz.func31 rfl rfl ?_;refine ai (fun h6=>?_) (fun h7=>?_)
    ·refine dchk (by kernel_rfl) ?_;(repeat ((first|refine ai rfl ?_|refine ai (fun _=>rfl) ?_)));refine ⟨_,_,Told.refl,?_⟩;exact lfA
    ·exfalso;exact Bool.noConfusion (h2.symm.trans h7)
   ·exfalso;exact Bool.noConfusion (h2.symm.trans h5)
  ·refine us (state_Copy_c s Qr1 _) ?_;refine ⟨_,_,Told.refl,?_⟩;refine ai (fun h=>nomatch h) (fun _=>?_);refine us (QS8 n.job _) ?_;refine ai (fun h8=>?_) (fun h9=>?_)
   ·refine ACalls.of_cwp (fun _=>true) Tryz.func39 rfl rfl ?_;refine us (bsr_c s.resizes n.job Qr1 _) ?_;generalize hvbs:Q00 s.resizes n.job bsrF=bs;have qbs:bs.2=true->0<=bs.1∧bs.1<(s.resizes.length:Int)∧w64 (bs.1+1)=bs.1+1:=(by rw [← hvbs];exact fun h=>bsr_at (by rw [h];rfl) (by assumption));have qbbs:bs.2=false:=(by rw [← hvbs];have q:=h1;rw [show Qn1 n.job=true by assumption] at q;exact q);rw [qbbs];refine ⟨_,_,Told.refl,?_⟩;refine dchk (by kernel_rfl) ?_;(conv=>whnf);refine ai (fun hg=>nomatch (show false=true from hg)) ?_;(conv=>whnf);refine ai (fun hg=>nomatch (show false=true from hg)) ?_;(first|refine ⟨Bo false,_,fun h=>absurd h (by decide),fun _=>rfl,?_⟩|refine ⟨Bo false,fun h=>absurd h (by decide),?_⟩|refine ⟨Bo false,_,fun h=>absurd h (by simp),fun _=>rfl,?_⟩|refine ⟨Bo false,fun h=>absurd h (by simp),?_⟩);(conv=>whnf);refine ai (fun hg=>nomatch (show false=true from hg)) ?_;(repeat ((first|refine ai rfl ?_|refine ai (fun _=>rfl) ?_)));refine ai (fun _=>?_) (fun h=>nomatch h);refine ACalls.of_cwp (fun _=>true) Tryz.func33 rfl rfl ?_;refine ai (fun _=>?_) (fun h=>nomatch h);refine ⟨_,_,Told.refl,?_⟩;refine ACalls.of_cwp (fun _=>true) Tryz.func31 rfl rfl ?_;refine ai (fun _=>?_) (fun h=>nomatch h);refine dchk (by kernel_rfl) ?_;(repeat ((first|refine ai rfl ?_|refine ai (fun _=>rfl) ?_)));refine ⟨_,_,Told.refl,?_⟩;obtain rfl:=foll hR (cf h1 (cf h3 (ct h8 (by subst hvbs;exact rfl))));first|exact Q80 (Low.tup' (.cons (State.low _ _) (.cons lw (l1 .nil)))) (Seen.tup (ev (Seen.agg (e1 (ev (Q30) (ev (Q30) (ev (Q30) (ev (Q30) (ev (Q30) (e1 (e1 .nil))))))))) (ev (Q30) (e1 .nil))))|(subst hvbs;exact Q80 (Low.tup' (.cons (State.low _ _) (.cons lw (l1 .nil)))) (Seen.tup (ev (Seen.agg (e1 (ev (Q30) (ev (Q30) (ev (Q30) (ev (Q30) (ev (Q30) (e1 (e1 .nil))))))))) (ev (Q30) (e1 .nil)))))
   ·refine dchk (by kernel_rfl) ?_;(conv=>whnf);refine ai (fun hg=>nomatch (show false=true from hg)) ?_;(conv=>whnf);refine ai (fun hg=>nomatch (show false=true from hg)) ?_;(first|refine ⟨Bo false,_,fun h=>absurd h (by decide),fun _=>rfl,?_⟩|refine ⟨Bo false,fun h=>absurd h (by decide),?_⟩|refine ⟨Bo false,_,fun h=>absurd h (by simp),fun _=>rfl,?_⟩|refine ⟨Bo false,fun h=>absurd h (by simp),?_⟩);(conv=>whnf);refine ai (fun hg=>nomatch (show false=true from hg)) ?_;(repeat ((first|refine ai rfl ?_|refine ai (fun _=>rfl) ?_)));refine ai (fun _=>?_) (fun h=>nomatch h);refine ACalls.of_cwp (fun _=>true) Tryz.func33 rfl rfl ?_;refine ai (fun _=>?_) (fun h=>nomatch h);refine ⟨_,_,Told.refl,?_⟩;refine ACalls.of_cwp (fun _=>true) Tryz.func31 rfl rfl ?_;refine ai (fun _=>?_) (fun h=>nomatch h);refine dchk (by kernel_rfl) ?_;(repeat ((first|refine ai rfl ?_|refine ai (fun _=>rfl) ?_)));refine ⟨_,_,Told.refl,?_⟩;exact lfA
 ·skip;refine ACalls.of_cwp (fun _=>true) Tryz.func30 rfl rfl ?_;refine us (Q08 s Qr1 _) ?_;refine ai (fun h10=>?_) (fun h11=>?_)
  ·refine ⟨_,_,Told.refl,?_⟩;refine ai (fun h12=>?_) (fun h13=>?_)
   ·refine ACalls.of_cwp (fun _=>true) Tryz.func31 rfl rfl ?_;refine ai (fun h14=>?_) (fun h15=>?_)
    ·refine dchk (by kernel_rfl) ?_;(repeat ((first|refine ai rfl ?_|refine ai (fun _=>rfl) ?_)));refine ⟨_,_,Told.refl,?_⟩;exact lfA
    ·exfalso;exact Bool.noConfusion (h10.symm.trans h15)
   ·exfalso;exact Bool.noConfusion (h10.symm.trans h13)
  ·refine us (mv [] (QDa s Qr1) .nil (dv (QK6 (Low.agg' (State.lo))) .nil) (rO rr .nil) (ren_agg (r1 (rv (Ren.low _ lw) (rv (Ren.low _ lw) (.cons _ _ _ _ (rw_ 4 0 rfl) (rv (Ren.low _ lw) (rv (Ren.low _ lw) (r1 (r1 .nil)))))))))) ?_;refine ⟨_,_,Told.refl,?_⟩;refine ai (fun h=>nomatch h) (fun _=>?_);refine us (QS8 n.job _) ?_;refine ai (fun h16=>?_) (fun h17=>?_)
   ·refine ACalls.of_cwp (fun _=>true) Tryz.func39 rfl rfl ?_;refine us (AGives.lent (bsr_c s.resizes n.job Qr1 []) (ev (Q90 _ _ rfl eqA lnA) (e1 (e1 .nil))) (.cons lw (l1 (.cons (Low.fn _ _ _ LowL.nil LowL.nil) .nil))) (Qm3 rfl)) ?_;generalize hvbs:Q00 s.resizes n.job bsrF=bs;have qbs:bs.2=true->0<=bs.1∧bs.1<(s.resizes.length:Int)∧w64 (bs.1+1)=bs.1+1:=(by rw [← hvbs];exact fun h=>bsr_at (by rw [h];rfl) (by assumption));have qbbs:bs.2=true:=(by rw [← hvbs];exact ((Bool.and_eq_true _ _).mp h1).2);rw [qbbs];refine ⟨_,_,Told.refl,?_⟩;refine dchk (by kernel_rfl) ?_;refine And.intro (by first|exact fun hg=>decide_eq_true (by first|((have hq:=qbs (by assumption);omega))|first|((subst_vars;exact rz_in hk0 hp0 (by assumption) (by assumption) (by assumption) hg))|exact ckA)|exact gkA) ?_;refine ⟨_,QQ0 rfl rfl rfl (Q21 Resize.zero (Int.toNat bs.1) (by first|rfl|exact Nat.zero_add _|omega) (by first|((have hq:=qbs (by assumption);omega))|first|((subst_vars;exact rz_in hk0 hp0 (by assumption) (by assumption) (by assumption) hg))|exact ckA)) rfl,?_⟩;refine And.intro (by first|exact fun hg=>decide_eq_true (by first|((have hq:=qbs (by assumption);omega))|first|((subst_vars;exact rz_in hk0 hp0 (by assumption) (by assumption) (by assumption) hg))|exact ckA)|exact gkA) ?_;refine ⟨_,QQ0 rfl rfl rfl (Q21 Resize.zero (Int.toNat bs.1) (by first|rfl|exact Nat.zero_add _|omega) (by first|((have hq:=qbs (by assumption);omega))|first|((subst_vars;exact rz_in hk0 hp0 (by assumption) (by assumption) (by assumption) hg))|exact ckA)) rfl,?_⟩;(first|apply u2|apply u3|apply u4|apply us);exact QV7 (wu64 (BitVec.ofInt 64 (s.resizes.getD (Int.toNat bs.1) Resize.zero).nodes &&& ~~~(BitVec.ofInt 64 (s.resizes.getD (Int.toNat bs.1) Resize.zero).said)).toNat) n.node _;refine And.intro (by first|exact fun hg=>decide_eq_true (by first|((have hq:=qbs (by assumption);omega))|first|((subst_vars;exact rz_in hk0 hp0 (by assumption) (by assumption) (by assumption) hg))|exact ckA)|exact gkA) ?_;(repeat ((first|refine ai rfl ?_|refine ai (fun _=>rfl) ?_|refine And.intro (QQ0 rfl rfl rfl (Q21 Resize.zero (Int.toNat bs.1) (by first|rfl|exact Nat.zero_add _|omega) (by first|((have hq:=qbs (by assumption);omega))|first|((subst_vars;exact rz_in hk0 hp0 (by assumption) (by assumption) (by assumption) hg))|exact ckA)) rfl) ?_|refine And.intro (QQ0 rfl rfl rfl (Q21 Resize.zero (Int.toNat bs.1) (by first|rfl|exact Nat.zero_add _|omega) (by first|((have hq:=qbs (by assumption);omega))|first|((subst_vars;exact rz_in hk0 hp0 (by assumption) (by assumption) (by assumption) hg))|exact ckA)) rfl) ?_|refine ai (fun _=>QV7 (wu64 (BitVec.ofInt 64 (s.resizes.getD (Int.toNat bs.1) Resize.zero).nodes &&& ~~~(BitVec.ofInt 64 (s.resizes.getD (Int.toNat bs.1) Resize.zero).said)).toNat) n.node _) ?_)));refine ai (fun h18=>?_) (fun h19=>?_)
    ·refine ACalls.of_cwp (fun _=>true) Tryz.func33 rfl rfl ?_;refine ai (fun _=>?_) (fun h=>nomatch h);refine ⟨_,_,Told.refl,?_⟩;refine ACalls.of_cwp (fun _=>true) Tryz.func31 rfl rfl ?_;refine ai (fun _=>?_) (fun h=>nomatch h);refine dchk (by kernel_rfl) ?_;(repeat ((first|refine ai rfl ?_|refine ai (fun _=>rfl) ?_)));refine ⟨_,_,Told.refl,?_⟩;obtain rfl:=foll hR (ct h1 (cf h11 (by subst hvbs;exact ct h18 rfl)));first|exact Q80 (Low.tup' (.cons (State.low _ _) (.cons lw (l1 .nil)))) (Seen.tup (ev (Seen.agg (e1 (ev (Q30) (ev (Q30) (ev (Q30) (ev (Q30) (ev (Q30) (e1 (e1 .nil))))))))) (ev (Q30) (e1 .nil))))|(subst hvbs;exact Q80 (Low.tup' (.cons (State.low _ _) (.cons lw (l1 .nil)))) (Seen.tup (ev (Seen.agg (e1 (ev (Q30) (ev (Q30) (ev (Q30) (ev (Q30) (ev (Q30) (e1 (e1 .nil))))))))) (ev (Q30) (e1 .nil)))))
    ·refine ai (fun h20=>?_) (fun h21=>?_)
     ·refine ACalls.of_cwp (fun _=>true) Tryz.func59 rfl rfl ?_;refine ACalls.of_cwp (fun _=>true) Tryz.func116 rfl rfl ?_;refine And.intro (by first|exact fun hg=>decide_eq_true (by first|((have hq:=qbs (by assumption);omega))|first|((subst_vars;exact rz_in hk0 hp0 (by assumption) (by assumption) (by assumption) hg))|exact ckA)|exact gkA) ?_;refine ⟨_,QQ0 rfl rfl rfl (Q21 Resize.zero (Int.toNat bs.1) (by first|rfl|exact Nat.zero_add _|omega) (by first|((have hq:=qbs (by assumption);omega))|first|((subst_vars;exact rz_in hk0 hp0 (by assumption) (by assumption) (by assumption) hg))|exact ckA)) rfl,?_⟩;refine us (mv [4] (Qpb s.resizes bs.1 (w64 (bs.1+1)) Qr1 (by (have hq:=qbs (by assumption);rw [hq.2.2];omega))) (dO (dr eqA) .nil) (dv (Q56 rfl lnA) (d1 (d1 .nil))) (rO rr .nil) (rw_ 8 0 rfl)) ?_;refine ⟨_,_,Told.refl,?_⟩;refine ai (fun h22=>?_) (fun h23=>?_)
      ·refine ACalls.of_cwp (fun _=>true) Tryz.func38 rfl rfl ?_;refine ai (fun h=>nomatch h) (fun _=>?_);refine dchk (by kernel_rfl) ?_;(first|apply u2|apply u3|apply u4|apply us);exact Qt1 s.nodes ((s.resizes.getD (Int.toNat bs.1) Resize.zero).nodes) 7 0 s.now Qr1 _;generalize hvea:Qp0 s.nodes ((s.resizes.getD (Int.toNat bs.1) Resize.zero).nodes) 7 0 s.now=ea;(have qea:ea.2.1.length<=64:=by rw [← hvea];exact Q63 _ _ _ _ _);(repeat ((first|refine ai rfl ?_|refine ai (fun _=>rfl) ?_|refine ai (fun _=>by subst hvea;exact Qt1 s.nodes ((s.resizes.getD (Int.toNat bs.1) Resize.zero).nodes) 7 0 s.now Qr1 _) ?_)));refine ai (fun h24=>?_) (fun h25=>?_)
       ·exfalso;subst_vars;with_reducible first|(apply QBa (n:=n) hk0 hp0 <;> assumption)|(apply QKf (n:=n) hk0 hp0 <;> assumption)|(apply QJf (n:=n) hk0 hp0 <;> assumption)|(apply QLf (n:=n) hk0 hp0 <;> assumption)|(apply Qg9 (n:=n) hk0 hp0 <;> assumption)
       ·(first|refine ⟨Qo1 32 rfl lnA apA,?_⟩|refine ⟨QI0 32 rfl apA,?_⟩);refine ⟨_,_,Told.refl,?_⟩;refine ⟨_,_,Told.refl,?_⟩;refine ACalls.of_cwp (fun _=>true) Tryz.func31 rfl rfl ?_;refine ai (fun h=>nomatch h) (fun _=>?_);refine dchk (by kernel_rfl) ?_;(repeat ((first|refine ai rfl ?_|refine ai (fun _=>rfl) ?_)));refine ⟨_,_,Told.refl,?_⟩;obtain rfl:=foll hR (ct h1 (cf h11 (by subst hvbs;exact cf h19 (ct h20 (ct h22 (by subst hvea;exact rfl))))));first|exact Q80 (Low.tup' (.cons (State.low _ _) (.cons lw (l1 .nil)))) (Seen.tup (ev (Seen.agg (e1 (e1 (e1 (ev (Q90 Resize.zero _ rfl eqA lnA) (e1 (e1 (e1 (e1 .nil))))))))) (ev (Q90 Note.zero _ rfl eqA lnA) (e1 .nil))))|(subst hvbs hvea;exact Q80 (Low.tup' (.cons (State.low _ _) (.cons lw (l1 .nil)))) (Seen.tup (ev (Seen.agg (e1 (e1 (e1 (ev (Q90 Resize.zero _ rfl eqA lnA) (e1 (e1 (e1 (e1 .nil))))))))) (ev (Q90 Note.zero _ rfl eqA lnA) (e1 .nil)))))
      ·refine ACalls.of_cwp (fun _=>true) Tryz.func38 rfl rfl ?_;refine ai (fun h=>nomatch h) (fun _=>?_);refine dchk (by kernel_rfl) ?_;(first|apply u2|apply u3|apply u4|apply us);exact Qt1 s.nodes (wu64 (BitVec.ofInt 64 (s.resizes.getD (Int.toNat bs.1) Resize.zero).nodes &&& ~~~(BitVec.ofInt 64 (s.resizes.getD (Int.toNat bs.1) Resize.zero).said)).toNat) 6 0 s.now Qr1 _;generalize hvea1:Qp0 s.nodes (wu64 (BitVec.ofInt 64 (s.resizes.getD (Int.toNat bs.1) Resize.zero).nodes &&& ~~~(BitVec.ofInt 64 (s.resizes.getD (Int.toNat bs.1) Resize.zero).said)).toNat) 6 0 s.now=ea1;(have qea:ea1.2.1.length<=64:=by rw [← hvea1];exact Q63 _ _ _ _ _);(repeat ((first|refine ai rfl ?_|refine ai (fun _=>rfl) ?_|refine ai (fun _=>by subst hvea1;exact Qt1 s.nodes (wu64 (BitVec.ofInt 64 (s.resizes.getD (Int.toNat bs.1) Resize.zero).nodes &&& ~~~(BitVec.ofInt 64 (s.resizes.getD (Int.toNat bs.1) Resize.zero).said)).toNat) 6 0 s.now Qr1 _) ?_)));refine ai (fun h26=>?_) (fun h27=>?_)
       ·exfalso;subst_vars;with_reducible first|(apply QBa (n:=n) hk0 hp0 <;> assumption)|(apply QKf (n:=n) hk0 hp0 <;> assumption)|(apply QJf (n:=n) hk0 hp0 <;> assumption)|(apply QLf (n:=n) hk0 hp0 <;> assumption)|(apply Qg9 (n:=n) hk0 hp0 <;> assumption)
       ·(first|refine ⟨Qo1 32 rfl lnA apA,?_⟩|refine ⟨QI0 32 rfl apA,?_⟩);refine ⟨_,_,Told.refl,?_⟩;refine ⟨_,_,Told.refl,?_⟩;refine ACalls.of_cwp (fun _=>true) Tryz.func31 rfl rfl ?_;refine ai (fun h=>nomatch h) (fun _=>?_);refine dchk (by kernel_rfl) ?_;(repeat ((first|refine ai rfl ?_|refine ai (fun _=>rfl) ?_)));refine ⟨_,_,Told.refl,?_⟩;obtain rfl:=foll hR (ct h1 (cf h11 (by subst hvbs;exact cf h19 (ct h20 (cf h23 (by subst hvea1;exact rfl))))));first|exact Q80 (Low.tup' (.cons (State.low _ _) (.cons lw (l1 .nil)))) (Seen.tup (ev (Seen.agg (e1 (e1 (e1 (ev (Q90 Resize.zero _ rfl eqA lnA) (e1 (e1 (e1 (e1 .nil))))))))) (ev (Q90 Note.zero _ rfl eqA lnA) (e1 .nil))))|(subst hvbs hvea1;exact Q80 (Low.tup' (.cons (State.low _ _) (.cons lw (l1 .nil)))) (Seen.tup (ev (Seen.agg (e1 (e1 (e1 (ev (Q90 Resize.zero _ rfl eqA lnA) (e1 (e1 (e1 (e1 .nil))))))))) (ev (Q90 Note.zero _ rfl eqA lnA) (e1 .nil)))))
     ·refine Or.inl ?_;refine us (AGives.as2 (Qy7 ([n.node]:List Int) Qr1 _) (av (QA5 (c:=(fun q_=>[I q_])) (d:=0) ([n.node]:List Int) rfl) .nil)) ?_;refine ACalls.of_cwp (fun _=>true) Tryz.func38 rfl rfl ?_;refine ai (fun h=>nomatch h) (fun _=>?_);refine dchk (by kernel_rfl) ?_;(first|apply u2|apply u3|apply u4|apply us);exact Qt1 s.nodes ((QH0 ([n.node]:List Int)).1) 4 0 s.now Qr1 _;generalize hvea2:Qp0 s.nodes ((QH0 ([n.node]:List Int)).1) 4 0 s.now=ea2;(have qea:ea2.2.1.length<=64:=by rw [← hvea2];exact Q63 _ _ _ _ _);(repeat ((first|refine ai rfl ?_|refine ai (fun _=>rfl) ?_|refine ai (fun _=>by subst hvea2;exact Qt1 s.nodes ((QH0 ([n.node]:List Int)).1) 4 0 s.now Qr1 _) ?_)));refine ai (fun h28=>?_) (fun h29=>?_)
      ·exfalso;subst_vars;with_reducible first|(apply QBa (n:=n) hk0 hp0 <;> assumption)|(apply QKf (n:=n) hk0 hp0 <;> assumption)|(apply QJf (n:=n) hk0 hp0 <;> assumption)|(apply QLf (n:=n) hk0 hp0 <;> assumption)|(apply Qg9 (n:=n) hk0 hp0 <;> assumption)
      ·(first|refine ⟨Qo1 32 rfl lnA apA,?_⟩|refine ⟨QI0 32 rfl apA,?_⟩);refine ⟨_,_,Told.refl,?_⟩;refine And.intro (by first|exact fun hg=>decide_eq_true (by first|((have hq:=qbs (by assumption);omega))|first|((subst_vars;exact rz_in hk0 hp0 (by assumption) (by assumption) (by assumption) hg))|exact ckA)|exact gkA) ?_;refine ⟨_,QQ0 rfl rfl rfl (Q21 Resize.zero (Int.toNat bs.1) (by first|rfl|exact Nat.zero_add _|omega) (by first|((have hq:=qbs (by assumption);omega))|first|((subst_vars;exact rz_in hk0 hp0 (by assumption) (by assumption) (by assumption) hg))|exact ckA)) rfl,?_⟩;refine And.intro (by first|exact fun hg=>decide_eq_true (by first|((have hq:=qbs (by assumption);omega))|first|((subst_vars;exact rz_in hk0 hp0 (by assumption) (by assumption) (by assumption) hg))|exact ckA)|exact gkA) ?_;refine ⟨_,Qu2 rfl rfl rfl rfl (Q21 Resize.zero (Int.toNat bs.1) (by first|rfl|exact Nat.zero_add _|omega) (by first|((have hq:=qbs (by assumption);omega))|first|((subst_vars;exact rz_in hk0 hp0 (by assumption) (by assumption) (by assumption) hg))|exact ckA)) rfl rfl (Qld (Int.toNat bs.1) { (s.resizes.getD (Int.toNat bs.1) Resize.zero) with said:=(wu64 (BitVec.ofInt 64 (s.resizes.getD (Int.toNat bs.1) Resize.zero).said ||| BitVec.ofInt 64 (QH0 ([n.node]:List Int)).1).toNat) } (by first|rfl|exact Nat.zero_add _|omega) rfl),?_⟩;generalize hvtw:s.resizes.set (Int.toNat bs.1) { (s.resizes.getD (Int.toNat bs.1) Resize.zero) with said:=(wu64 (BitVec.ofInt 64 (s.resizes.getD (Int.toNat bs.1) Resize.zero).said ||| BitVec.ofInt 64 (QH0 ([n.node]:List Int)).1).toNat) }=tw;(have qtw:tw.length=s.resizes.length:=by rw [← hvtw];exact List.length_set);refine dchk (by kernel_rfl) ?_;refine And.intro (by first|exact fun hg=>decide_eq_true (by first|((have hq:=qbs (by assumption);omega))|first|((subst_vars;exact rz_in hk0 hp0 (by assumption) (by assumption) (by assumption) hg))|exact ckA)|exact gkA) ?_;refine ⟨_,QQ0 rfl rfl rfl (Q21 Resize.zero (Int.toNat bs.1) (by first|rfl|exact Nat.zero_add _|omega) (by first|((have hq:=qbs (by assumption);omega))|first|((subst_vars;exact rz_in hk0 hp0 (by assumption) (by assumption) (by assumption) hg))|exact ckA)) rfl,?_⟩;refine And.intro (by first|exact fun hg=>decide_eq_true (by first|((have hq:=qbs (by assumption);omega))|first|((subst_vars;exact rz_in hk0 hp0 (by assumption) (by assumption) (by assumption) hg))|exact ckA)|exact gkA) ?_;refine ⟨_,QQ0 rfl rfl rfl (Q21 Resize.zero (Int.toNat bs.1) (by first|rfl|exact Nat.zero_add _|omega) (by first|((have hq:=qbs (by assumption);omega))|first|((subst_vars;exact rz_in hk0 hp0 (by assumption) (by assumption) (by assumption) hg))|exact ckA)) rfl,?_⟩;(repeat ((first|refine ai rfl ?_|refine ai (fun _=>rfl) ?_|refine And.intro (QQ0 rfl rfl rfl (Q21 Resize.zero (Int.toNat bs.1) (by first|rfl|exact Nat.zero_add _|omega) (by first|((have hq:=qbs (by assumption);omega))|first|((subst_vars;exact rz_in hk0 hp0 (by assumption) (by assumption) (by assumption) hg))|exact ckA)) rfl) ?_|refine And.intro (QQ0 rfl rfl rfl (Q21 Resize.zero (Int.toNat bs.1) (by first|rfl|exact Nat.zero_add _|omega) (by first|((have hq:=qbs (by assumption);omega))|first|((subst_vars;exact rz_in hk0 hp0 (by assumption) (by assumption) (by assumption) hg))|exact ckA)) rfl) ?_)));refine ai (fun h30=>?_) (fun h31=>?_)
       ·refine ACalls.of_cwp (fun _=>true) Tryz.func61 rfl rfl ?_;refine ACalls.of_cwp (fun _=>true) Tryz.func116 rfl rfl ?_;refine And.intro (by first|exact fun hg=>decide_eq_true (by first|((have hq:=qbs (by assumption);omega))|first|((subst_vars;exact rz_in hk0 hp0 (by assumption) (by assumption) (by assumption) hg))|exact ckA)|exact gkA) ?_;refine ⟨_,QQ0 rfl rfl rfl (Q21 Resize.zero (Int.toNat bs.1) (by first|rfl|exact Nat.zero_add _|omega) (by first|((have hq:=qbs (by assumption);omega))|first|((subst_vars;exact rz_in hk0 hp0 (by assumption) (by assumption) (by assumption) hg))|exact ckA)) rfl,?_⟩;refine us (mv [4] (Qpb tw bs.1 (w64 (bs.1+1)) Qr1 (by (have hq:=qbs (by assumption);rw [hq.2.2];omega))) (dO (dr eqA) .nil) (dv (Q56 rfl lnA) (d1 (d1 .nil))) (rO rr .nil) (rw_ 9 0 rfl)) ?_;refine ⟨_,_,Told.refl,?_⟩;refine ai (fun h32=>?_) (fun h33=>?_)
        ·refine ACalls.of_cwp (fun _=>true) Tryz.func38 rfl rfl ?_;refine ai (fun h=>nomatch h) (fun _=>?_);refine dchk (by kernel_rfl) ?_;(first|apply u2|apply u3|apply u4|apply us);exact Qt1 ea2.1 ((tw.getD (Int.toNat bs.1) Resize.zero).nodes) 3 0 s.now Qr1 _;generalize hvea3:Qp0 ea2.1 ((tw.getD (Int.toNat bs.1) Resize.zero).nodes) 3 0 s.now=ea3;(have qea:ea3.2.1.length<=64:=by rw [← hvea3];exact Q63 _ _ _ _ _);(repeat ((first|refine ai rfl ?_|refine ai (fun _=>rfl) ?_|refine ai (fun _=>by subst hvea3;exact Qt1 ea2.1 ((tw.getD (Int.toNat bs.1) Resize.zero).nodes) 3 0 s.now Qr1 _) ?_)));refine ai (fun h34=>?_) (fun h35=>?_)
         ·exfalso;subst_vars;with_reducible first|(apply QBa (n:=n) hk0 hp0 <;> assumption)|(apply QKf (n:=n) hk0 hp0 <;> assumption)|(apply QJf (n:=n) hk0 hp0 <;> assumption)|(apply QLf (n:=n) hk0 hp0 <;> assumption)|(apply Qg9 (n:=n) hk0 hp0 <;> assumption)
         ·(first|refine ⟨Qo1 32 rfl lnA apA,?_⟩|refine ⟨QI0 32 rfl apA,?_⟩);refine ⟨_,_,Told.refl,?_⟩;refine ACalls.of_cwp (fun _=>true) Tryz.func119 rfl rfl ?_;refine us (QGa s.jobs ((tw.getD (Int.toNat bs.1) Resize.zero).job) Qr1 _) ?_;generalize hvtf:QV0 s.jobs ((tw.getD (Int.toNat bs.1) Resize.zero).job)=tf;refine dchk (by kernel_rfl) ?_;refine u4 (r:=U (wu64 (BitVec.ofInt 64 tf.1.nodes ||| BitVec.ofInt 64 (tw.getD (Int.toNat bs.1) Resize.zero).nodes).toNat)) (agC (ACalls.of_cwp (fun _=>true) Tryz.func118 rfl rfl ?_)) ?_
          ·exact ⟨_,_,Told.refl,rfl,rfl⟩
          (first|apply u2|apply u3|apply u4|apply us);exact QQa tf.1 (wu64 (BitVec.ofInt 64 tf.1.nodes ||| BitVec.ofInt 64 (tw.getD (Int.toNat bs.1) Resize.zero).nodes).toNat) Qr1 _;generalize hvjz:QG2 tf.1 (wu64 (BitVec.ofInt 64 tf.1.nodes ||| BitVec.ofInt 64 (tw.getD (Int.toNat bs.1) Resize.zero).nodes).toNat)=jz;(repeat ((first|refine ai rfl ?_|refine ai (fun _=>rfl) ?_|(refine ai (fun _=>agC (ACalls.of_cwp (fun _=>true) Tryz.func118 rfl rfl ?_)) ?_;focus ((conv=>whnf);exact ⟨_,_,Told.refl,rfl,rfl⟩))|refine ai (fun _=>by subst hvjz;exact QQa tf.1 (wu64 (BitVec.ofInt 64 tf.1.nodes ||| BitVec.ofInt 64 (tw.getD (Int.toNat bs.1) Resize.zero).nodes).toNat) Qr1 _) ?_)));refine ai (fun h36=>?_) (fun h37=>?_)
          ·exfalso;subst_vars;with_reducible first|(apply QXd (n:=n) hk0 hp0 <;> assumption)|(apply QWd (n:=n) hk0 hp0 <;> assumption)
          ·refine dchk (by kernel_rfl) ?_;(first|apply u2|apply u3|apply u4|apply us);exact QO9 s.jobs jz.1 Qr1 Qr1 _;generalize hvtp:Qo5 s.jobs jz.1=tp;(repeat ((first|refine ai rfl ?_|refine ai (fun _=>rfl) ?_|refine ai (fun _=>by subst hvtp;exact QO9 s.jobs jz.1 Qr1 Qr1 _) ?_)));refine ai (fun h38=>?_) (fun h39=>?_)
           ·exfalso;subst_vars;with_reducible first|(apply QNf (n:=n) hk0 hp0 <;> assumption)|(apply QMf (n:=n) hk0 hp0 <;> assumption)
           ·refine ⟨_,_,Told.refl,?_⟩;refine ⟨_,_,Told.refl,?_⟩;refine ACalls.of_cwp (fun _=>true) Tryz.func31 rfl rfl ?_;refine ai (fun h=>nomatch h) (fun _=>?_);refine dchk (by kernel_rfl) ?_;(repeat ((first|refine ai rfl ?_|refine ai (fun _=>rfl) ?_)));refine ⟨_,_,Told.refl,?_⟩;obtain rfl:=foll hR (ct h1 (cf h11 (by subst hvbs;exact cf h19 (cf h21 (by subst hvea2;exact (by subst hvtw;exact ct h30 (ct h32 (by subst hvea3;exact (by subst hvtf;exact (by subst hvjz;exact (by subst hvtp;exact rfl)))))))))));first|exact Q80 (Low.tup' (.cons (State.low _ _) (.cons lw (l1 .nil)))) (Seen.tup (ev (Seen.agg (e1 (e1 (e1 (ev (Q90 Resize.zero _ rfl eqA lnA) (e1 (e1 (e1 (e1 .nil))))))))) (ev (Q90 Note.zero _ rfl eqA lnA) (e1 .nil))))|(subst hvbs hvea2 hvtw hvea3 hvtf hvjz hvtp;exact Q80 (Low.tup' (.cons (State.low _ _) (.cons lw (l1 .nil)))) (Seen.tup (ev (Seen.agg (e1 (e1 (e1 (ev (Q90 Resize.zero _ rfl eqA lnA) (e1 (e1 (e1 (e1 .nil))))))))) (ev (Q90 Note.zero _ rfl eqA lnA) (e1 .nil)))))
        ·refine ACalls.of_cwp (fun _=>true) Tryz.func38 rfl rfl ?_;refine ai (fun h=>nomatch h) (fun _=>?_);refine dchk (by kernel_rfl) ?_;(first|apply u2|apply u3|apply u4|apply us);exact Qt1 ea2.1 ((tw.getD (Int.toNat bs.1) Resize.zero).nodes) 7 0 s.now Qr1 _;generalize hvea4:Qp0 ea2.1 ((tw.getD (Int.toNat bs.1) Resize.zero).nodes) 7 0 s.now=ea4;(have qea:ea4.2.1.length<=64:=by rw [← hvea4];exact Q63 _ _ _ _ _);(repeat ((first|refine ai rfl ?_|refine ai (fun _=>rfl) ?_|refine ai (fun _=>by subst hvea4;exact Qt1 ea2.1 ((tw.getD (Int.toNat bs.1) Resize.zero).nodes) 7 0 s.now Qr1 _) ?_)));refine ai (fun h40=>?_) (fun h41=>?_)
         ·exfalso;subst_vars;with_reducible first|(apply QBa (n:=n) hk0 hp0 <;> assumption)|(apply QKf (n:=n) hk0 hp0 <;> assumption)|(apply QJf (n:=n) hk0 hp0 <;> assumption)|(apply QLf (n:=n) hk0 hp0 <;> assumption)|(apply Qg9 (n:=n) hk0 hp0 <;> assumption)
         ·(first|refine ⟨Qo1 32 rfl lnA apA,?_⟩|refine ⟨QI0 32 rfl apA,?_⟩);refine ⟨_,_,Told.refl,?_⟩;refine ACalls.of_cwp (fun _=>true) Tryz.func119 rfl rfl ?_;refine us (QGa s.jobs ((tw.getD (Int.toNat bs.1) Resize.zero).job) Qr1 _) ?_;generalize hvtf1:QV0 s.jobs ((tw.getD (Int.toNat bs.1) Resize.zero).job)=tf1;refine dchk (by kernel_rfl) ?_;refine u4 (r:=U (wu64 (BitVec.ofInt 64 tf1.1.nodes &&& ~~~(BitVec.ofInt 64 (tw.getD (Int.toNat bs.1) Resize.zero).nodes)).toNat)) (agC (ACalls.of_cwp (fun _=>true) Tryz.func117 rfl rfl ?_)) ?_
          ·exact ⟨_,_,Told.refl,rfl,rfl⟩
          (first|apply u2|apply u3|apply u4|apply us);exact QQa tf1.1 (wu64 (BitVec.ofInt 64 tf1.1.nodes &&& ~~~(BitVec.ofInt 64 (tw.getD (Int.toNat bs.1) Resize.zero).nodes)).toNat) Qr1 _;generalize hvjz1:QG2 tf1.1 (wu64 (BitVec.ofInt 64 tf1.1.nodes &&& ~~~(BitVec.ofInt 64 (tw.getD (Int.toNat bs.1) Resize.zero).nodes)).toNat)=jz1;(repeat ((first|refine ai rfl ?_|refine ai (fun _=>rfl) ?_|(refine ai (fun _=>agC (ACalls.of_cwp (fun _=>true) Tryz.func117 rfl rfl ?_)) ?_;focus ((conv=>whnf);exact ⟨_,_,Told.refl,rfl,rfl⟩))|refine ai (fun _=>by subst hvjz1;exact QQa tf1.1 (wu64 (BitVec.ofInt 64 tf1.1.nodes &&& ~~~(BitVec.ofInt 64 (tw.getD (Int.toNat bs.1) Resize.zero).nodes)).toNat) Qr1 _) ?_)));refine ai (fun h42=>?_) (fun h43=>?_)
          ·exfalso;subst_vars;with_reducible first|(apply QXd (n:=n) hk0 hp0 <;> assumption)|(apply QWd (n:=n) hk0 hp0 <;> assumption)
          ·refine dchk (by kernel_rfl) ?_;(first|apply u2|apply u3|apply u4|apply us);exact QO9 s.jobs jz1.1 Qr1 Qr1 _;generalize hvtp1:Qo5 s.jobs jz1.1=tp1;(repeat ((first|refine ai rfl ?_|refine ai (fun _=>rfl) ?_|refine ai (fun _=>by subst hvtp1;exact QO9 s.jobs jz1.1 Qr1 Qr1 _) ?_)));refine ai (fun h44=>?_) (fun h45=>?_)
           ·exfalso;subst_vars;with_reducible first|(apply QNf (n:=n) hk0 hp0 <;> assumption)|(apply QMf (n:=n) hk0 hp0 <;> assumption)
           ·refine ⟨_,_,Told.refl,?_⟩;refine ⟨_,_,Told.refl,?_⟩;refine ACalls.of_cwp (fun _=>true) Tryz.func31 rfl rfl ?_;refine ai (fun h=>nomatch h) (fun _=>?_);refine dchk (by kernel_rfl) ?_;(repeat ((first|refine ai rfl ?_|refine ai (fun _=>rfl) ?_)));refine ⟨_,_,Told.refl,?_⟩;obtain rfl:=foll hR (ct h1 (cf h11 (by subst hvbs;exact cf h19 (cf h21 (by subst hvea2;exact (by subst hvtw;exact ct h30 (cf h33 (by subst hvea4;exact (by subst hvtf1;exact (by subst hvjz1;exact (by subst hvtp1;exact rfl)))))))))));first|exact Q80 (Low.tup' (.cons (State.low _ _) (.cons lw (l1 .nil)))) (Seen.tup (ev (Seen.agg (e1 (e1 (e1 (ev (Q90 Resize.zero _ rfl eqA lnA) (e1 (e1 (e1 (e1 .nil))))))))) (ev (Q90 Note.zero _ rfl eqA lnA) (e1 .nil))))|(subst hvbs hvea2 hvtw hvea4 hvtf1 hvjz1 hvtp1;exact Q80 (Low.tup' (.cons (State.low _ _) (.cons lw (l1 .nil)))) (Seen.tup (ev (Seen.agg (e1 (e1 (e1 (ev (Q90 Resize.zero _ rfl eqA lnA) (e1 (e1 (e1 (e1 .nil))))))))) (ev (Q90 Note.zero _ rfl eqA lnA) (e1 .nil)))))
       ·refine ACalls.of_cwp (fun _=>true) Tryz.func31 rfl rfl ?_;refine ai (fun h=>nomatch h) (fun _=>?_);refine dchk (by kernel_rfl) ?_;(repeat ((first|refine ai rfl ?_|refine ai (fun _=>rfl) ?_)));refine ⟨_,_,Told.refl,?_⟩;obtain rfl:=foll hR (ct h1 (cf h11 (by subst hvbs;exact cf h19 (cf h21 (by subst hvea2;exact (by subst hvtw;exact cf h31 rfl))))));first|exact Q80 (Low.tup' (.cons (State.low _ _) (.cons lw (l1 .nil)))) (Seen.tup (ev (Seen.agg (e1 (e1 (e1 (ev (Q90 Resize.zero _ rfl eqA lnA) (e1 (e1 (e1 (e1 .nil))))))))) (ev (Q90 Note.zero _ rfl eqA lnA) (e1 .nil))))|(subst hvbs hvea2 hvtw;exact Q80 (Low.tup' (.cons (State.low _ _) (.cons lw (l1 .nil)))) (Seen.tup (ev (Seen.agg (e1 (e1 (e1 (ev (Q90 Resize.zero _ rfl eqA lnA) (e1 (e1 (e1 (e1 .nil))))))))) (ev (Q90 Note.zero _ rfl eqA lnA) (e1 .nil)))))
   ·exfalso;rw [h17] at h1;cases h1
def QS6 :Bool:=bif ((((((((((Qw0 law26_small 5 3).2.2 != 0)||((QZ1 ((Qw0 law26_small 5 3).1) (⟨8,2,5,1⟩:Note)).2.2 != 0))||((Qq1 ((Qw0 law26_small 5 3).1) 5).2.2 != 0))||((Qw0 law26_small 5 4).2.2 != 152))||((((Qw0 law26_small 5 3).2.1).length:Int)!=1))||((((QZ1 ((Qw0 law26_small 5 3).1) (⟨8,2,5,1⟩:Note)).2.1).length:Int)!=1))||((((Qq1 ((Qw0 law26_small 5 3).1) 5).2.1).length:Int)!=1))||((((QZ1 ((Qw0 law26_small 5 3).1) (⟨8,2,5,1⟩:Note)).1.jobs).length:Int)!=1))||((((Qq1 ((Qw0 law26_small 5 3).1) 5).1.nodes).length:Int)!=4)) then false else (((((((((Qw0 law26_small 5 3).2.1).getD 0 Note.zero).kind==2)&&(((((Qw0 law26_small 5 3).2.1).getD 0 Note.zero).node==2)&&(((((Qw0 law26_small 5 3).2.1).getD 0 Note.zero).job==5)&&((((Qw0 law26_small 5 3).2.1).getD 0 Note.zero).epoch==1))))&&((((QZ1 ((Qw0 law26_small 5 3).1) (⟨8,2,5,1⟩:Note)).2.1).getD 0 Note.zero).kind==3))&&((((QZ1 ((Qw0 law26_small 5 3).1) (⟨8,2,5,1⟩:Note)).1.jobs).getD 0 Job.zero).nodes==7))&&((((Qq1 ((Qw0 law26_small 5 3).1) 5).2.1).getD 0 Note.zero).kind==5))&&((((Qq1 ((Qw0 law26_small 5 3).1) 5).1.nodes).getD 2 Node.zero).state==3))
theorem QIa {P:Prop} (h:P:=by first|(exact small_sz)|first|(exact begun_sz)|exact szA):P:=h
theorem Qjc :GV 9 [] (Bo QS6):=by
 generalize hR:QS6=R;refine gA (kp 13 [78]) Tryz.func9 ?_;refine us (Qkc _) ?_;refine us (Qhb law26_small 5 3 QIa _) ?_;refine us (QUd ((Qw0 law26_small 5 3).1) (⟨8,2,5,1⟩:Note) QIa (by exact begun_wu) _) ?_;refine us (Qgb ((Qw0 law26_small 5 3).1) 5 QIa _) ?_;refine us (Qkc _) ?_;refine us (Qhb law26_small 5 4 QIa _) ?_;refine ai (fun h1=>?_) (fun h2=>?_)
 ·exact lfA
 ·refine ai gkA ?_;refine ai (fun _=>(by kernel_rfl:eqOK _ _=true)) ?_;refine ai gkA ?_;refine ai gkA ?_;refine ai gkA ?_;refine ai gkA ?_;exact lfA
end Go.Proofs.YtackngeeehiegaaGreatDoor
namespace Go.Proofs.YtackngeeehiegaaGreatDoor
set_option linter.unusedSimpArgs false
set_option linter.unusedVariables false
open Go.Fw
theorem resize_awake:QS6=true:=by kernel_rfl
theorem QYd (a:List Note):Qh5 a a=true :=
 (QI6 Note.zero a a (fun x y=>((x.kind==y.kind)&&((x.node==y.node)&&((x.job==y.job)&&(x.epoch==y.epoch))))) (fun x y=>by cases x;cases y;simp) (QZ4 a) (fun _=>rfl) (fun _ _ _=>rfl)).2 rfl
set_option maxRecDepth 20000
set_option maxHeartbeats 4000000
attribute [local irreducible] ACalls AMoves
def Qq6 (s:State) (n:Note) (act:Int) (set_:Int):State × (List Note) × Int:=bif ((QS0 ((QS0 s.nodes (QN1 ([n.node]:List Int)) 4 0 s.now).1) ((Q20 s n.job).1.nodes) act 0 s.now).2.2 != 0) then (State.zero,[],(QS0 ((QS0 s.nodes (QN1 ([n.node]:List Int)) 4 0 s.now).1) ((Q20 s n.job).1.nodes) act 0 s.now).2.2) else ({ s with nodes:=(QS0 ((QS0 s.nodes (QN1 ([n.node]:List Int)) 4 0 s.now).1) ((Q20 s n.job).1.nodes) act 0 s.now).1,jobs:=(Qb6 s.jobs ((Q20 s n.job).1.job) set_),resizes:=(Qs1 s.resizes ((Q20 s n.job).1.job)) },(QS0 ((QS0 s.nodes (QN1 ([n.node]:List Int)) 4 0 s.now).1) ((Q20 s n.job).1.nodes) act 0 s.now).2.1,0)
def Qt3 (s:State) (n:Note):State × (List Note) × Int:=bif ((Qa2 s)!=0) then (State.zero,[],141) else bif (((((!(Q20 s n.job).2)||((n.kind != 8)&&(n.kind != 9)))||(!(QC4 ((Q20 s n.job).1.nodes) n.node)))||(QC4 ((Q20 s n.job).1.said) n.node))||((s.nodes.getD (Int.toNat n.node) Node.zero).epoch != n.epoch)) then (State.zero,[],230) else bif (n.kind==9) then ((QQ2 s ((Q20 s n.job).1)).1,(QQ2 s ((Q20 s n.job).1)).2.1,(QQ2 s ((Q20 s n.job).1)).2.2) else bif ((wu64 ((Q20 s n.job).1.said+(QN1 ([n.node]:List Int))))!=(Q20 s n.job).1.nodes) then ({ s with nodes:=(QS0 s.nodes (QN1 ([n.node]:List Int)) 4 0 s.now).1,resizes:=(Qr6 (Qs1 s.resizes ((Q20 s n.job).1.job)) { (Q20 s n.job).1 with said:=(wu64 ((Q20 s n.job).1.said+(QN1 ([n.node]:List Int)))) }) },[],0) else bif (Q20 s n.job).1.grow then Qq6 s n 3 (wu64 (BitVec.ofInt 64 (Q50 { s with nodes:=(QS0 s.nodes (QN1 ([n.node]:List Int)) 4 0 s.now).1,resizes:=(Qs1 s.resizes ((Q20 s n.job).1.job)) } ((Q20 s n.job).1.job)).1.nodes ||| BitVec.ofInt 64 (Q20 s n.job).1.nodes).toNat) else Qq6 s n 7 (Qi5 ((Q50 { s with nodes:=(QS0 s.nodes (QN1 ([n.node]:List Int)) 4 0 s.now).1,resizes:=(Qs1 s.resizes ((Q20 s n.job).1.job)) } ((Q20 s n.job).1.job)).1.nodes) ((Q20 s n.job).1.nodes))
theorem Qa7 {P:Prop} (h:P:=by first|((exact ⟨Nat.le_trans hel hk0.1,hk0.2.1,hk0.2.2.1,Nat.le_trans hwl hk0.2.2.2.1,hk0.2.2.2.2⟩))|first|((with_reducible exact Nat.le_trans (Q38 ..) (Nat.le_trans hel hk0.1)))|first|((with_reducible exact Nat.le_trans hwl hk0.2.2.2.1))|exact szA):P:=h
theorem ref26_Say_c (s:State) (n:Note) (hs0:s.sz) (hp0:WU s):GV 15 [State.a s,Note.a n] (AVal.tup [State.a ((Qt3 s n).1),noteL ((Qt3 s n).2.1),I ((Qt3 s n).2.2)]):=by
 generalize hR:Qt3 s n=R;refine gA (kj [1000021] 17 [19,66,70,107,127,146]) Tryz.func15 ?_;have hk0:=hs0;obtain ⟨z13,z14,z15,z16,z17,z18,z19⟩:=hs0;refine us (QH9 s Qa7 _) ?_;refine ai (fun h1=>?_) (fun h2=>?_)
 ·exact lfA
 ·refine us (QX9 s n.job Qa7 _) ?_;refine dchk (by kernel_rfl) ?_;(first|apply u2|apply u3|apply u4|apply us);exact Q17 ((Q20 s n.job).1.nodes) n.node _;(first|apply u2|apply u3|apply u4|apply us);exact Q17 ((Q20 s n.job).1.said) n.node _;refine And.intro (by first|exact fun hg=>decide_eq_true (by first|((have hq:=ref_in hk0 hp0 h2 (not_t hg);exact ⟨hq.1,hq.2.1⟩))|first|((intro y hy;rw [List.mem_singleton.1 hy];have hq:=ref_in hk0 hp0 h2 (or_f h4).1;omega))|exact ckA)|exact gkA) ?_;(repeat ((first|refine ai rfl ?_|refine ai (fun _=>rfl) ?_|refine ai (fun _=>Q17 ((Q20 s n.job).1.nodes) n.node _) ?_|refine ai (fun _=>Q17 ((Q20 s n.job).1.said) n.node _) ?_)));refine ai (fun h3=>?_) (fun h4=>?_)
  ·exact lfA
  ·refine ai (fun h5=>?_) (fun h6=>?_)
   ·refine us (QTd s ((Q20 s n.job).1) Qa7 _) ?_;exact lfA
   ·refine Or.inl ?_;refine us (AGives.as2 (ref09_Set_c ([n.node]:List Int) Qa7 (by first|((have hq:=ref_in hk0 hp0 h2 (not_t hg);exact ⟨hq.1,hq.2.1⟩))|first|((intro y hy;rw [List.mem_singleton.1 hy];have hq:=ref_in hk0 hp0 h2 (or_f h4).1;omega))|exact ckA) _) (av (QA5 (c:=(fun q_=>[I q_])) (d:=0) ([n.node]:List Int) rfl) .nil)) ?_;refine us (Qva s.nodes (QN1 ([n.node]:List Int)) 4 0 s.now Qa7 _) ?_;refine us (Qxa s.resizes ((Q20 s n.job).1.job) Qa7 _) ?_;have hwl:=QQ9 s.resizes ((Q20 s n.job).1.job);have hel:=Q38 s.nodes (QN1 ([n.node]:List Int)) 4 0 s.now;refine ai (fun h7=>?_) (fun h8=>?_)
    ·refine us (ref26_with_c (Qs1 s.resizes ((Q20 s n.job).1.job)) { (Q20 s n.job).1 with said:=(wu64 ((Q20 s n.job).1.said+(QN1 ([n.node]:List Int)))) } Qa7 _) ?_;exact lfA
    ·refine us (QAb { s with nodes:=(QS0 s.nodes (QN1 ([n.node]:List Int)) 4 0 s.now).1,resizes:=(Qs1 s.resizes ((Q20 s n.job).1.job)) } ((Q20 s n.job).1.job) Qa7 _) ?_;refine us (Qxc ((Q50 { s with nodes:=(QS0 s.nodes (QN1 ([n.node]:List Int)) 4 0 s.now).1,resizes:=(Qs1 s.resizes ((Q20 s n.job).1.job)) } ((Q20 s n.job).1.job)).1.nodes) ((Q20 s n.job).1.nodes) _) ?_;refine Qaf (fun (act:Int) (set_:Int)=>Qq6 s n act set_=R) (fun act set_=>[(2,AVal.ptr 0 0 8 0 0),(4,AVal.ptr 1 0 8 0 0),(5,AVal.lit (.slice none 0 0)),(6,I 0),(7,AVal.ptr 2 0 5 0 0),(10,I act),(13,U set_)]) (fun act set_=>[(0,AObj.row 28 8 [[I s.now,nodeL ((QS0 s.nodes (QN1 ([n.node]:List Int)) 4 0 s.now).1),jobL s.jobs,Qp1 (Qs1 s.resizes ((Q20 s n.job).1.job)),bookL s.books,QD2 s.ledger,I s.nextJob,I s.nextBook]]),(0,AObj.row 28 8 [[I 0,AVal.lit (.slice none 0 0),AVal.lit (.slice none 0 0),AVal.lit (.slice none 0 0),AVal.lit (.slice none 0 0),AVal.lit (.slice none 0 0),I 0,I 0]]),(0,AObj.row 49 5 [[I ((Q20 s n.job).1.job),Bo ((Q20 s n.job).1.grow),U ((Q20 s n.job).1.nodes),U (wu64 ((Q20 s n.job).1.said+(QN1 ([n.node]:List Int)))),I ((Q20 s n.job).1.since)]])]) ?_ ?_
     ·clear hR;rintro act set_ hR;(try dsimp only at hR);refine us (Qva ((QS0 s.nodes (QN1 ([n.node]:List Int)) 4 0 s.now).1) ((Q20 s n.job).1.nodes) act 0 s.now Qa7 _) ?_;refine ai (fun h9=>?_) (fun h10=>?_)
      ·exact lfA
      ·refine us (ref26_Nodes_c s.jobs ((Q20 s n.job).1.job) set_ Qa7 _) ?_;exact lfA
     ·refine ai (fun h11=>?_) (fun h12=>?_)
      ·exact QRa 3 (wu64 (BitVec.ofInt 64 (Q50 { s with nodes:=(QS0 s.nodes (QN1 ([n.node]:List Int)) 4 0 s.now).1,resizes:=(Qs1 s.resizes ((Q20 s n.job).1.job)) } ((Q20 s n.job).1.job)).1.nodes ||| BitVec.ofInt 64 (Q20 s n.job).1.nodes).toNat) (wkA [0,2,3]) (foll hR (cf h2 (cf h4 (cf h6 (cf h8 (ct h11 rfl))))))
      ·exact QRa 7 (Qi5 ((Q50 { s with nodes:=(QS0 s.nodes (QN1 ([n.node]:List Int)) 4 0 s.now).1,resizes:=(Qs1 s.resizes ((Q20 s n.job).1.job)) } ((Q20 s n.job).1.job)).1.nodes) ((Q20 s n.job).1.nodes)) (wkA [0,2,3]) (foll hR (cf h2 (cf h4 (cf h6 (cf h8 (cf h12 rfl))))))
end Go.Proofs.YtackngeeehiegaaGreatDoor
namespace Go.Proofs.YtackngeeehiegaaGreatDoor
set_option linter.unusedSimpArgs false
set_option linter.unusedVariables false
open Go.Fw
section
variable {s:State}
theorem withR_set {l:List Resize} (hs:l.Pairwise (fun a b=>a.job<b.job)) {p:Nat} (hp:p<l.length) {r':Resize} (hr:r'.job=(l.getD p Resize.zero).job):Qr6 (l.take p++l.drop (p+1)) r'=l.set p r':=by
 obtain ⟨e,h1,h2⟩:=around hs hp
 rw [with_eq r' _ _ (fun x hx=>by have:=h1 x hx;omega) (fun x hx=>by have:=h2 x hx;omega),List.set_eq_take_append_cons_drop,if_pos hp]
 simp
theorem drop_eq {r:Resize} {j:Job} (a:RzAt s r j):QQ2 s r=(bif r.grow then ({ s with nodes:=(Qp0 s.nodes r.nodes 7 0 s.now).1,resizes:=s.resizes.filter (fun x=>x.job != r.job) },(Qp0 s.nodes r.nodes 7 0 s.now).2.1,0) else ({ s with nodes:=(Qp0 s.nodes (wu64 (BitVec.ofInt 64 r.nodes &&& ~~~(BitVec.ofInt 64 r.said)).toNat) 6 0 s.now).1,resizes:=s.resizes.filter (fun x=>x.job != r.job) },(Qp0 s.nodes (wu64 (BitVec.ofInt 64 r.nodes &&& ~~~(BitVec.ofInt 64 r.said)).toNat) 6 0 s.now).2.1,0)):=by
 unfold QQ2 Qy5
 cases hg:r.grow with
 | true =>
  rw [QWe (by simp [Act]) a.un,(a.all (QQ6 a.g) rfl (fun _ _=>⟨rfl,rfl⟩) 7 (.inl rfl)).1,Q2b]
  rfl
 | false =>
  rw [minus_eq a.un a.us,QWe (by simp [Act]) (Qz8 _),(a.keep hg).1,Q2b]
  rfl
theorem abort_eq (hz:s.sz) (hu:WU s) (id:Int):Qq1 s id=Qb2 s id:=by
 unfold Qq1 Qb2
 rw [Qyc hz hu]
 cases hc:((Qv0 s)!=0) with
 | true=>rw [check_141 hc];rfl
 | false =>
  simp only [cond_false]
  cases hk:Qn1 id with
  | false =>
   rw [Q47 (QSa hz hu hc (.inl hk))]
   rfl
  | true =>
   simp only [Bool.not_true,cond_false]
   cases hb:(Q00 s.resizes id bsrF).2 with
   | false =>
    rw [Q47 (QSa hz hu hc (.inr hb))]
    rfl
   | true =>
    obtain ⟨p,j,hbs,hi,a,hid⟩:=rz_at' hz hu hc hk hb
    have hd:=(del_filter a.g.sorted hi hz.2.2.2.1).1
    have hres:=QCb hz a
    rw [hid] at hres
    rw [hres,hbs]
    simp only [Bool.not_true,cond_false,Int.toNat_natCast]
    rw [drop_eq a,← hd]
    cases hg:(s.resizes.getD p Resize.zero).grow with
    | true =>
     have e:=(a.all (QQ6 a.g) rfl (fun _ _=>⟨rfl,rfl⟩) 7 (.inl rfl)).1
     simp only [cond_true]
     rw [e]
     rfl
    | false =>
     have e:=(a.keep hg).1
     simp only [cond_false]
     rw [e]
     rfl
theorem cond_say (A B H S E:Bool):(((!true || !(A||B)) || !(H && !S))||E)=((((!true||(!A && !B)) || !H)||S)||E):=by
 revert A B H S E
 decide
theorem say_eq (hz:s.sz) (hu:WU s) (n:Note):QZ1 s n=Qt3 s n:=by
 unfold QZ1 Qt3
 rw [Qyc hz hu]
 cases hc:((Qv0 s)!=0) with
 | true =>
  rw [check_141 hc]
  cases ((Qn1 n.job)&&(Q00 s.resizes n.job bsrF).2) <;> rfl
 | false =>
  cases hk:Qn1 n.job with
  | false =>
   rw [Q47 (QSa hz hu hc (.inl hk))]
   rfl
  | true =>
   cases hb:(Q00 s.resizes n.job bsrF).2 with
   | false =>
    rw [Q47 (QSa hz hu hc (.inr hb))]
    rfl
   | true =>
    simp only [Bool.and_true,cond_true,cond_false]
    obtain ⟨p,j,hbs,hi,a,hid⟩:=rz_at' hz hu hc hk hb
    have hlen:=hz.2.2.2.1
    have hd:=del_filter a.g.sorted hi hlen
    have hres:=QCb hz a
    rw [hid] at hres
    rw [hbs]
    simp only [cond_true,Int.toNat_natCast]
    unfold Qq6
    rw [hres]
    simp only
    have hT:∀ x:Resize,(s.resizes.set p x).getD p Resize.zero=x:=fun x=>by
     rw [List.getD,List.getElem?_set_self hi]
     rfl
    have hws:=fun x hx=>withR_set (r':=x) a.g.sorted hi hx
    rw [Q2b,← hd.1]
    generalize hr:s.resizes.getD p Resize.zero=r at *
    rw [has_andnot a.un a.us,has09 a.un,has09 a.us]
    have hcnd:=cond_say (n.kind==8) (n.kind==9) (Qu0 r.nodes n.node) (Qu0 r.said n.node) ((s.nodes.getD (Int.toNat n.node) Node.zero).epoch != n.epoch)
    have e8:(n.kind != 8) = !(n.kind==8):=rfl
    have e9:(n.kind != 9) = !(n.kind==9):=rfl
    rw [e8,e9,hcnd]
    cases hx:((((!true||(!(n.kind==8) && !(n.kind==9))) || !(Qu0 r.nodes n.node))||Qu0 r.said n.node)||((s.nodes.getD (Int.toNat n.node) Node.zero).epoch != n.epoch)) with
    | true=>rfl
    | false =>
     simp only [cond_false]
     have hN:Qu0 r.nodes n.node=true:=by
      have:=(or_f (or_f (or_f hx).1).1).2
      simpa using this
     have hS:Qu0 r.said n.node=false:=(or_f (or_f hx).1).2
     cases h9:(n.kind==9) with
     | true =>
      simp only [cond_true]
      rw [drop_eq a,← hd.1]
      try (cases r.grow <;> rfl)
     | false =>
      obtain ⟨k,hnk,hk64,hb1⟩:=(has_iff a.un n.node).1 hN
      have hb2:tb r.said k=false:=by
       rw [hnk,QH2 a.us,decide_eq_true hk64] at hS
       simpa using hS
      simp only [cond_false]
      rw [hnk,set_one hk64,← of_one hk64,QWe (act:=4) (by simp [Act]) (tb_one hk64).1,(a.settle hk64 hb1).1]
      have hadd:=add_bit a.us hk64 hb2
      rw [← of_one hk64] at hadd
      rw [hadd]
      generalize hX:wu64 (BitVec.ofInt 64 r.said ||| BitVec.ofInt 64 (QH0 ([(k:Int)]:List Int)).1).toNat=X
      simp only [hT]
      cases hXn:(X==r.nodes) with
      | false =>
       have:(X != r.nodes)=true:=by simpa using hXn
       rw [this]
       simp only [cond_true,cond_false]
       rw [hd.2,hws { r with said:=X } rfl]
      | true =>
       have:(X != r.nodes)=false:=by simpa using hXn
       rw [this]
       simp only [cond_true,cond_false]
       have hrun:∀ (N:List Node) (R:List Resize),Q50 { s with nodes:=N,resizes:=R } r.job=(j,true):=fun N R=>by
        show Q50 s r.job=_
        rw [← a.id,QI9 (Qw4 (QR6 a.g)).2.2 a.hj,if_pos a.st]
       have hall:=fun act ha=>(a.all (a.settle hk64 hb1).2 (QW2 _ _ _) (fun i hi=>by
        rw [QT5 _ _ hi]
        cases decide (k=i) <;> exact ⟨rfl,rfl⟩) act ha).1
       rw [a.find,del_set hi hlen]
       cases hg:r.grow with
       | true =>
        simp only [cond_true]
        rw [hrun,QWe (act:=3) (by simp [Act]) a.un,hall 3 (.inr ⟨rfl,hg⟩)]
        have hm:=a.more hg
        obtain ⟨q,hq,hput⟩:=a.put hm.2.2
        rw [hm.2.1]
        simp only
        rw [hput,← a.id,jobs_eq (Qw4 (QR6 a.g)).2.2 hq]
        try rfl
       | false =>
        simp only [cond_false]
        rw [hrun,minus_eq a.uj a.un,QWe (act:=7) (by simp [Act]) a.un,hall 7 (.inl rfl)]
        have hm:=a.less hg
        obtain ⟨q,hq,hput⟩:=a.put hm.2.2
        rw [hm.2.1]
        simp only
        rw [hput,← a.id,jobs_eq (Qw4 (QR6 a.g)).2.2 hq]
        try rfl
end
theorem Qdd (id set_:Int):∀ (m i:Nat) (c:List Job),(∀ y ∈ c,y.sz)->((Q52 id set_ m i c).2).length<=c.length ∧ ∀ y ∈ (Q52 id set_ m i c).2,y.sz
 | 0,i,c,_=>⟨Nat.zero_le _,fun _ h=>absurd h List.not_mem_nil⟩
 | m+1,i,c,hc=>by
  unfold Q52
  rw [Bool.cond_eq_ite]
  split
  ·rw [Bool.cond_eq_ite]
   split
   ·have h:=Qdd id set_ m (i+1) (c.set i { (c.getD i Job.zero) with nodes:=set_ }) (fun y hy=>by
     rcases List.mem_or_eq_of_mem_set hy with hy|rfl
     ·exact hc y hy
     ·exact (Q94 hc (Job.szz _):(c.getD i Job.zero).sz))
    rw [List.length_set] at h
    exact h
   ·exact Qdd id set_ m (i+1) c hc
  ·exact ⟨Nat.le_refl _,hc⟩
theorem nodes26_sz (l:List Job) (id set_:Int) (h:∀ y ∈ l,y.sz):(Qb6 l id set_).length<=l.length ∧ ∀ y ∈ Qb6 l id set_,y.sz:=Qdd _ _ _ _ _ h
theorem Qma (l:List Node):∀ (r:List Int) (out:List Note) (i:Nat),((Qk2 l r out i).1).length<=out.length+r.length
 | [],out,i=>Nat.le_refl _
 | x :: r,out,i=>by
  unfold Qk2
  rw [Bool.cond_eq_ite]
  split
  ·have:=Qma l r (out++([(Qw5 l x).1]:List Note)) (i+1)
   simp only [List.length_append,List.length_cons,List.length_nil] at this ⊢
   omega
  ·have:=Qma l r out (i+1)
   simp only [List.length_cons] at this ⊢
   omega
theorem QZb (S act job now:Int):∀ (r:List Int) (l:List Node) (i:Nat),((Q72 S act job now r l i).2.1).length<=66
 | [],l,i=>by
  unfold Q72
  rw [Bool.cond_eq_ite]
  split
  ·exact Nat.zero_le _
  ·have h:=Qma l (Qb0 S) [] 0
   have h2:=(Quc S).1
   have:(Q27 l (Qb0 S)).length<=([]:List Note).length+(Qb0 S).length:=h
   have e:([]:List Note).length=0:=rfl
   show (Q27 l (Qb0 S)).length<=66
   omega
 | x :: r,l,i=>by
  unfold Q72
  rw [Bool.cond_eq_ite]
  split
  ·exact Nat.zero_le _
  ·exact QZb S act job now r ((Q14 l x act job now).1) (i+1)
theorem Qwd (l:List Node) (S act job now:Int):((QS0 l S act job now).2.1).length<=66:=by
 unfold QS0
 rw [Bool.cond_eq_ite]
 split
 ·exact Nat.zero_le _
 ·exact QZb ..
theorem QWf (r_:Resize):∀ (l out:List Resize) (i:Nat),((QA0 r_ l out true i).1).length=out.length+l.length∧(QA0 r_ l out true i).2.1=true
 | [],out,i=>⟨rfl,rfl⟩
 | x :: r,out,i=>by
  unfold QA0
  have:=QWf r_ r (out++([x]:List Resize)) (i+1)
  simp only [Bool.not_true,Bool.false_and,cond_false,List.length_append,List.length_cons,List.length_nil] at this ⊢
  exact ⟨by omega,this.2⟩
theorem QVf (r_:Resize):∀ (l out:List Resize) (put:Bool) (i:Nat),((QA0 r_ l out put i).1).length+(bif (QA0 r_ l out put i).2.1 then 0 else 1)<=out.length+l.length+1
 | [],out,put,i=>by
  unfold QA0
  cases put <;> simp
 | x :: r,out,put,i=>by
  unfold QA0
  cases hc:((!put)&&(decide (x.job > r_.job))) with
  | true =>
   have:=QWf r_ r ((out++([r_]:List Resize))++([x]:List Resize)) (i+1)
   simp only [cond_true,List.length_append,List.length_cons,List.length_nil] at this ⊢
   rw [this.2]
   simp only [cond_true]
   omega
  | false =>
   have:=QVf r_ r (out++([x]:List Resize)) put (i+1)
   simp only [cond_false,List.length_append,List.length_cons,List.length_nil] at this ⊢
   omega
theorem with_len (l:List Resize) (r_:Resize):(Qr6 l r_).length<=l.length+1:=by
 unfold Qr6 QJ2
 have h:=QVf r_ l [] false 0
 cases hp:(QA0 r_ l [] false 0).2.1 with
 | true =>
  rw [hp] at h
  simp only [cond_true,List.length_nil] at h
  simp only [Bool.not_true,cond_false]
  omega
 | false =>
  rw [hp] at h
  simp only [cond_false,List.length_nil] at h
  simp only [Bool.not_false,cond_true,List.length_append,List.length_cons,List.length_nil]
  omega
def Held (t:State × List Note × Int):Prop:=t.1.sz∧t.2.1.length<=4294967296
theorem Q39 (c:Int):Held (State.zero,[],c):=⟨State.szz _,Nat.zero_le _⟩
theorem drop_held {s:State} (hz:s.sz) (r:Resize):Held (QQ2 s r):=by
 have k:∀ S act,Held (Qy5 s r S act):=fun S act=>by
  unfold Qy5
  rw [Bool.cond_eq_ite]
  split
  ·exact Q39 _
  ·exact ⟨⟨Nat.le_trans (Q38 ..) hz.1,hz.2.1,hz.2.2.1,Nat.le_trans (QQ9 ..) hz.2.2.2.1,hz.2.2.2.2⟩,Nat.le_trans (Qwd ..) (Nat.le_of_ble_eq_true rfl)⟩
 unfold QQ2
 rw [Bool.cond_eq_ite]
 split <;> exact k ..
theorem abort_held {s:State} (hz:s.sz) (id:Int):Held (Qb2 s id):=by
 unfold Qb2
 rw [Bool.cond_eq_ite]
 split
 ·exact Q39 _
 ·rw [Bool.cond_eq_ite]
  split
  ·exact Q39 _
  ·exact drop_held hz _
section
variable {s:State} (hz:s.sz) (hr:s.resizes.length<4294967296)
include hz hr
theorem say_held (n:Note):Held (Qt3 s n):=by
 have hk:∀ act S,Held (Qq6 s n act S):=fun act S=>by
  unfold Qq6
  rw [Bool.cond_eq_ite]
  split
  ·exact Q39 _
  ·exact ⟨⟨Nat.le_trans (Q38 ..) (Nat.le_trans (Q38 ..) hz.1),Nat.le_trans (nodes26_sz _ _ _ hz.2.2.1).1 hz.2.1,(nodes26_sz _ _ _ hz.2.2.1).2,Nat.le_trans (QQ9 ..) hz.2.2.2.1,hz.2.2.2.2⟩,Nat.le_trans (Qwd ..) (Nat.le_of_ble_eq_true rfl)⟩
 unfold Qt3
 rw [Bool.cond_eq_ite]
 split
 ·exact Q39 _
 ·rw [Bool.cond_eq_ite]
  split
  ·exact Q39 _
  ·rw [Bool.cond_eq_ite]
   split
   ·exact drop_held hz _
   ·rw [Bool.cond_eq_ite]
    split
    ·refine ⟨⟨Nat.le_trans (Q38 ..) hz.1,hz.2.1,hz.2.2.1,?_,hz.2.2.2.2⟩,Nat.zero_le _⟩
     exact Nat.le_trans (with_len ..) (Nat.succ_le_of_lt (Nat.lt_of_le_of_lt (QQ9 ..) hr))
    ·rw [Bool.cond_eq_ite]
     split <;> exact hk ..
end
theorem says_sz {s:State} (n:Note) (hu:WU s) (h:(!Q75 s)=false) {P:Prop} (k:s.sz->(QZ1 s n).1.sz->(QZ1 s n).2.1.length<=4294967296->(Qt3 s n).1.sz->(Qt3 s n).2.1.length<=4294967296->(Qq1 s n.job).1.sz->(Qq1 s n.job).2.1.length<=4294967296->(Qb2 s n.job).1.sz->(Qb2 s n.job).2.1.length<=4294967296->P):P:=by
 have hf:Q75 s=true:=by simpa using h
 have hz:=QBd hf
 have A:=say_held hz (few_room hf) n
 have B:=abort_held hz n.job
 rw [say_eq hz hu,abort_eq hz hu] at k
 exact k hz A.1 A.2 A.1 A.2 B.1 B.2 B.1 B.2
set_option maxRecDepth 20000
set_option maxHeartbeats 4000000
attribute [local irreducible] ACalls AMoves
def QX5 (s:State) (n:Note):Bool:=bif (!(Q75 s)) then QS6 else (((((((Q68 ((QZ1 s n).1) ((Qt3 s n).1))&&(Qh5 ((QZ1 s n).2.1) ((Qt3 s n).2.1)))&&((QZ1 s n).2.2==(Qt3 s n).2.2))&&(Q68 ((Qq1 s n.job).1) ((Qb2 s n.job).1)))&&(Qh5 ((Qq1 s n.job).2.1) ((Qb2 s n.job).2.1)))&&((Qq1 s n.job).2.2==(Qb2 s n.job).2.2))&&QS6)
theorem QQ1 {P:Prop} (h:P:=by first|((refine says_sz n hp0 h2 (fun a b c d e f g h i=>?_);with_reducible assumption))|exact szA):P:=h
theorem Qic (s:State) (n:Note) (hs0:s.szM) (hp0:WU s):GV 4 [State.a s,Note.a n] (Bo (QX5 s n)):=by
 generalize hR:QX5 s n=R;refine gA (kp 17 [19]) Tryz.func4 ?_;have hk0:=hs0;obtain ⟨z3,z4,z5,z6,z7,z8,z9⟩:=hs0;refine us (law20_Few_c s QQ1 _) ?_;refine ai (fun h1=>?_) (fun h2=>?_)
 ·refine us (Qjc _) ?_;exact lfA
 ·refine us (QUd s n QQ1 ckA _) ?_;refine us (ref26_Say_c s n QQ1 ckA _) ?_;refine us (Qgb s n.job QQ1 _) ?_;refine us (ref26_Abort_c s n.job QQ1 _) ?_;refine us (QRd ((QZ1 s n).1) ((Qt3 s n).1) QQ1 QQ1 _) ?_;(first|apply u3g|apply u4g);exact fun hg=>Qc9 ((QZ1 s n).2.1) ((Qt3 s n).2.1) QQ1 QQ1 _;(first|apply u3g|apply u4g);exact fun hg=>QRd ((Qq1 s n.job).1) ((Qb2 s n.job).1) QQ1 QQ1 _;(first|apply u3g|apply u4g);exact fun hg=>Qc9 ((Qq1 s n.job).2.1) ((Qb2 s n.job).2.1) QQ1 QQ1 _;(first|apply u3g|apply u4g);exact fun hg=>Qjc _;exact lfA
end Go.Proofs.YtackngeeehiegaaGreatDoor
namespace Go.Proofs.YtackngeeehiegaaGreatDoor
set_option linter.unusedSimpArgs false
set_option linter.unusedVariables false
open Go.Fw
theorem QFf {s:State} {n:Note} (hu:WU s) (h:QS6=true):QX5 s n=true:=by
 unfold QX5
 cases hf:(!Q75 s) with
 | true=>exact h
 | false =>
  have hz:=QBd (show Q75 s=true by simpa using hf)
  rw [say_eq hz hu,abort_eq hz hu,(ref25_same _ _).2 rfl,(ref25_same _ _).2 rfl,QYd,QYd,h]
  simp
set_option maxRecDepth 100000
def Note.wf (x:Note):Prop:=(Lit.int .i64 x.kind).wf=true∧(Lit.int .i64 x.node).wf=true∧(Lit.int .i64 x.job).wf=true∧(Lit.int .i64 x.epoch).wf=true∧True
theorem readNote:ReadAs Tryz.prog 41 Note.cells Note.wf:=by
 have h:=ReadAs.struct (P:=Tryz.prog) (t:=41) rfl (by kernel_rfl) (.cons rfl (ReadAs.int ty0) (.cons rfl (ReadAs.int ty0) (.cons rfl (ReadAs.int ty0) (.cons rfl (ReadAs.int ty0) .nil))))
 exact h.map (fun p=>(⟨p.1,p.2.1,p.2.2.1,p.2.2.2.1⟩:Note)) (fun _=>rfl) (fun _ h=>h)
end Go.Proofs.YtackngeeehiegaaGreatDoor
