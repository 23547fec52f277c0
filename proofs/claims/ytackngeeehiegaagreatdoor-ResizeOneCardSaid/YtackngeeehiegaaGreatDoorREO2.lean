/-
  What the last text of this claim leans on: an evaluator over the code, contracts of functions, plain laws. Conditions stand in each statement.
-/
import Derived.Test.YtackngeeehiegaaGreatDoorREO1
import Derived.Test.YtackngeeehiegaaGreatDoorRE8
import Derived.Test.YtackngeeehiegaaGreatDoorProg
namespace Go.Proofs.YtackngeeehiegaaGreatDoor
set_option linter.unusedSimpArgs false
set_option linter.unusedVariables false
open Go.Fw
def WU (s:State):Prop:=(∀ x ∈ s.jobs,U64 x.nodes) ∧ ∀ r ∈ s.resizes,U64 r.nodes∧U64 r.said
theorem WU.words {s:State} (h:WU s) (hz:s.sz):Words s:=⟨hz,h.1,fun r hr=>(h.2 r hr).1,fun r hr=>(h.2 r hr).2⟩
theorem WU.wf {s:State} (h:s.wf):WU s:=⟨fun x hx=>Job.wf_u64 (h.2.2.1.2 x hx),fun r hr=>by
 have:=h.2.2.2.1.2 r hr
 unfold Resize.wf at this
 exact ⟨wf_u64 this.2.2.1,wf_u64 this.2.2.2.1⟩⟩
def ResP (s:State) (r:Resize) (j:Job):Prop:=BaseP r j∧SubP r∧QuiP s r∧(if r.grow=true then AskP s r 2∧SameP s r∧GrowP r j else AskP s r 4∧InP r j∧ShrP r j)
def HeldP (s:State) (j:Job):Prop:=∀ k,tb j.nodes k=true ↔ (k<s.nodes.length∧(s.nodes.getD k Node.zero).job=j.id∧(s.nodes.getD k Node.zero).state=1)
structure NodeP (s:State) (k:Nat):Prop where
 runs:(s.nodes.getD k Node.zero).state=1∨(s.nodes.getD k Node.zero).state=2 -> ∃ j ∈ s.jobs,j.state=2∧j.id=(s.nodes.getD k Node.zero).job
 moved:(s.nodes.getD k Node.zero).state=2∨(s.nodes.getD k Node.zero).want=4 -> ∃ r ∈ s.resizes,r.job=(s.nodes.getD k Node.zero).job∧tb r.nodes k=true
 going:(s.nodes.getD k Node.zero).state=3->(s.nodes.getD k Node.zero).job<s.nextJob
structure Good (s:State):Prop where
 plan:QW1 s=0
 nextJ:Q71 s.nextJob (Qu1 s.jobs 0 0)=true
 nextB:Q71 s.nextBook (QQ1 s.books 0 0)=true
 sorted:s.resizes.Pairwise (fun a b=>a.job<b.job)
 res:∀ r ∈ s.resizes,∃ j ∈ s.jobs,j.state=2∧j.id=r.job∧ResP s r j
 node:∀ k,k<s.nodes.length->NodeP s k
 held:∀ j ∈ s.jobs,j.state=2->HeldP s j
theorem QD8:∀ (l:List Resize) (i:Nat) (r:Resize),r ∈ l->l.Pairwise (fun a b=>a.job<b.job)->Qg2 r.job l i=r
 | [],_,_,h,_=>nomatch h
 | x :: t,i,r,h,hp=>by
  obtain ⟨h1,h2⟩:=List.pairwise_cons.1 hp
  rw [Qg2]
  rcases List.mem_cons.1 h with rfl|h
  ·simp
  ·have:=h1 r h
   rw [beq_eq_false_iff_ne.2 (by omega)]
   exact QD8 t (i+1) r h h2
theorem rof_none:∀ (l:List Resize) (i:Nat) (id:Int),(∀ x ∈ l,x.job ≠ id)->Qg2 id l i=Resize.zero
 | [],_,_,_=>rfl
 | x :: t,i,id,h=>by
  rw [Qg2,beq_eq_false_iff_ne.2 (h x (List.mem_cons_self ..))]
  exact rof_none t (i+1) id fun y hy=>h y (List.mem_cons_of_mem _ hy)
theorem rof_has {s:State} (hs:s.resizes.Pairwise (fun a b=>a.job<b.job)) (hu:∀ r ∈ s.resizes,U64 r.nodes) (id:Int) {k:Nat} (hk:k<64):QY1 (Q15 s id).nodes (k:Int)=true ↔ ∃ r ∈ s.resizes,r.job=id∧tb r.nodes k=true:=by
 unfold Q15
 by_cases h:∃ r ∈ s.resizes,r.job=id
 ·obtain ⟨r,hr,rfl⟩:=h
  rw [QD8 _ _ r hr hs,QY9 (hu r hr) hk]
  refine ⟨fun h=>⟨r,hr,rfl,h⟩,fun ⟨q,hq,e,h⟩=>?_⟩
  have e1:=QD8 _ 0 r hr hs
  have e2:=QD8 _ 0 q hq hs
  rw [e] at e2
  rw [← e1,e2]
  exact h
 ·rw [rof_none _ _ id fun x hx e=>h ⟨x,hx,e⟩]
  rw [QY9 (s:=Resize.zero.nodes) .zero hk]
  refine ⟨fun h=>?_,fun ⟨r,hr,e,_⟩=>absurd ⟨r,hr,e⟩ h⟩
  simp [Resize.zero,tb] at h
theorem QE5 {α:Type} {l:List α} {k:Nat} {d:α} (h:k<l.length):l.getD k d ∈ l:=by
 rw [List.getD,List.getElem?_eq_getElem h]
 exact List.getElem_mem _
theorem Qzd {α:Type} {l:List α} {x:α} (d:α) (h:x ∈ l):∃ k,k<l.length∧l.getD k d=x:=by
 obtain ⟨k,hk⟩:=List.getElem?_of_mem h
 exact ⟨k,(List.getElem?_eq_some_iff.1 hk).1,by rw [List.getD,hk];rfl⟩
theorem job_one {l:List Job} (hp:l.Pairwise (fun a b=>a.id<b.id)) {x y:Job} (hx:x ∈ l) (hy:y ∈ l) (e:x.id=y.id):x=y:=by
 obtain ⟨p,hp1⟩:=List.getElem?_of_mem hx
 obtain ⟨q,hq1⟩:=List.getElem?_of_mem hy
 rcases Nat.lt_trichotomy p q with h|h|h
 ·have:=Qz3 hp p q x y h hp1 hq1;omega
 ·subst h;rw [hp1] at hq1;exact Option.some.inj hq1
 ·have:=Qz3 hp q p y x h hq1 hp1;omega
theorem runs_iff {s:State} (hp:s.jobs.Pairwise (fun a b=>a.id<b.id)) (id:Int):(QV0 s id).2=true ↔ ∃ j ∈ s.jobs,j.state=2∧j.id=id:=by
 by_cases h:∃ x ∈ s.jobs,x.id=id
 ·obtain ⟨x,hx,rfl⟩:=h
  rw [QO9 hp hx]
  by_cases hs:x.state=2
  ·rw [if_pos hs];exact ⟨fun _=>⟨x,hx,hs,rfl⟩,fun _=>rfl⟩
  ·rw [if_neg hs]
   exact ⟨(fun h=>nomatch h),fun ⟨y,hy,h2,e⟩=>absurd (job_one hp hy hx e ▸ h2) hs⟩
 ·rw [QBd _ fun x hx e=>h ⟨x,hx,e⟩]
  exact ⟨(fun h=>nomatch h),fun ⟨y,hy,_,e⟩=>absurd ⟨y,hy,e⟩ h⟩
theorem held_bits {s:State} (hf:Q60 s.nodes=0) {x:Job} (hu:U64 x.nodes):Qw7 s.nodes x.id 1=x.nodes ↔ HeldP s x:=by
 have hl:s.nodes.length<=64:=by have:=(Q19 hf).1;omega
 obtain ⟨u,b⟩:=QY4 s.nodes (fun (y:Node)=>((y.job==x.id)&&(y.state==1))) hf hl
 rw [← of_eq]
 unfold QD5 HeldP
 constructor
 ·intro h k
  rw [← h,b]
  simp
 ·intro h
  refine QYc u hu fun k _=>?_
  rw [b,Bool.eq_iff_iff,h k]
  simp
theorem pw_iff {l:List Resize} (hl:l.length<=4294967296):(∀ k,k<l.length->(((k:Int)==0)||(decide ((l.getD (Int.toNat (w64 ((k:Int) - 1))) Resize.zero).job<(l.getD k Resize.zero).job)))=true) ↔ l.Pairwise (fun a b=>a.job<b.job):=by
 have hstep:(∀ k,k<l.length->(((k:Int)==0)||(decide ((l.getD (Int.toNat (w64 ((k:Int) - 1))) Resize.zero).job<(l.getD k Resize.zero).job)))=true) ↔ ∀ k,k+1<l.length->(l.getD k Resize.zero).job<(l.getD (k+1) Resize.zero).job:=by
  constructor
  ·intro h k hk
   have hk':=h (k+1) hk
   have hw:w64 (((k+1:Nat):Int) - 1)=(k:Int):=by
    have:=wr (n:=((k+1:Nat):Int) - 1) (by omega)
    show IntKind.i64.wrap _=_
    rw [this]
    omega
   rw [hw,Int.toNat_natCast] at hk'
   have hne:(((k+1:Nat):Int)==0)=false:=by simp;omega
   rw [hne,Bool.false_or,decide_eq_true_eq] at hk'
   exact hk'
  ·intro h k hk
   rcases k with _|k
   ·rfl
   ·have hw:w64 (((k+1:Nat):Int) - 1)=(k:Int):=by
     have:=wr (n:=((k+1:Nat):Int) - 1) (by omega)
     show IntKind.i64.wrap _=_
     rw [this]
     omega
    rw [hw,Int.toNat_natCast,decide_eq_true (h k hk),Bool.or_true]
 rw [hstep]
 constructor
 ·intro h
  rw [List.pairwise_iff_getElem]
  have hmono:∀ (d a:Nat),a+d+1<l.length->(l.getD a Resize.zero).job<(l.getD (a+d+1) Resize.zero).job:=by
   intro d
   induction d with
   | zero=>intro a ha;exact h a ha
   | succ d ih =>
    intro a ha
    have h1:=ih a (by omega)
    have h2:=h (a+d+1) (by omega)
    have:a+(d+1)+1=a+d+1+1:=by omega
    rw [this]
    omega
  intro a b ha hb hab
  have:=hmono (b - a - 1) a (by omega)
  have e2:a+(b - a - 1)+1=b:=by omega
  rw [e2] at this
  have g1:l.getD a Resize.zero=l[a]:=by rw [List.getD,List.getElem?_eq_getElem ha];rfl
  have g2:l.getD b Resize.zero=l[b]:=by rw [List.getD,List.getElem?_eq_getElem hb];rfl
  rw [g1,g2] at this
  exact this
 ·intro h k hk
  have:=List.pairwise_iff_getElem.1 h k (k+1) (by omega) hk (by omega)
  have g1:l.getD k Resize.zero=l[k]:=by rw [List.getD,List.getElem?_eq_getElem (by omega)];rfl
  have g2:l.getD (k+1) Resize.zero=l[k+1]:=by rw [List.getD,List.getElem?_eq_getElem hk];rfl
  rw [g1,g2]
  exact this
theorem node_bool (a b c d e f g h:Bool):(bif (((a&&((!b)||(!c)))||(d&&(!b)))||(e&&f)) then false else bif (d||g) then h else true)=true ↔ (a=true->b=true∧c=true)∧(d=true->b=true)∧(e=true->f=false)∧(d=true∨g=true->h=true):=by
 cases a <;> cases b <;> cases c <;> cases d <;> cases e <;> cases f <;> cases g <;> cases h <;> simp
section
variable {s:State}
theorem node_iff (hw:Words s) (hp:s.jobs.Pairwise (fun a b=>a.id<b.id)) (hs:s.resizes.Pairwise (fun a b=>a.job<b.job)) (hl:s.nodes.length<=64) (hh:∀ j ∈ s.jobs,j.state=2->HeldP s j) {k:Nat} (hk:k<s.nodes.length):QB4 s (k:Int)=true ↔ NodeP s k:=by
 unfold QB4
 rw [Int.toNat_natCast,node_bool,runs_iff hp,rof_has hs hw.nodes _ (by omega:k<64)]
 simp only [beq_iff_eq,decide_eq_false_iff_not]
 constructor
 ·rintro ⟨h1,h2,h3,h4⟩
  exact ⟨fun h=>h.elim (fun h=>(h1 h).1) h2,h4,fun h=>by have:=h3 h;omega⟩
 ·rintro ⟨h1,h2,h3⟩
  refine ⟨fun h=>?_,fun h=>h1 (.inr h),fun h=>by have:=h3 h;omega,h2⟩
  obtain ⟨j,hj,hst,e⟩:=h1 (.inl h)
  refine ⟨⟨j,hj,hst,e⟩,?_⟩
  rw [← e,QO9 hp hj,if_pos hst]
  show QY1 j.nodes (k:Int)=true
  rw [QY9 (hw.jobs j hj) (by omega),hh j hj hst k]
  exact ⟨hk,e.symm,h⟩
theorem res_run (hw:Words s) (hf:Q60 s.nodes=0) (hp:s.jobs.Pairwise (fun a b=>a.id<b.id)) (hjc:∀ x ∈ s.jobs,QQ0 x=0) (hh:∀ j ∈ s.jobs,j.state=2->HeldP s j) {r:Resize} (hr:r ∈ s.resizes) :
  QI1 s r=true ↔ ∃ j ∈ s.jobs,j.state=2∧j.id=r.job∧ResP s r j:=by
 have hl:s.nodes.length<=64:=by have:=(Q19 hf).1;omega
 have key:∀ j ∈ s.jobs,j.state=2->j.id=r.job->(QI1 s r=true ↔ ResP s r j):=by
  intro j hj hst e
  have hrun:QV0 s r.job=(j,true):=by rw [← e,QO9 hp hj,if_pos hst]
  rw [← resize_eq s r j (hw.nodes r hr) (hw.said r hr) (hw.jobs j hj) hf hrun (hjc j hj) fun k=>by rw [← e];exact hh j hj hst k]
  exact prog_iff s r j (hw.nodes r hr) (hw.said r hr) (hw.jobs j hj) hf hl
 constructor
 ·intro h
  have hrun:(QV0 s r.job).2=true:=by
   cases hq:(QV0 s r.job).2 with
   | true=>rfl
   | false =>
    unfold QI1 at h
    rw [hq] at h
    cases h
  obtain ⟨j,hj,hst,e⟩:=(runs_iff hp _).1 hrun
  exact ⟨j,hj,hst,e,(key j hj hst e).1 h⟩
 ·rintro ⟨j,hj,hst,e,h⟩
  exact (key j hj hst e).2 h
theorem Qwd (hw:Words s):Qd0 s=0 ↔ Good s:=by
 have hmain:QW1 s=0->(Qd0 s=0 ↔ Good s):=by
  intro hpl
  obtain ⟨hf,ht⟩:=QK3 hpl
  obtain ⟨_,hjc,hp⟩:=Qj3 ht
  have hl:s.nodes.length<=64:=by have:=(Q19 hf).1;omega
  have hrl:s.resizes.length<=4294967296:=hw.sz.2.2.2.1
  rw [QCd hw,(QC8 (s:=s) (by rw [← plan_eq s hw.sz hw.jobs];exact hpl)).1]
  have hheld:(∀ k,k<s.jobs.length->heldR s k=true) ↔ ∀ j ∈ s.jobs,j.state=2->HeldP s j:=by
   unfold heldR
   constructor
   ·intro h j hj hst
    obtain ⟨k,hk,e⟩:=Qzd Job.zero hj
    have:=h k hk
    rw [e,hst] at this
    exact (held_bits hf (hw.jobs j hj)).1 (by simpa using this)
   ·intro h k hk
    cases hst:((s.jobs.getD k Job.zero).state != 2) with
    | true=>rfl
    | false =>
     have hst:(s.jobs.getD k Job.zero).state=2:=by simpa using hst
     rw [(held_bits hf (hw.jobs _ (QE5 hk))).2 (h _ (QE5 hk) hst)]
     simp
  rw [hheld]
  have hrz:(∀ k,k<s.resizes.length->rzR s k=true) ↔ (∀ k,k<s.resizes.length->QI1 s (s.resizes.getD k Resize.zero)=true)∧s.resizes.Pairwise (fun a b=>a.job<b.job):=by
   rw [← pw_iff hrl]
   unfold rzR
   simp only [Bool.and_eq_true]
   exact ⟨fun h=>⟨fun k hk=>(h k hk).1,fun k hk=>(h k hk).2⟩,fun h k hk=>⟨h.1 k hk,h.2 k hk⟩⟩
  rw [hrz]
  constructor
  ·rintro ⟨⟨h1,h2⟩,⟨h3,h4⟩,h5,h6⟩
   refine ⟨hpl,h1,h2,h4,fun r hr=>?_,fun k hk=>(node_iff hw hp h4 hl h6 hk).1 (h5 k hk),h6⟩
   obtain ⟨k,hk,e⟩:=Qzd Resize.zero hr
   exact (res_run hw hf hp hjc h6 hr).1 (e ▸ h3 k hk)
  ·intro g
   exact ⟨⟨g.nextJ,g.nextB⟩,⟨fun k hk=>(res_run hw hf hp hjc g.held (QE5 hk)).2 (g.res _ (QE5 hk)),g.sorted⟩,fun k hk=>(node_iff hw hp g.sorted hl g.held hk).2 (g.node k hk),g.held⟩
 constructor
 ·exact fun h=>(hmain (QRd h).1).1 h
 ·exact fun h=>(hmain h.plan).2 h
end
theorem QY5 {l:List Node} (h:Q60 l=0):(1<=l.length∧l.length<=48) ∧ ∀ x ∈ l,QO0 x=true:=by
 unfold Q60 at h
 cases h1:(((decide ((l.length:Int)<1))||(decide ((l.length:Int) > 48)))||(QW0 l (fun (y:Node)=>(!(QO0 y))))) with
 | true=>rw [h1] at h;cases h
 | false =>
  obtain ⟨h2,h3⟩:=or_f h1
  have hl:=of_decide_eq_false (or_f h2).2
  have hl1:=of_decide_eq_false (or_f h2).1
  rw [Qtd] at h3
  refine ⟨by omega,fun x hx=>?_⟩
  have:=List.any_eq_false.1 h3 x hx
  simpa using this
theorem whole_fleet {l:List Node} (h1:1<=l.length∧l.length<=48) (h2:∀ x ∈ l,QO0 x=true):Q60 l=0:=by
 unfold Q60
 have e:QW0 l (fun (y:Node)=>(!(QO0 y)))=false:=by
  rw [Qtd]
  exact List.any_eq_false.2 fun x hx=>by rw [h2 x hx];simp
 rw [e,decide_eq_false (by omega),decide_eq_false (by omega)]
 rfl
def turnP (p:Nat->Bool) (f:Node->Node) (l:List Node):List Node:=l.mapIdx fun k x=>bif p k then f x else x
theorem Qn1 (p:Nat->Bool) (f:Node->Node) (l:List Node):(turnP p f l).length=l.length:=by simp [turnP]
theorem Q92 (p:Nat->Bool) (f:Node->Node) {l:List Node} {k:Nat} (h:k<l.length):(turnP p f l).getD k Node.zero=bif p k then f (l.getD k Node.zero) else l.getD k Node.zero:=by
 have h':k<(turnP p f l).length:=by rw [Qn1];exact h
 rw [List.getD,List.getElem?_eq_getElem h',List.getD,List.getElem?_eq_getElem h]
 simp [turnP]
theorem Qqb {a b:List Node} (hl:a.length=b.length) (h:∀ k,k<b.length->a.getD k Node.zero=b.getD k Node.zero):a=b:=by
 refine List.ext_getElem hl fun k h1 h2=>?_
 have:=h k h2
 rw [List.getD,List.getElem?_eq_getElem h1,List.getD,List.getElem?_eq_getElem h2] at this
 exact this
theorem turnP_none (f:Node->Node) (l:List Node):turnP (fun _=>false) f l=l:=by
 refine Qqb (Qn1 _ _ _) fun k hk=>?_
 rw [Q92 _ _ hk]
 rfl
theorem QHa {p q:Nat->Bool} (f:Node->Node) {l:List Node} (h:∀ k,k<l.length->p k=q k):turnP p f l=turnP q f l:=by
 refine Qqb (by rw [Qn1,Qn1]) fun k hk=>?_
 rw [Qn1] at hk
 rw [Q92 _ _ hk,Q92 _ _ hk,h k hk]
theorem turnP_set {p:Nat->Bool} {f:Node->Node} {l:List Node} {k:Nat} (hk:k<l.length) (hp:p k=false):(turnP p f l).set k (f (l.getD k Node.zero))=turnP (fun j=>p j||(j==k)) f l:=by
 refine Qqb (by rw [List.length_set,Qn1,Qn1]) fun j hj=>?_
 rw [Qn1] at hj
 rw [Q92 _ _ hj]
 by_cases e:k=j
 ·subst e
  rw [List.getD,List.getElem?_set_self (by rw [Qn1];exact hk)]
  simp
 ·rw [List.getD,List.getElem?_set_ne e,← List.getD,Q92 _ _ hj]
  have:(j==k)=false:=by simpa using Ne.symm e
  rw [this,Bool.or_false]
theorem turnP_fine {p:Nat->Bool} {f:Node->Node} {l:List Node} (hc:Q60 l=0) (h:∀ k,k<l.length->p k=true->QO0 (f (l.getD k Node.zero))=true):Q60 (turnP p f l)=0:=by
 obtain ⟨h1,h2⟩:=QY5 hc
 refine whole_fleet (by rw [Qn1];exact h1) fun x hx=>?_
 obtain ⟨k,hk,rfl⟩:=Qzd Node.zero hx
 rw [Qn1] at hk
 rw [Q92 _ _ hk]
 cases hp:p k with
 | true=>exact h k hk hp
 | false=>exact h2 _ (QE5 hk)
section
variable {act job now:Int}
theorem do_ok {c:List Node} {k:Nat} (hc:Q60 c=0) (hk:k<c.length) (ht:QX2 now=true) (hm:QG4 (c.getD k Node.zero) act job=true) :
  Qm3 c (k:Int) act job now=(c.set k (Qg0 (c.getD k Node.zero) act job now),0):=by
 unfold Qm3
 rw [hc,decide_eq_false (show ¬ (k:Int)<0 by omega),decide_eq_false (show ¬ (k:Int) >= (c.length:Int) by omega),ht,Int.toNat_natCast,hm]
 rfl
theorem each_go {l:List Node} (S:Int) (hc:Q60 l=0) (ht:QX2 now=true):∀ (r:List Nat) (i:Nat) (p:Nat->Bool),r.Nodup->(∀ k ∈ r,k<l.length∧p k=false∧QG4 (l.getD k Node.zero) act job=true∧QO0 (Qg0 (l.getD k Node.zero) act job now)=true) ->
  Q60 (turnP p (fun x=>Qg0 x act job now) l)=0 ->
  ∃ q:Nat->Bool,(∀ k,q k=(p k||decide (k ∈ r)))∧Q60 (turnP q (fun x=>Qg0 x act job now) l)=0 ∧
   Qi2 S act job now (r.map fun (k:Nat)=>(k:Int)) i (turnP p (fun x=>Qg0 x act job now) l)=(turnP q (fun x=>Qg0 x act job now) l,bif Qd4 act then Q55 (turnP q (fun x=>Qg0 x act job now) l) (Q50 S) else [],0)
 | [],i,p,_,_,hpc=>by
  refine ⟨p,fun k=>by simp,hpc,?_⟩
  rw [List.map_nil,Qi2]
  cases Qd4 act <;> rfl
 | k :: r,i,p,hnd,h,hpc=>by
  obtain ⟨hk,hp,hm,hf⟩:=h k (List.mem_cons_self ..)
  obtain ⟨hkr,hnd'⟩:=List.nodup_cons.1 hnd
  have hg:(turnP p (fun x=>Qg0 x act job now) l).getD k Node.zero=l.getD k Node.zero:=by rw [Q92 _ _ hk,hp];rfl
  have hdo:=do_ok (c:=turnP p (fun x=>Qg0 x act job now) l) (k:=k) hpc (by rw [Qn1];exact hk) ht (by rw [hg];exact hm)
  rw [hg,turnP_set (f:=fun x=>Qg0 x act job now) hk hp] at hdo
  have hpc':Q60 (turnP (fun j=>p j||(j==k)) (fun x=>Qg0 x act job now) l)=0:=by
   refine turnP_fine hc fun j hj hpj=>?_
   rcases Bool.or_eq_true_iff.1 hpj with hpj|hpj
   ·have:=(QY5 hpc).2 _ (QE5 (d:=Node.zero) (show j<(turnP p (fun x=>Qg0 x act job now) l).length by rw [Qn1];exact hj))
    rw [Q92 _ _ hj,hpj] at this
    exact this
   ·rw [eq_of_beq hpj];exact hf
  obtain ⟨q,hq,hqc,e⟩:=each_go S hc ht r (i+1) (fun j=>p j||(j==k)) hnd' (fun j hj=>by
   obtain ⟨a,b,c⟩:=h j (List.mem_cons_of_mem _ hj)
   have:(j==k)=false:=by simp;rintro rfl;exact hkr hj
   exact ⟨a,by rw [b,this];rfl,c⟩) hpc'
  refine ⟨q,fun j=>by rw [hq];show ((p j||decide (j=k))||decide (j ∈ r))=_;simp [Bool.or_assoc],hqc,?_⟩
  rw [List.map_cons,Qi2,hdo]
  exact e
theorem Qlb {s:Int} (hs:U64 s):Q50 s=((List.range' 0 64).filter (tb s)).map fun (k:Nat)=>(k:Int):=by
 unfold Q50 Qm2
 rw [list_go hs _ [] 0 (by omega) (by omega)]
 simp
theorem each_ok {l:List Node} {S:Int} (hs:U64 S) (hc:Q60 l=0) (ht:QX2 now=true)
  (hm:∀ k,k<64->tb S k=true->k<l.length∧QG4 (l.getD k Node.zero) act job=true∧QO0 (Qg0 (l.getD k Node.zero) act job now)=true) :
  Qq0 l S act job now=(turnP (tb S) (fun x=>Qg0 x act job now) l,bif Qd4 act then Q55 (turnP (tb S) (fun x=>Qg0 x act job now) l) (Q50 S) else [],0)∧Q60 (turnP (tb S) (fun x=>Qg0 x act job now) l)=0:=by
 obtain ⟨q,hq,hqc,e⟩:=each_go (act:=act) (job:=job) (now:=now) S hc ht ((List.range' 0 64).filter (tb S)) 0 (fun _=>false) ((List.nodup_range' (step:=1)).filter _) (fun k hk=>by
  simp only [List.mem_filter,List.mem_range'_1] at hk
  obtain ⟨a,b,c⟩:=hm k (by omega) hk.2
  exact ⟨a,rfl,b,c⟩) (by rw [turnP_none];exact hc)
 have e2:turnP q (fun x=>Qg0 x act job now) l=turnP (tb S) (fun x=>Qg0 x act job now) l:=by
  refine QHa _ fun k hk=>?_
  have hl:=(QY5 hc).1
  rw [hq,Bool.eq_iff_iff]
  simp only [Bool.false_or,decide_eq_true_eq,List.mem_filter,List.mem_range'_1]
  exact ⟨fun h=>h.2,fun h=>⟨by omega,h⟩⟩
 rw [turnP_none,← Qlb hs,e2] at e
 rw [e2] at hqc
 refine ⟨?_,hqc⟩
 unfold Qq0
 rw [hc]
 exact e
end
theorem popN_count:∀ (K n:Nat),popN K n=(List.range K).countP (fun k=>n.testBit k)
 | 0,_=>rfl
 | K+1,n=>by
  rw [popN,List.range_succ_eq_map,List.countP_cons,List.countP_map,popN_count K (n / 2)]
  have e:((fun k=>n.testBit k) ∘ Nat.succ)=fun k=>(n / 2).testBit k:=by
   funext k
   simp [Nat.testBit_succ]
  rw [e,Nat.testBit_zero]
  rcases Nat.mod_two_eq_zero_or_one n with h|h <;> simp [h,Nat.add_comm]
theorem Qk5 {s:Int} (hs:U64 s):Q30 s=(((List.range 64).countP (tb s):Nat):Int):=by
 rw [count_eq hs,popN_count]
 rfl
theorem QWd {p q:Nat->Bool}:∀ (l:List Nat),(∀ k ∈ l,p k=true->q k=false)->l.countP (fun k=>p k||q k)=l.countP p+l.countP q
 | [],_=>rfl
 | x :: l,h=>by
  rw [List.countP_cons,List.countP_cons,List.countP_cons,QWd l fun k hk=>h k (List.mem_cons_of_mem _ hk)]
  have:=h x (List.mem_cons_self ..)
  cases hp:p x <;> cases hq:q x <;> simp_all <;> omega
theorem count_or {x y:Int} (hx:U64 x) (hy:U64 y) (h:∀ k,k<64->tb x k=true->tb y k=false):Q30 (wu64 (BitVec.ofInt 64 x ||| BitVec.ofInt 64 y).toNat)=Q30 x+Q30 y:=by
 rw [Qk5 (Qc4 _),Qk5 hx,Qk5 hy,← Int.natCast_add,← QWd _ fun k hk=>h k (List.mem_range.1 hk)]
 congr 2
 funext k
 exact tb_or hx hy k
theorem count_andnot {x y:Int} (hx:U64 x) (hy:U64 y) (h:∀ k,k<64->tb y k=true->tb x k=true):Q30 (wu64 (BitVec.ofInt 64 x &&& ~~~(BitVec.ofInt 64 y)).toNat)=Q30 x - Q30 y:=by
 have e:=QWd (p:=fun k=>tb x k && !tb y k) (q:=tb y) (List.range 64) (fun k _ hk=>by
  have:tb x k=true∧tb y k=false:=by simpa using hk
  exact this.2)
 have e2:(List.range 64).countP (fun k=>(tb x k && !tb y k)||tb y k)=(List.range 64).countP (tb x):=by
  refine List.countP_congr fun k hk=>?_
  have:=h k (List.mem_range.1 hk)
  cases hy:tb y k with
  | true=>simp [this hy]
  | false=>simp
 rw [Qk5 (Qc4 _),Qk5 hx,Qk5 hy,← e2,e]
 have e3:(tb (wu64 (BitVec.ofInt 64 x &&& ~~~(BitVec.ofInt 64 y)).toNat))=fun k=>tb x k && !tb y k:=funext fun k=>QO3 hx hy k
 rw [e3]
 omega
theorem QUa {x:Int} (hx:U64 x):0<=Q30 x∧Q30 x<=64:=by
 rw [Qk5 hx]
 have:=List.countP_le_length (p:=tb x) (l:=List.range 64)
 simp at this
 omega
theorem of_one {k:Nat} (hk:k<64):(Qz0 ([(k:Int)]:List Int)).1=(2:Int) ^ k:=by
 unfold Qz0
 rw [Q33,decide_eq_false (show ¬ (k:Int)<0 by omega),decide_eq_false (show ¬ (k:Int) >= 64 by omega),and_one .zero hk,QL8]
 show (wu64 (BitVec.ofInt 64 0 ||| BitVec.ofInt 64 (Qz1 (k:Int))).toNat)=_
 rw [Qd6 hk]
 refine QYc (Qc4 _) (pow_U hk) fun j _=>?_
 rw [tb_or .zero (pow_U hk),QL8,Bool.false_or]
theorem QQb {k:Nat} (hk:k<64):U64 (Qz0 ([(k:Int)]:List Int)).1 ∧ ∀ j,tb (Qz0 ([(k:Int)]:List Int)).1 j=decide (k=j):=by
 rw [of_one hk]
 exact ⟨pow_U hk,tb_pow k⟩
theorem rs_go (l:List Resize) (id:Int) (hl:l.length<=4294967296) (hs:l.Pairwise (fun a b=>a.job<b.job)) (hb:∀ r ∈ l,1<=r.job∧r.job<=99999) (hid:1<=id∧id<=99999):∀ (m:Nat) (i j:Int),Int.toNat (j - i)<m->0<=i->i<=j->j<=(l.length:Int) ->
  (∀ k:Nat,(k:Int)<i->(l.getD k Resize.zero).job<id)->(∀ k:Nat,j<=(k:Int)->k<l.length->id<=(l.getD k Resize.zero).job) ->
  ∃ p:Nat,(Qc0 l id bsrF m i j).1=(p:Int)∧p<=l.length∧(∀ k,k<p->(l.getD k Resize.zero).job<id) ∧ ∀ k,p<=k->k<l.length->id<=(l.getD k Resize.zero).job
 | 0,i,j,hm,_,_,_,_,_=>absurd hm (by omega)
 | m+1,i,j,hm,h0,h1,h2,h3,h4=>by
  rw [Qc0]
  cases hd:decide (i<j) with
  | false =>
   have:=of_decide_eq_false hd
   obtain ⟨q,rfl⟩:∃ q:Nat,i=(q:Int):=⟨i.toNat,by omega⟩
   exact ⟨q,rfl,by omega,fun k hk=>h3 k (by omega),fun k hk hk2=>h4 k (by omega) hk2⟩
  | true =>
   have hlt:=of_decide_eq_true hd
   rw [Qb9 h0 hlt h2 (by omega)]
   simp only [cond_true]
   obtain ⟨q,hq⟩:∃ q:Nat,(i+j) / 2=(q:Int):=⟨((i+j) / 2).toNat,by omega⟩
   rw [hq,Int.toNat_natCast]
   have hql:q<l.length:=by omega
   have hqb:=hb _ (QE5 (d:=Resize.zero) hql)
   have hw:bsrF (l.getD q Resize.zero) id=(l.getD q Resize.zero).job - id:=wr (by omega)
   rw [hw]
   have mono:∀ a b:Nat,a<b->b<l.length->(l.getD a Resize.zero).job<(l.getD b Resize.zero).job:=by
    intro a b hab hbl
    have:=List.pairwise_iff_getElem.1 hs a b (by omega) hbl hab
    rw [List.getD,List.getElem?_eq_getElem (show a<l.length by omega),List.getD,List.getElem?_eq_getElem hbl]
    exact this
   cases hc:decide ((l.getD q Resize.zero).job - id<0) with
   | true =>
    have hc':=of_decide_eq_true hc
    have hw2:w64 ((q:Int)+1)=(q:Int)+1:=wr (by omega)
    simp only [cond_true]
    rw [hw2]
    refine rs_go l id hl hs hb hid m _ _ (by omega) (by omega) (by omega) h2 (fun k hk=>?_) h4
    rcases Nat.lt_or_ge k q with h|h
    ·have:=mono k q h hql;omega
    ·obtain rfl:k=q:=by omega
     omega
   | false =>
    have hc':=of_decide_eq_false hc
    simp only [cond_false]
    refine rs_go l id hl hs hb hid m _ _ (by omega) h0 (by omega) (by omega) h3 (fun k hk hk2=>?_)
    rcases Nat.lt_or_ge q k with h|h
    ·have:=mono q k h hk2;omega
    ·obtain rfl:k=q:=by omega
     omega
theorem place_iff (l:List Resize) (id:Int) (hl:l.length<=4294967296) (hs:l.Pairwise (fun a b=>a.job<b.job)) (hb:∀ r ∈ l,1<=r.job∧r.job<=99999) (hid:1<=id∧id<=99999) :
  ∃ p:Nat,(Q00 l id bsrF).1=(p:Int)∧p<=l.length∧(∀ k,k<p->(l.getD k Resize.zero).job<id)∧(∀ k,p<=k->k<l.length->id<=(l.getD k Resize.zero).job)∧((Q00 l id bsrF).2=true ↔ p<l.length∧(l.getD p Resize.zero).job=id):=by
 obtain ⟨p,h1,h2,h3,h4⟩:=rs_go l id hl hs hb hid ((Int.toNat ((l.length:Int) - 0))+1) 0 (l.length:Int) (by omega) (by omega) (by omega) (by omega) (fun k hk=>absurd hk (by omega)) (fun k hk hk2=>absurd hk2 (by omega))
 refine ⟨p,h1,h2,h3,h4,?_⟩
 unfold Q00 Qw0
 simp only
 rw [h1,Int.toNat_natCast,Bool.and_eq_true,decide_eq_true_eq,beq_iff_eq]
 constructor
 ·rintro ⟨a,b⟩
  have hp:p<l.length:=by omega
  have hqb:=hb _ (QE5 (d:=Resize.zero) hp)
  have hw:bsrF (l.getD p Resize.zero) id=(l.getD p Resize.zero).job - id:=wr (by omega)
  rw [hw] at b
  exact ⟨hp,by omega⟩
 ·rintro ⟨a,b⟩
  refine ⟨by omega,?_⟩
  have hw:bsrF (l.getD p Resize.zero) id=(l.getD p Resize.zero).job - id:=wr (by omega)
  rw [hw]
  omega
theorem Qn8 (x:Node):QO0 x=true ↔ (0<=x.epoch∧x.epoch<=999999999)∧(0<=x.since∧x.since<=1000000)∧(0<=x.asked∧x.asked<=1000000) ∧
  ((x.state=0∧x.job=0∧x.want=0)∨(x.state=1∧(1<=x.job∧x.job<=99999)∧(x.want=0∨x.want=1∨x.want=3∨x.want=4))∨(x.state=2∧(1<=x.job∧x.job<=99999)∧(x.want=0∨x.want=2))∨(x.state=3∧(1<=x.job∧x.job<=99999)∧x.want=5)∨(x.state=4∧x.job=0∧(x.want=0∨x.want=6))):=by
 unfold QO0
 simp only [Qyc,QX2,List.any_cons,List.any_nil]
 obtain ⟨st,jb,ep,dr,wa,si,as_⟩:=x
 dsimp only
 by_cases h0:st=0
 ·subst h0;grind
 by_cases h1:st=1
 ·subst h1;grind
 by_cases h2:st=2
 ·subst h2;grind
 by_cases h3:st=3
 ·subst h3;grind
 by_cases h4:st=4
 ·subst h4;grind
 grind
theorem act4 (x:Node) (now:Int):Qg0 x 4 0 now={ x with want:=0 }∧(QG4 x 4 0=true ↔ x.state=1∨x.state=2):=by
 refine ⟨rfl,?_⟩
 show ((x.state==1)||(x.state==2))=true ↔ _
 simp
theorem act7 (x:Node) (now:Int):Qg0 x 7 0 now=(⟨3,x.job,x.epoch,x.drain,5,now,now⟩:Node)∧(QG4 x 7 0=true ↔ x.state=1∨x.state=2):=by
 refine ⟨rfl,?_⟩
 show ((x.state==1)||(x.state==2))=true ↔ _
 simp
theorem act6 (x:Node) (now:Int):Qg0 x 6 0 now={ x with want:=0 }∧(QG4 x 6 0=true ↔ x.state=1∧x.want=4):=by
 refine ⟨rfl,?_⟩
 show ((x.state==1)&&(x.want==4))=true ↔ _
 simp
theorem act3 (x:Node) (now:Int):Qg0 x 3 0 now=(⟨1,x.job,x.epoch,x.drain,3,now,now⟩:Node)∧(QG4 x 3 0=true ↔ x.state=2):=by
 refine ⟨rfl,?_⟩
 show (x.state==2)=true ↔ _
 simp
section
variable {s:State}
theorem good_now (g:Good s):0<=s.now∧s.now<=1000000:=by
 have h:=g.plan
 unfold QW1 at h
 cases h1:(QZ1 s != 0) with
 | true=>rw [h1] at h;cases h
 | false =>
  have hr:QZ1 s=0:=by simpa using h1
  unfold QZ1 at hr
  cases h2:(((((decide (s.now<0))||(decide (s.now > 1000000)))||((Q60 s.nodes)!=0))||((Qf1 s.jobs)!=0))||((Qi5 s.books)!=0)) with
  | true=>rw [h2] at hr;cases hr
  | false =>
   have h3:=(or_f (or_f (or_f h2).1).1).1
   simp only [Bool.or_eq_false_iff,decide_eq_false_iff_not] at h3
   omega
theorem Q5e (g:Good s):QX2 s.now=true:=by
 have:=good_now g
 unfold QX2
 simp;omega
theorem QR3 (g:Good s):Q60 s.nodes=0:=(QK3 g.plan).1
theorem Qn5 (g:Good s):Qf1 s.jobs=0:=(QK3 g.plan).2
theorem Q4b (g:Good s):s.nodes.length<=48:=(QY5 (QR3 g)).1.2
theorem good_fine (g:Good s) {k:Nat} (hk:k<s.nodes.length):QO0 (s.nodes.getD k Node.zero)=true:=(QY5 (QR3 g)).2 _ (QE5 hk)
theorem QH9 (g:Good s) {j:Job} (hj:j ∈ s.jobs):QQ0 j=0:=(Qj3 (Qn5 g)).2.1 j hj
theorem Q5b (g:Good s):∀ r ∈ s.resizes,1<=r.job∧r.job<=99999:=fun r hr=>by
 obtain ⟨j,hj,_,e,_⟩:=g.res r hr
 rw [← e]
 exact Q17 (QH9 g hj)
theorem job_nodes_iff {x:Int} (hx:U64 x):QF5 x=true ↔ ∀ k,k<64->tb x k=true->k<48:=by
 unfold QF5
 obtain ⟨u,b⟩:=QP8 (n:=48) (by decide)
 rw [show QS2 48=QS2 ((48:Nat):Int) from rfl,Qg8 hx u]
 exact ⟨fun h k hk hb=>by have:=h k hk hb;rw [b] at this;exact of_decide_eq_true this,fun h k hk hb=>by rw [b];exact decide_eq_true (h k hk hb)⟩
structure RzAt (s:State) (r:Resize) (j:Job):Prop where
 g:Good s
 u:WU s
 hr:r ∈ s.resizes
 hj:j ∈ s.jobs
 st:j.state=2
 id:j.id=r.job
 res:ResP s r j
section
variable {r:Resize} {j:Job} (a:RzAt s r j)
include a
theorem RzAt.un:U64 r.nodes:=(a.u.2 r a.hr).1
theorem RzAt.us:U64 r.said:=(a.u.2 r a.hr).2
theorem RzAt.uj:U64 j.nodes:=a.u.1 j a.hj
theorem RzAt.node {k:Nat} (hk:k<64) (h:tb r.nodes k=true):k<s.nodes.length∧(s.nodes.getD k Node.zero).job=r.job∧(s.nodes.getD k Node.zero).state=(if r.grow=true then 2 else 1):=by
 obtain ⟨_,_,_,R⟩:=a.res
 cases hg:r.grow with
 | true =>
  rw [if_pos hg] at R
  simpa using (R.2.1 k hk).1 h
 | false =>
  rw [if_neg (by rw [hg];simp)] at R
  have:=(a.g.held j a.hj a.st k).1 (R.2.1 k hk h)
  rw [a.id] at this
  simpa using this
theorem RzAt.asked {k:Nat} (hk:k<64) (h:tb r.nodes k=true) (h':tb r.said k=false):(s.nodes.getD k Node.zero).want=(if r.grow=true then 2 else 4):=by
 obtain ⟨_,_,_,R⟩:=a.res
 cases hg:r.grow with
 | true =>
  rw [if_pos hg] at R
  simpa using ((R.1 k hk).2 ⟨h,h'⟩).2.2
 | false =>
  rw [if_neg (by rw [hg];simp)] at R
  simpa using ((R.1 k hk).2 ⟨h,h'⟩).2.2
theorem RzAt.state {k:Nat} (hk:k<64) (h:tb r.nodes k=true):(s.nodes.getD k Node.zero).state=1∨(s.nodes.getD k Node.zero).state=2:=by
 have:=(a.node hk h).2.2
 split at this
 ·exact .inr this
 ·exact .inl this
theorem RzAt.settle {k:Nat} (hk:k<64) (h:tb r.nodes k=true):Qq0 s.nodes (Qz0 ([(k:Int)]:List Int)).1 4 0 s.now=(turnP (fun i=>decide (k=i)) (fun x=>{ x with want:=0 }) s.nodes,[],0)∧Q60 (turnP (fun i=>decide (k=i)) (fun x=>{ x with want:=0 }) s.nodes)=0:=by
 obtain ⟨u,b⟩:=QQb hk
 have e:=each_ok (act:=4) (job:=0) (now:=s.now) u (QR3 a.g) (Q5e a.g) (fun i hi hb=>by
  rw [b] at hb
  obtain rfl:=of_decide_eq_true hb
  obtain ⟨h1,h2,_⟩:=a.node hk h
  refine ⟨h1,(act4 _ s.now).2.2 (a.state hk h),?_⟩
  rw [(act4 _ s.now).1,Qn8]
  have hf:=(Qn8 _).1 (good_fine a.g h1)
  have hs:=a.state hk h
  dsimp only
  omega)
 have e2:turnP (tb (Qz0 ([(k:Int)]:List Int)).1) (fun x=>Qg0 x 4 0 s.now) s.nodes=turnP (fun i=>decide (k=i)) (fun x=>{ x with want:=0 }) s.nodes :=
  QHa _ fun i _=>b i
 rw [e2] at e
 exact e
theorem RzAt.all {l:List Node} (hc:Q60 l=0) (hl:l.length=s.nodes.length) (hst:∀ k,k<s.nodes.length->(l.getD k Node.zero).state=(s.nodes.getD k Node.zero).state∧(l.getD k Node.zero).job=(s.nodes.getD k Node.zero).job) (act:Int) (ha:(act=7)∨(act=3∧r.grow=true)) :
  Qq0 l r.nodes act 0 s.now=(turnP (tb r.nodes) (fun x=>Qg0 x act 0 s.now) l,bif Qd4 act then Q55 (turnP (tb r.nodes) (fun x=>Qg0 x act 0 s.now) l) (Q50 r.nodes) else [],0)∧Q60 (turnP (tb r.nodes) (fun x=>Qg0 x act 0 s.now) l)=0:=by
 refine each_ok a.un hc (Q5e a.g) fun k hk hb=>?_
 obtain ⟨h1,h2,h3⟩:=a.node hk hb
 obtain ⟨q1,q2⟩:=hst k h1
 have hs:=a.state hk hb
 have hf:=(Qn8 _).1 ((QY5 hc).2 _ (QE5 (d:=Node.zero) (show k<l.length by omega)))
 have hn:=good_now a.g
 refine ⟨by omega,?_⟩
 rcases ha with rfl|⟨rfl,hg⟩
 ·refine ⟨(act7 _ s.now).2.2 (by rw [q1];exact hs),?_⟩
  rw [(act7 _ s.now).1,Qn8]
  dsimp only
  omega
 ·rw [if_pos hg] at h3
  refine ⟨(act3 _ s.now).2.2 (by rw [q1];exact h3),?_⟩
  rw [(act3 _ s.now).1,Qn8]
  dsimp only
  omega
theorem RzAt.keep (hg:r.grow=false):Qq0 s.nodes (wu64 (BitVec.ofInt 64 r.nodes &&& ~~~(BitVec.ofInt 64 r.said)).toNat) 6 0 s.now=(turnP (fun k=>tb r.nodes k && !tb r.said k) (fun x=>{ x with want:=0 }) s.nodes,[],0)∧Q60 (turnP (fun k=>tb r.nodes k && !tb r.said k) (fun x=>{ x with want:=0 }) s.nodes)=0:=by
 have e:=each_ok (act:=6) (job:=0) (now:=s.now) (Qc4 (BitVec.ofInt 64 r.nodes &&& ~~~(BitVec.ofInt 64 r.said)).toNat) (QR3 a.g) (Q5e a.g) (fun k hk hb=>by
  rw [QO3 a.un a.us] at hb
  have hb:tb r.nodes k=true∧tb r.said k=false:=by simpa using hb
  obtain ⟨h1,h2,h3⟩:=a.node hk hb.1
  have h4:=a.asked hk hb.1 hb.2
  rw [if_neg (by rw [hg];simp)] at h3 h4
  refine ⟨h1,(act6 _ s.now).2.2 ⟨h3,h4⟩,?_⟩
  rw [(act6 _ s.now).1,Qn8]
  have hf:=(Qn8 _).1 (good_fine a.g h1)
  dsimp only
  omega)
 have e2:turnP (tb (wu64 (BitVec.ofInt 64 r.nodes &&& ~~~(BitVec.ofInt 64 r.said)).toNat)) (fun x=>Qg0 x 6 0 s.now) s.nodes=turnP (fun k=>tb r.nodes k && !tb r.said k) (fun x=>{ x with want:=0 }) s.nodes :=
  QHa _ fun i _=>QO3 a.un a.us i
 rw [e2] at e
 exact e
theorem RzAt.kind:j.shape.kind=3:=a.res.1.1
theorem RzAt.range:j.shape.min<=Q30 j.nodes∧Q30 j.nodes<=j.shape.max∧(decide (j.choice<0)||decide (j.choice >= ((Q21 j.shape).length:Int)))=false:=by
 have h:=job_runs (QH9 a.g a.hj) a.st
 unfold Qn2 at h
 cases h1:((decide (j.choice<0))||(decide (j.choice >= ((Q21 j.shape).length:Int)))) with
 | true=>rw [h1] at h;cases h
 | false =>
  rw [h1,a.kind] at h
  have h:(decide (Q30 j.nodes >= j.shape.min)&&decide (Q30 j.nodes<=j.shape.max))=true:=h
  simp only [Bool.and_eq_true,decide_eq_true_eq] at h
  exact ⟨h.1,h.2,rfl⟩
theorem RzAt.bits {k:Nat} (hk:k<64) (h:tb j.nodes k=true∨tb r.nodes k=true):k<48:=by
 have:=Q4b a.g
 rcases h with h|h
 ·have:=((a.g.held j a.hj a.st k).1 h).1;omega
 ·have:=(a.node hk h).1;omega
theorem RzAt.size {x:Int} (hx:U64 x) (h1:∀ k,k<64->tb x k=true->k<48) (h2:j.shape.min<=Q30 x∧Q30 x<=j.shape.max):Qk2 j x=({ j with nodes:=x },0)∧QQ0 { j with nodes:=x }=0:=by
 have hn:=(job_nodes_iff hx).2 h1
 have hA:Qn2 j.shape j.choice (Q30 x)=true:=by
  unfold Qn2
  rw [a.range.2.2,a.kind]
  show (decide (Q30 x >= j.shape.min)&&decide (Q30 x<=j.shape.max))=true
  simp only [Bool.and_eq_true,decide_eq_true_eq]
  exact ⟨h2.1,h2.2⟩
 constructor
 ·unfold Qk2
  rw [QH9 a.g a.hj,hn,hA,a.st]
  rfl
 ·have h:=QH9 a.g a.hj
  unfold QQ0 at h ⊢
  have e1:Qe0 { j with nodes:=x }=Qe0 j:=rfl
  rw [e1]
  dsimp only
  cases hq:((((((decide (j.id<1))||(decide (j.id > 99999)))||(!(Q22 j.born)))||(j.used != (Qw3 j.used)))||((Qn3 (Qe0 j))!=0))||(Qn0 j.after (fun (y:Dep)=>(decide (y.job >= j.id))))) with
  | true=>rw [hq] at h;cases h
  | false =>
   rw [hq,a.st] at h
   rw [a.st]
   have hrun:Qg1 { j with nodes:=x }=true:=by
    have h:(bif (!(Qg1 j)) then (140:Int) else 0)=0:=h
    cases hv:Qg1 j with
    | false=>rw [hv] at h;cases h
    | true =>
     unfold Qg1 at hv ⊢
     have e2:QE0 { j with nodes:=x }=QE0 j:=rfl
     rw [e2]
     dsimp only
     cases hw:(((((((!(QE0 j j.choice).2)||j.held)||(!(Q22 j.start)))||(!(Q22 j.promise)))||(decide (j.promise<j.start)))||(!(Q22 j.limit)))||((w64 (j.limit - j.start))!=(QE0 j j.choice).1.wall)) with
     | true=>rw [hw] at hv;cases hv
     | false =>
      rw [hn,hA]
      rfl
   show (bif (!(Qg1 { j with nodes:=x })) then (140:Int) else 0)=0
   rw [hrun]
   rfl
theorem RzAt.more (hg:r.grow=true):Q30 (wu64 (BitVec.ofInt 64 j.nodes ||| BitVec.ofInt 64 r.nodes).toNat)=Q30 j.nodes+Q30 r.nodes∧Qk2 j (wu64 (BitVec.ofInt 64 j.nodes ||| BitVec.ofInt 64 r.nodes).toNat)=({ j with nodes:=wu64 (BitVec.ofInt 64 j.nodes ||| BitVec.ofInt 64 r.nodes).toNat },0)∧QQ0 { j with nodes:=wu64 (BitVec.ofInt 64 j.nodes ||| BitVec.ofInt 64 r.nodes).toNat }=0:=by
 have hc:=count_or a.uj a.un (fun k hk h=>by
  cases h2:tb r.nodes k with
  | false=>rfl
  | true =>
   have h3:=((a.g.held j a.hj a.st k).1 h).2.2
   have h4:=(a.node hk h2).2.2
   rw [if_pos hg] at h4
   omega)
 refine ⟨hc,a.size (Qc4 _) (fun k hk h=>?_) ?_⟩
 ·rw [tb_or a.uj a.un] at h
  exact a.bits hk (by simpa using h)
 ·obtain ⟨_,_,_,R⟩:=a.res
  rw [if_pos hg] at R
  have h1:=R.2.2
  unfold GrowP at h1
  have h2:=QUa a.uj
  have h3:=QUa a.un
  have h4:=a.range
  rw [w6 (by omega)] at h1
  rw [hc]
  omega
theorem RzAt.less (hg:r.grow=false):Q30 (wu64 (BitVec.ofInt 64 j.nodes &&& ~~~(BitVec.ofInt 64 r.nodes)).toNat)=Q30 j.nodes - Q30 r.nodes∧Qk2 j (wu64 (BitVec.ofInt 64 j.nodes &&& ~~~(BitVec.ofInt 64 r.nodes)).toNat)=({ j with nodes:=wu64 (BitVec.ofInt 64 j.nodes &&& ~~~(BitVec.ofInt 64 r.nodes)).toNat },0)∧QQ0 { j with nodes:=wu64 (BitVec.ofInt 64 j.nodes &&& ~~~(BitVec.ofInt 64 r.nodes)).toNat }=0:=by
 obtain ⟨_,_,_,R⟩:=a.res
 rw [if_neg (by rw [hg];simp)] at R
 have hc:=count_andnot a.uj a.un R.2.1
 refine ⟨hc,a.size (Qc4 _) (fun k hk h=>?_) ?_⟩
 ·rw [QO3 a.uj a.un] at h
  have h:tb j.nodes k=true∧tb r.nodes k=false:=by simpa using h
  exact a.bits hk (.inl h.1)
 ·have h1:=R.2.2
  unfold ShrP at h1
  have h2:=QUa a.uj
  have h3:=QUa a.un
  have h4:=a.range
  rw [w6 (by omega)] at h1
  rw [hc]
  omega
theorem RzAt.find:QK0 s.jobs r.job=(j,true):=by
 obtain ⟨p,hp⟩:=List.getElem?_of_mem a.hj
 rw [← a.id]
 exact table_Find_ok (Qn5 a.g) hp
theorem RzAt.put {x:Int} (h:QQ0 { j with nodes:=x }=0):∃ p,s.jobs[p]? = some j∧Qq4 s.jobs { j with nodes:=x }=(s.jobs.set p { j with nodes:=x },0):=by
 obtain ⟨p,hp⟩:=List.getElem?_of_mem a.hj
 refine ⟨p,hp,?_⟩
 obtain ⟨hn,hj,hs⟩:=Qj3 (Qn5 a.g)
 have hb:∀ y ∈ s.jobs,1<=y.id∧y.id<=99999:=fun y hy=>Q17 (hj y hy)
 have hpl:p<s.jobs.length:=(List.getElem?_eq_some_iff.1 hp).1
 have hpi:(Qk0 s.jobs j.id).1=(p:Int) :=
  QCb s.jobs j.id hn (hb j a.hj) hb (Qz3 hs) p j hp rfl _ 0 (s.jobs.length:Int) (by omega) (by omega) (by omega) (by omega) (by omega) (fun k hk y hy=>absurd (List.getElem?_eq_some_iff.1 hy).1 (by omega))
 have hp2:(Qk0 s.jobs j.id).2=true:=by
  have e:(Qk0 s.jobs j.id).2=((decide ((Qk0 s.jobs j.id).1<(s.jobs.length:Int)))&&((w64 ((s.jobs.getD (Int.toNat (Qk0 s.jobs j.id).1) Job.zero).id - j.id))==0)):=rfl
  rw [e,hpi,Int.toNat_natCast]
  have hg:s.jobs.getD p Job.zero=j:=by simp [List.getD,hp]
  rw [hg,Int.sub_self,decide_eq_true (show (p:Int)<(s.jobs.length:Int) by omega)]
  rfl
 unfold Qq4
 rw [Qn5 a.g,h]
 show (bif (!(Qk0 s.jobs j.id).2) then ([],140) else Qw9 (s.jobs.set (Int.toNat ((Qk0 s.jobs j.id).1)) { j with nodes:=x }))=_
 rw [hp2,hpi]
 rfl
end
end
abbrev rzI (s:State) (id:Int):Nat:=Int.toNat (Q00 s.resizes id bsrF).1
abbrev rzZ (s:State) (id:Int):Resize:=s.resizes.getD (rzI s id) Resize.zero
abbrev rzT (s:State) (n:Note):List Resize:=s.resizes.set (rzI s n.job) { (rzZ s n.job) with said:=(wu64 (BitVec.ofInt 64 (rzZ s n.job).said ||| BitVec.ofInt 64 (Qz0 ([n.node]:List Int)).1).toNat) }
theorem find_sz {l:List Job} (h:∀ y ∈ l,y.sz) (id:Int):(QK0 l id).1.sz:=by
 unfold QK0
 cases (((Qf1 l)!=0)||(!(Q66 id))) with
 | true=>exact Job.szz _
 | false =>
  cases (!(Qk0 l id).2) with
  | true=>exact Job.szz _
  | false=>exact Q74 (p:=Job.sz) (fun y hy=>h y (List.mem_of_mem_take (List.mem_of_mem_drop hy))) (Job.szz _)
theorem size_sz {j:Job} (h:j.sz) (x:Int):(Qk2 j x).1.sz:=by
 unfold Qk2
 cases ((QQ0 j)!=0) with
 | true=>exact Job.szz _
 | false =>
  cases ((j.state==2)&&((!(QF5 x))||(!(Qn2 j.shape j.choice (Q30 x))))) with
  | true=>exact Job.szz _
  | false =>
   cases ((Qbb (j.state==2))!=0) with
   | true=>exact Job.szz _
   | false=>exact h
section
variable {s:State}
theorem rz_good (hz:s.sz) (hu:WU s) (hc:((Qd0 s)!=0)=false):Good s:=(Qwd (hu.words hz)).1 (by simpa using hc)
theorem rz_place (hz:s.sz) (hu:WU s) (hc:((Qd0 s)!=0)=false) {id:Int} (hk:Q41 id=true) :
  ∃ p:Nat,(Q00 s.resizes id bsrF).1=(p:Int)∧p<=s.resizes.length∧(∀ k,k<p->(s.resizes.getD k Resize.zero).job<id)∧(∀ k,p<=k->k<s.resizes.length->id<=(s.resizes.getD k Resize.zero).job)∧((Q00 s.resizes id bsrF).2=true ↔ p<s.resizes.length∧(s.resizes.getD p Resize.zero).job=id):=by
 have g:=rz_good hz hu hc
 unfold Q41 at hk
 simp only [Bool.and_eq_true,decide_eq_true_eq] at hk
 exact place_iff s.resizes id hz.2.2.2.1 g.sorted (Q5b g) (by omega)
theorem rz_at (hz:s.sz) (hu:WU s) (hc:((Qd0 s)!=0)=false) {id:Int} (hk:Q41 id=true) (hb:(Q00 s.resizes id bsrF).2=true) :
  ∃ j,RzAt s (rzZ s id) j∧(rzZ s id).job=id∧rzI s id<s.resizes.length∧(Q00 s.resizes id bsrF).1=((rzI s id:Nat):Int):=by
 have g:=rz_good hz hu hc
 obtain ⟨p,h1,h2,h3,h4,h5⟩:=rz_place hz hu hc hk
 obtain ⟨h6,h7⟩:=h5.1 hb
 have e:rzI s id=p:=by show Int.toNat _=p;rw [h1];rfl
 have hm:rzZ s id ∈ s.resizes:=QE5 (by rw [e];exact h6)
 obtain ⟨j,hj,hst,hid,R⟩:=g.res _ hm
 exact ⟨j,⟨g,hu,hm,hj,hst,hid,R⟩,by show (s.resizes.getD (rzI s id) Resize.zero).job=id;rw [e];exact h7,by rw [e];exact h6,by rw [e];exact h1⟩
theorem rz_T {n:Note} (h:rzI s n.job<s.resizes.length):(rzT s n).getD (rzI s n.job) Resize.zero={ (rzZ s n.job) with said:=(wu64 (BitVec.ofInt 64 (rzZ s n.job).said ||| BitVec.ofInt 64 (Qz0 ([n.node]:List Int)).1).toNat) }:=by
 rw [List.getD,List.getElem?_set_self h]
 rfl
theorem has_iff {x:Int} (hx:U64 x) (n:Int):QP0 x n=true ↔ ∃ k:Nat,n=(k:Int)∧k<64∧tb x k=true:=by
 constructor
 ·intro h
  have h0:0<=n:=by
   unfold QP0 at h
   simp only [Bool.and_eq_true,decide_eq_true_eq] at h
   omega
  obtain ⟨k,rfl⟩:∃ k:Nat,n=(k:Int):=⟨n.toNat,by omega⟩
  rw [Qc6 hx,Bool.and_eq_true,decide_eq_true_eq] at h
  exact ⟨k,rfl,h.1,h.2⟩
 ·rintro ⟨k,rfl,h1,h2⟩
  rw [Qc6 hx,h2,decide_eq_true h1]
  rfl
theorem rz_has {r:Resize} {j:Job} (a:RzAt s r j) {n:Int} (h:QP0 (wu64 (BitVec.ofInt 64 r.nodes &&& ~~~(BitVec.ofInt 64 r.said)).toNat) n=true):∃ k:Nat,n=(k:Int)∧k<64∧tb r.nodes k=true∧tb r.said k=false:=by
 obtain ⟨k,e,hk,hb⟩:=(has_iff (Qc4 _) n).1 h
 rw [QO3 a.un a.us] at hb
 have hb:tb r.nodes k=true∧tb r.said k=false:=by simpa using hb
 exact ⟨k,e,hk,hb.1,hb.2⟩
section
variable {n:Note} (hz:s.sz) (hu:WU s) (hc:((Qd0 s)!=0)=false) (hk:Q41 n.job=true) (hb:(Q00 s.resizes n.job bsrF).2=true)
include hz hu hc hk hb
theorem rz_in {P:Bool} (h:(!(P||(!(QP0 (wu64 (BitVec.ofInt 64 (rzZ s n.job).nodes &&& ~~~(BitVec.ofInt 64 (rzZ s n.job).said)).toNat) n.node))))=true):0<=n.node∧n.node<(s.nodes.length:Int):=by
 obtain ⟨j,a,_⟩:=rz_at hz hu hc hk hb
 have h:QP0 (wu64 (BitVec.ofInt 64 (rzZ s n.job).nodes &&& ~~~(BitVec.ofInt 64 (rzZ s n.job).said)).toNat) n.node=true:=by
  cases hq:QP0 (wu64 (BitVec.ofInt 64 (rzZ s n.job).nodes &&& ~~~(BitVec.ofInt 64 (rzZ s n.job).said)).toNat) n.node with
  | true=>rfl
  | false=>rw [hq] at h;simp at h
 obtain ⟨k,e,h1,h2,_⟩:=rz_has a h
 have:=(a.node h1 h2).1
 omega
theorem QP9 {P C:Bool} (hx:((P||(!(QP0 (wu64 (BitVec.ofInt 64 (rzZ s n.job).nodes &&& ~~~(BitVec.ofInt 64 (rzZ s n.job).said)).toNat) n.node)))||C)=false) :
  ∃ j k,RzAt s (rzZ s n.job) j∧rzI s n.job<s.resizes.length∧n.node=((k:Nat):Int)∧k<64∧tb (rzZ s n.job).nodes k=true∧tb (rzZ s n.job).said k=false:=by
 obtain ⟨j,a,_,hi,_⟩:=rz_at hz hu hc hk hb
 have h:QP0 (wu64 (BitVec.ofInt 64 (rzZ s n.job).nodes &&& ~~~(BitVec.ofInt 64 (rzZ s n.job).said)).toNat) n.node=true:=by
  have:=(or_f (or_f hx).1).2
  simpa using this
 obtain ⟨k,e,h1,h2,h3⟩:=rz_has a h
 exact ⟨j,k,a,hi,e,h1,h2,h3⟩
theorem Qr9 {P C:Bool} (hx:((P||(!(QP0 (wu64 (BitVec.ofInt 64 (rzZ s n.job).nodes &&& ~~~(BitVec.ofInt 64 (rzZ s n.job).said)).toNat) n.node)))||C)=false)
  (h:((Qq0 s.nodes ((Qz0 ([n.node]:List Int)).1) 4 0 s.now).2.2 != 0)=true):False:=by
 obtain ⟨j,k,a,_,e,h1,h2,_⟩:=QP9 hz hu hc hk hb hx
 rw [e,(a.settle h1 h2).1] at h
 cases h
theorem rz_len {P C:Bool} (hx:((P||(!(QP0 (wu64 (BitVec.ofInt 64 (rzZ s n.job).nodes &&& ~~~(BitVec.ofInt 64 (rzZ s n.job).said)).toNat) n.node)))||C)=false) :
  (Qq0 s.nodes ((Qz0 ([n.node]:List Int)).1) 4 0 s.now).1.length<=4294967296:=by
 obtain ⟨j,k,a,_,e,h1,h2,_⟩:=QP9 hz hu hc hk hb hx
 rw [e,(a.settle h1 h2).1]
 show (turnP _ _ _).length<=_
 rw [Qn1]
 exact hz.1
theorem QRe (hg:(rzZ s n.job).grow=true) (h:((Qq0 s.nodes ((rzZ s n.job).nodes) 7 0 s.now).2.2 != 0)=true):False:=by
 obtain ⟨j,a,_⟩:=rz_at hz hu hc hk hb
 rw [(a.all (QR3 a.g) rfl (fun _ _=>⟨rfl,rfl⟩) 7 (.inl rfl)).1] at h
 cases h
theorem QQe (hg:(rzZ s n.job).grow=false) (h:((Qq0 s.nodes (wu64 (BitVec.ofInt 64 (rzZ s n.job).nodes &&& ~~~(BitVec.ofInt 64 (rzZ s n.job).said)).toNat) 6 0 s.now).2.2 != 0)=true):False:=by
 obtain ⟨j,a,_⟩:=rz_at hz hu hc hk hb
 rw [(a.keep hg).1] at h
 cases h
theorem rz_after {P C:Bool} (hx:((P||(!(QP0 (wu64 (BitVec.ofInt 64 (rzZ s n.job).nodes &&& ~~~(BitVec.ofInt 64 (rzZ s n.job).said)).toNat) n.node)))||C)=false) (act:Int) (ha:act=7∨(act=3∧(rzZ s n.job).grow=true)) :
  (Qq0 (Qq0 s.nodes ((Qz0 ([n.node]:List Int)).1) 4 0 s.now).1 (((rzT s n).getD (rzI s n.job) Resize.zero).nodes) act 0 s.now).2.2=0:=by
 obtain ⟨j,k,a,hi,e,h1,h2,_⟩:=QP9 hz hu hc hk hb hx
 rw [rz_T hi,e,(a.settle h1 h2).1]
 have h:=(a.all (a.settle h1 h2).2 (Qn1 _ _ _) (fun i hi=>by
  rw [Q92 _ _ hi]
  cases decide (k=i) <;> exact ⟨rfl,rfl⟩) act ha).1
 rw [h]
theorem QSe {P C:Bool} (hx:((P||(!(QP0 (wu64 (BitVec.ofInt 64 (rzZ s n.job).nodes &&& ~~~(BitVec.ofInt 64 (rzZ s n.job).said)).toNat) n.node)))||C)=false) (hg:((rzT s n).getD (rzI s n.job) Resize.zero).grow=true)
  (h:((Qq0 (Qq0 s.nodes ((Qz0 ([n.node]:List Int)).1) 4 0 s.now).1 (((rzT s n).getD (rzI s n.job) Resize.zero).nodes) 3 0 s.now).2.2 != 0)=true):False:=by
 obtain ⟨j,k,a,hi,_⟩:=QP9 hz hu hc hk hb hx
 rw [rz_after hz hu hc hk hb hx 3 (.inr ⟨rfl,by rw [rz_T hi] at hg;exact hg⟩)] at h
 cases h
theorem Qb8 {P C:Bool} (hx:((P||(!(QP0 (wu64 (BitVec.ofInt 64 (rzZ s n.job).nodes &&& ~~~(BitVec.ofInt 64 (rzZ s n.job).said)).toNat) n.node)))||C)=false) (hg:((rzT s n).getD (rzI s n.job) Resize.zero).grow=false)
  (h:((Qq0 (Qq0 s.nodes ((Qz0 ([n.node]:List Int)).1) 4 0 s.now).1 (((rzT s n).getD (rzI s n.job) Resize.zero).nodes) 7 0 s.now).2.2 != 0)=true):False:=by
 rw [rz_after hz hu hc hk hb hx 7 (.inl rfl)] at h
 cases h
theorem rz_more (hg:((rzT s n).getD (rzI s n.job) Resize.zero).grow=true):∃ j,RzAt s (rzZ s n.job) j∧(rzZ s n.job).grow=true∧rzI s n.job<s.resizes.length ∧
  Qk2 (QK0 s.jobs (((rzT s n).getD (rzI s n.job) Resize.zero).job)).1 (wu64 (BitVec.ofInt 64 (QK0 s.jobs (((rzT s n).getD (rzI s n.job) Resize.zero).job)).1.nodes ||| BitVec.ofInt 64 ((rzT s n).getD (rzI s n.job) Resize.zero).nodes).toNat)=({ j with nodes:=wu64 (BitVec.ofInt 64 j.nodes ||| BitVec.ofInt 64 (rzZ s n.job).nodes).toNat },0):=by
 obtain ⟨j,a,_,hi,_⟩:=rz_at hz hu hc hk hb
 rw [rz_T hi] at hg ⊢
 refine ⟨j,a,hg,hi,?_⟩
 show Qk2 (QK0 s.jobs (rzZ s n.job).job).1 (wu64 (BitVec.ofInt 64 (QK0 s.jobs (rzZ s n.job).job).1.nodes ||| BitVec.ofInt 64 (rzZ s n.job).nodes).toNat)=_
 rw [a.find]
 exact (a.more hg).2.1
theorem rz_less (hg:((rzT s n).getD (rzI s n.job) Resize.zero).grow=false):∃ j,RzAt s (rzZ s n.job) j∧(rzZ s n.job).grow=false∧rzI s n.job<s.resizes.length ∧
  Qk2 (QK0 s.jobs (((rzT s n).getD (rzI s n.job) Resize.zero).job)).1 (wu64 (BitVec.ofInt 64 (QK0 s.jobs (((rzT s n).getD (rzI s n.job) Resize.zero).job)).1.nodes &&& ~~~(BitVec.ofInt 64 ((rzT s n).getD (rzI s n.job) Resize.zero).nodes)).toNat)=({ j with nodes:=wu64 (BitVec.ofInt 64 j.nodes &&& ~~~(BitVec.ofInt 64 (rzZ s n.job).nodes)).toNat },0):=by
 obtain ⟨j,a,_,hi,_⟩:=rz_at hz hu hc hk hb
 rw [rz_T hi] at hg ⊢
 refine ⟨j,a,hg,hi,?_⟩
 show Qk2 (QK0 s.jobs (rzZ s n.job).job).1 (wu64 (BitVec.ofInt 64 (QK0 s.jobs (rzZ s n.job).job).1.nodes &&& ~~~(BitVec.ofInt 64 (rzZ s n.job).nodes)).toNat)=_
 rw [a.find]
 exact (a.less hg).2.1
theorem QTc (hg:((rzT s n).getD (rzI s n.job) Resize.zero).grow=true)
  (h:((Qk2 (QK0 s.jobs (((rzT s n).getD (rzI s n.job) Resize.zero).job)).1 (wu64 (BitVec.ofInt 64 (QK0 s.jobs (((rzT s n).getD (rzI s n.job) Resize.zero).job)).1.nodes ||| BitVec.ofInt 64 ((rzT s n).getD (rzI s n.job) Resize.zero).nodes).toNat)).2 != 0)=true):False:=by
 obtain ⟨j,a,_,_,e⟩:=rz_more hz hu hc hk hb hg
 rw [e] at h
 cases h
theorem QSc (hg:((rzT s n).getD (rzI s n.job) Resize.zero).grow=false)
  (h:((Qk2 (QK0 s.jobs (((rzT s n).getD (rzI s n.job) Resize.zero).job)).1 (wu64 (BitVec.ofInt 64 (QK0 s.jobs (((rzT s n).getD (rzI s n.job) Resize.zero).job)).1.nodes &&& ~~~(BitVec.ofInt 64 ((rzT s n).getD (rzI s n.job) Resize.zero).nodes)).toNat)).2 != 0)=true):False:=by
 obtain ⟨j,a,_,_,e⟩:=rz_less hz hu hc hk hb hg
 rw [e] at h
 cases h
theorem QUe (hg:((rzT s n).getD (rzI s n.job) Resize.zero).grow=true)
  (h:((Qq4 s.jobs (Qk2 (QK0 s.jobs (((rzT s n).getD (rzI s n.job) Resize.zero).job)).1 (wu64 (BitVec.ofInt 64 (QK0 s.jobs (((rzT s n).getD (rzI s n.job) Resize.zero).job)).1.nodes ||| BitVec.ofInt 64 ((rzT s n).getD (rzI s n.job) Resize.zero).nodes).toNat)).1).2 != 0)=true):False:=by
 obtain ⟨j,a,h1,_,e⟩:=rz_more hz hu hc hk hb hg
 obtain ⟨p,_,e2⟩:=a.put (a.more h1).2.2
 rw [e,e2] at h
 cases h
theorem QTe (hg:((rzT s n).getD (rzI s n.job) Resize.zero).grow=false)
  (h:((Qq4 s.jobs (Qk2 (QK0 s.jobs (((rzT s n).getD (rzI s n.job) Resize.zero).job)).1 (wu64 (BitVec.ofInt 64 (QK0 s.jobs (((rzT s n).getD (rzI s n.job) Resize.zero).job)).1.nodes &&& ~~~(BitVec.ofInt 64 ((rzT s n).getD (rzI s n.job) Resize.zero).nodes)).toNat)).1).2 != 0)=true):False:=by
 obtain ⟨j,a,h1,_,e⟩:=rz_less hz hu hc hk hb hg
 obtain ⟨p,_,e2⟩:=a.put (a.less h1).2.2
 rw [e,e2] at h
 cases h
end
end
theorem plan_parts (s:State):QW1 s=0 ↔ (0<=s.now∧s.now<=1000000)∧Q60 s.nodes=0∧Qf1 s.jobs=0∧Qi5 s.books=0∧Qq5 s.ledger=0:=by
 have e:∀ x:Int,x=0 ↔ (x != 0)=false:=fun x=>by simp
 have key:∀ (p q:Bool) (a b c d:Int),((bif (((bif (((((p)||(q))||(a != 0))||(b != 0))||(c != 0)) then (141:Int) else 0)!=0)||(d != 0)) then (141:Int) else 0)=0) ↔ (p=false∧q=false)∧a=0∧b=0∧c=0∧d=0:=by
  intro p q a b c d
  rw [e a,e b,e c,e d]
  generalize (a != 0)=a';generalize (b != 0)=b';generalize (c != 0)=c';generalize (d != 0)=d'
  revert p q a' b' c' d'
  decide
 unfold QW1 QZ1
 rw [key]
 simp only [decide_eq_false_iff_not]
 exact ⟨fun h=>⟨by omega,h.2⟩,fun h=>⟨by omega,h.2⟩⟩
theorem Q0f (l:List Job) (hn:l.length<=40):∀ (r:List Job) (i:Nat),r=l.drop i->i+r.length=l.length ->
  (∀ x ∈ r,QQ0 x=0)->r.Pairwise (fun a b=>a.id<b.id)->(∀ y,0<i->l[i - 1]? = some y -> ∀ x ∈ r,y.id<x.id)->QK2 l r i=0
 | [],i,_,_,_,_,_=>rfl
 | x :: r,i,hr,hlen,h1,h2,h3=>by
  simp only [List.length_cons] at hlen
  have hi:l[i]? = some x:=by
   have:=congrArg (fun q=>q[0]?) hr
   simpa [List.getElem?_drop] using this.symm
  have hr':r=l.drop (i+1):=by rw [← List.drop_drop,← hr];rfl
  have hp:=List.pairwise_cons.1 h2
  have ih:=Q0f l hn r (i+1) hr' (by omega) (fun z hz=>h1 z (List.mem_cons_of_mem _ hz)) hp.2 (fun y _ hy=>by rw [show i+1 - 1=i by omega,hi] at hy;cases hy;exact hp.1)
  rw [QK2,h1 x (List.mem_cons_self ..),w6 (n:=(i:Int) - 1) (by omega),show Int.toNat ((i:Int) - 1)=i - 1 by omega]
  have hc:((decide ((i:Int) > 0))&&(decide ((l.getD (i - 1) Job.zero).id >= x.id)))=false:=by
   rcases Nat.eq_zero_or_pos i with h0|h0
   ·subst h0;rfl
   ·obtain ⟨y,hy⟩:∃ y,l[i - 1]? = some y:=⟨_,List.getElem?_eq_getElem (by omega)⟩
    have hg:l.getD (i - 1) Job.zero=y:=by simp [List.getD,hy]
    have:=h3 y h0 hy x (List.mem_cons_self ..)
    rw [hg,decide_eq_false (show ¬ y.id >= x.id by omega),Bool.and_false]
  rw [hc]
  exact ih
theorem whole_table {l:List Job} (hn:l.length<=40) (h1:∀ x ∈ l,QQ0 x=0) (h2:l.Pairwise (fun a b=>a.id<b.id)):Qf1 l=0:=by
 unfold Qf1
 rw [decide_eq_false (show ¬ (l.length:Int) > 40 by omega)]
 exact Q0f l hn l 0 rfl (by omega) h1 h2 (fun y hy=>absurd hy (by omega))
theorem set_mem {α:Type} {l:List α} {p:Nat} {x y:α} (h:y ∈ l.set p x):y=x ∨ ∃ k,k ≠ p∧l[k]? = some y:=by
 obtain ⟨k,hk⟩:=List.getElem?_of_mem h
 rw [List.getElem?_set] at hk
 by_cases e:p=k
 ·subst e
  rw [if_pos rfl] at hk
  split at hk
  ·exact .inl (by simpa using hk.symm)
  ·cases hk
 ·rw [if_neg e] at hk
  exact .inr ⟨k,Ne.symm e,hk⟩
theorem mem_set_of {α:Type} {l:List α} {p k:Nat} {x y:α} (h:l[k]? = some y) (hk:k ≠ p):y ∈ l.set p x:=by
 refine List.mem_of_getElem? (i:=k) ?_
 rw [List.getElem?_set_ne (Ne.symm hk)]
 exact h
theorem ids_set {l:List Job} {p:Nat} {x y:Job} (h:l[p]? = some x) (e:y.id=x.id):(l.set p y).map (·.id)=l.map (·.id):=by
 rw [List.map_set]
 refine List.ext_getElem? fun k=>?_
 rw [List.getElem?_set]
 by_cases q:p=k
 ·subst q
  have hp:=(List.getElem?_eq_some_iff.1 h).1
  rw [if_pos rfl,if_pos (by simpa using hp),List.getElem?_map,h,e]
  rfl
 ·rw [if_neg q]
theorem Qyd:∀ (l:List Job) (d:Int) (i:Nat),Qu1 l d i=(l.map (·.id)).getLastD d
 | [],_,_=>rfl
 | x :: r,d,i=>by
  rw [Qu1,Qyd r]
  cases r <;> simp [List.getLastD]
theorem pair_ids {l l':List Job} (h:l'.map (·.id)=l.map (·.id)) (hp:l.Pairwise (fun a b=>a.id<b.id)):l'.Pairwise (fun a b=>a.id<b.id):=by
 have h1:(l.map (·.id)).Pairwise (· < ·):=List.pairwise_map.2 hp
 rw [← h] at h1
 exact List.pairwise_map.1 h1
theorem table_set {l:List Job} (h:Qf1 l=0) {p:Nat} {x y:Job} (hp:l[p]? = some x) (e:y.id=x.id) (hy:QQ0 y=0):Qf1 (l.set p y)=0:=by
 obtain ⟨hn,hj,hs⟩:=Qj3 h
 refine whole_table (by rw [List.length_set];exact hn) (fun z hz=>?_) (pair_ids (ids_set hp e) hs)
 rcases set_mem hz with rfl|⟨k,_,hk⟩
 ·exact hy
 ·exact hj z (List.mem_of_getElem? hk)
theorem job_next {s:State} (g:Good s) {j:Job} (hj:j ∈ s.jobs):j.id<s.nextJob:=by
 have h:=g.nextJ
 unfold Q71 at h
 simp only [Bool.and_eq_true,decide_eq_true_eq] at h
 rw [Qyd] at h
 have hs:=(Qj3 (Qn5 g)).2.2
 have key:∀ (l:List Job) (d:Int),l.Pairwise (fun a b=>a.id<b.id) -> ∀ x ∈ l,x.id<=(l.map (·.id)).getLastD d:=by
  intro l
  induction l with
  | nil=>exact fun _ _ x hx=>nomatch hx
  | cons y r ih =>
   intro d hp x hx
   obtain ⟨h1,h2⟩:=List.pairwise_cons.1 hp
   have e:((y :: r).map (·.id)).getLastD d=(r.map (·.id)).getLastD y.id:=by cases r <;> simp [List.getLastD]
   rw [e]
   rcases List.mem_cons.1 hx with rfl|hx
   ·cases r with
    | nil=>exact Int.le_refl _
    | cons z r' =>
     have:=ih x.id h2 z (List.mem_cons_self ..)
     have:=h1 z (List.mem_cons_self ..)
     omega
   ·exact ih y.id h2 x hx
 have:=key s.jobs 0 hs j hj
 omega
section
variable {s t:State} {id:Int}
structure Off (s t:State) (id:Int):Prop where
 g:Good s
 now:t.now=s.now
 books:t.books=s.books
 ledger:t.ledger=s.ledger
 nextJob:t.nextJob=s.nextJob
 nextBook:t.nextBook=s.nextBook
 len:t.nodes.length=s.nodes.length
 fleet:Q60 t.nodes=0
 off:∀ k,k<s.nodes.length->t.nodes.getD k Node.zero=s.nodes.getD k Node.zero∨(((s.nodes.getD k Node.zero).job=id∨(s.nodes.getD k Node.zero).job=0)∧(t.nodes.getD k Node.zero).job=id)
 table:Qf1 t.jobs=0
 ids:t.jobs.map (·.id)=s.jobs.map (·.id)
 jobs:∀ j,j.id ≠ id->(j ∈ t.jobs ↔ j ∈ s.jobs)
 job:∃ j ∈ t.jobs,j.state=2∧j.id=id
 sorted:t.resizes.Pairwise (fun a b=>a.job<b.job)
 resizes:∀ r,r.job ≠ id->(r ∈ t.resizes ↔ r ∈ s.resizes)
section
variable (o:Off s t id)
include o
theorem Off.same {k:Nat} (hk:k<s.nodes.length) {x:Int} (hx:x ≠ id) (h0:x ≠ 0):((t.nodes.getD k Node.zero).job=x->t.nodes.getD k Node.zero=s.nodes.getD k Node.zero)∧((s.nodes.getD k Node.zero).job=x->t.nodes.getD k Node.zero=s.nodes.getD k Node.zero):=by
 rcases o.off k hk with h|⟨h1,h2⟩
 ·exact ⟨fun _=>h,fun _=>h⟩
 ·exact ⟨fun h=>by omega,fun h=>by omega⟩
theorem Off.held {j:Job} (h1:1<=j.id) (hj:j.id ≠ id) (h:HeldP s j):HeldP t j:=by
 intro k
 rw [h k,o.len]
 constructor
 ·rintro ⟨a,b,c⟩
  have:=(o.same a hj (by omega)).2 b
  rw [this]
  exact ⟨a,b,c⟩
 ·rintro ⟨a,b,c⟩
  have:=(o.same a hj (by omega)).1 b
  rw [this] at b c
  exact ⟨a,b,c⟩
theorem Off.res {r:Resize} {j:Job} (a:RzAt s r j) (hj:r.job ≠ id):ResP t r j:=by
 have h1:=Q5b o.g r a.hr
 obtain ⟨R1,R2,R3,R4⟩:=a.res
 have key:∀ (k:Nat) (q:Node->Prop),(k<t.nodes.length∧(t.nodes.getD k Node.zero).job=r.job∧q (t.nodes.getD k Node.zero)) ↔ (k<s.nodes.length∧(s.nodes.getD k Node.zero).job=r.job∧q (s.nodes.getD k Node.zero)):=by
  intro k q
  rw [o.len]
  constructor
  ·rintro ⟨a,b,c⟩
   have:=(o.same a hj (by omega)).1 b
   rw [this] at b c
   exact ⟨a,b,c⟩
  ·rintro ⟨a,b,c⟩
   have:=(o.same a hj (by omega)).2 b
   rw [this]
   exact ⟨a,b,c⟩
 have ask:∀ c,AskP s r c->AskP t r c:=fun c h k hk=>(key k (fun x=>x.want=c)).trans (h k hk)
 refine ⟨R1,R2,fun k hk hb=>?_,?_⟩
 ·obtain ⟨q1,q2,_⟩:=a.node hk (R2 k hk hb)
  have:=(o.same q1 hj (by omega)).2 q2
  rw [o.len,this]
  exact R3 k hk hb
 ·cases hg:r.grow with
  | true =>
   rw [if_pos hg] at R4
   exact ⟨ask 2 R4.1,fun k hk=>(R4.2.1 k hk).trans (key k (fun x=>x.state=2)).symm,R4.2.2⟩
  | false =>
   rw [if_neg (by rw [hg];simp)] at R4
   exact ⟨ask 4 R4.1,R4.2.1,R4.2.2⟩
theorem Off.good (hu:WU s) (hr:∀ r ∈ t.resizes,r.job=id -> ∃ j ∈ t.jobs,j.state=2∧j.id=r.job∧ResP t r j)
  (hm:∀ k,k<s.nodes.length->(t.nodes.getD k Node.zero).job=id->(t.nodes.getD k Node.zero).state=2∨(t.nodes.getD k Node.zero).want=4 -> ∃ r ∈ t.resizes,r.job=id∧tb r.nodes k=true)
  (hh:∀ j ∈ t.jobs,j.state=2->j.id=id->HeldP t j):Good t:=by
 have jb:∀ j ∈ t.jobs,1<=j.id:=fun j hj=>(Q17 ((Qj3 o.table).2.1 j hj)).1
 have hids:∃ j ∈ s.jobs,j.id=id:=by
  obtain ⟨j,hj,_,e⟩:=o.job
  have:j.id ∈ s.jobs.map (·.id):=by rw [← o.ids];exact List.mem_map.2 ⟨j,hj,rfl⟩
  obtain ⟨j',h1,h2⟩:=List.mem_map.1 this
  exact ⟨j',h1,h2.trans e⟩
 refine ⟨?_,?_,?_,o.sorted,fun r hr'=>?_,fun k hk=>?_,fun j hj hst=>?_⟩
 ·have h:=(plan_parts s).1 o.g.plan
  exact (plan_parts t).2 ⟨by rw [o.now];exact h.1,o.fleet,o.table,by rw [o.books];exact h.2.2.2.1,by rw [o.ledger];exact h.2.2.2.2⟩
 ·rw [o.nextJob,Qyd,o.ids,← Qyd s.jobs 0 0]
  exact o.g.nextJ
 ·rw [o.nextBook,o.books]
  exact o.g.nextB
 ·by_cases e:r.job=id
  ·exact hr r hr' e
  ·have hrs:=(o.resizes r e).1 hr'
   obtain ⟨j,hj,hst,hid,R⟩:=o.g.res r hrs
   exact ⟨j,(o.jobs j (by omega)).2 hj,hst,hid,o.res ⟨o.g,hu,hrs,hj,hst,hid,R⟩ e⟩
 ·rw [o.len] at hk
  by_cases e:(t.nodes.getD k Node.zero).job=id
  ·refine ⟨fun _=>?_,fun h=>?_,fun _=>?_⟩
   ·obtain ⟨j,hj,h1,h2⟩:=o.job
    exact ⟨j,hj,h1,by omega⟩
   ·obtain ⟨r,h1,h2,h3⟩:=hm k hk e h
    exact ⟨r,h1,by omega,h3⟩
   ·obtain ⟨j,hj,e2⟩:=hids
    have:=job_next o.g hj
    rw [o.nextJob]
    omega
  ·have hs:t.nodes.getD k Node.zero=s.nodes.getD k Node.zero:=by
    rcases o.off k hk with h|⟨_,h⟩
    ·exact h
    ·exact absurd h e
   obtain ⟨n1,n2,n3⟩:=o.g.node k hk
   rw [hs] at e
   refine ⟨fun h=>?_,fun h=>?_,fun h=>?_⟩
   ·rw [hs] at h ⊢
    obtain ⟨j,hj,h1,h2⟩:=n1 h
    exact ⟨j,(o.jobs j (fun q=>e (h2.symm.trans q))).2 hj,h1,h2⟩
   ·rw [hs] at h ⊢
    obtain ⟨r,h1,h2,h3⟩:=n2 h
    exact ⟨r,(o.resizes r (fun q=>e (h2.symm.trans q))).2 h1,h2,h3⟩
   ·rw [hs] at h ⊢
    rw [o.nextJob]
    exact n3 h
 ·by_cases e:j.id=id
  ·exact hh j hj hst e
  ·exact o.held (jb j hj) e (o.g.held j ((o.jobs j e).1 hj) hst)
end
end
theorem pw_set {l:List Resize} (hs:l.Pairwise (fun a b=>a.job<b.job)) {p:Nat} (hp:p<l.length) {x:Resize} (e:x.job=(l.getD p Resize.zero).job):(l.set p x).Pairwise (fun a b=>a.job<b.job):=by
 have h1:(l.map (·.job)).Pairwise (· < ·):=List.pairwise_map.2 hs
 have h2:(l.set p x).map (·.job)=l.map (·.job):=by
  rw [List.map_set]
  refine List.ext_getElem? fun k=>?_
  rw [List.getElem?_set]
  by_cases q:p=k
  ·subst q
   rw [if_pos rfl,if_pos (by simpa using hp),List.getElem?_map,e,List.getD,List.getElem?_eq_getElem hp]
   rfl
  ·rw [if_neg q]
 rw [← h2] at h1
 exact List.pairwise_map.1 h1
theorem res_one {l:List Resize} (hs:l.Pairwise (fun a b=>a.job<b.job)) {x y:Resize} (hx:x ∈ l) (hy:y ∈ l) (e:x.job=y.job):x=y:=by
 have h1:=QD8 l 0 x hx hs
 have h2:=QD8 l 0 y hy hs
 rw [e] at h1
 exact h1.symm.trans h2
theorem set_res {l:List Resize} (hs:l.Pairwise (fun a b=>a.job<b.job)) {p:Nat} (hp:p<l.length) {x:Resize} (e:x.job=(l.getD p Resize.zero).job) (r:Resize):r ∈ l.set p x ↔ r=x∨(r ∈ l∧r.job ≠ x.job):=by
 have hg:l[p]? = some (l.getD p Resize.zero):=by rw [List.getD,List.getElem?_eq_getElem hp];rfl
 constructor
 ·intro h
  rcases set_mem h with h|⟨k,hk,hr⟩
  ·exact .inl h
  ·refine .inr ⟨List.mem_of_getElem? hr,fun q=>hk ?_⟩
   have h1:=res_one hs (List.mem_of_getElem? hr) (List.mem_of_getElem? hg) (q.trans e)
   subst h1
   have hkl:=(List.getElem?_eq_some_iff.1 hr).1
   rcases Nat.lt_trichotomy k p with h|h|h
   ·have:=List.pairwise_iff_getElem.1 hs k p hkl hp h
    rw [(List.getElem?_eq_some_iff.1 hr).2,(List.getElem?_eq_some_iff.1 hg).2] at this
    omega
   ·exact h
   ·have:=List.pairwise_iff_getElem.1 hs p k hp hkl h
    rw [(List.getElem?_eq_some_iff.1 hr).2,(List.getElem?_eq_some_iff.1 hg).2] at this
    omega
 ·rintro (rfl|⟨h,hne⟩)
  ·refine List.mem_of_getElem? (i:=p) ?_
   rw [List.getElem?_set_self hp]
  ·obtain ⟨k,hk⟩:=List.getElem?_of_mem h
   refine mem_set_of hk fun q=>hne ?_
   subst q
   rw [hg] at hk
   cases hk
   exact e.symm
section
variable {s:State} {r:Resize} {j:Job} (a:RzAt s r j)
include a
theorem RzAt.moved {k:Nat} (hk:k<s.nodes.length) (hj:(s.nodes.getD k Node.zero).job=r.job) (h:(s.nodes.getD k Node.zero).state=2∨(s.nodes.getD k Node.zero).want=4):tb r.nodes k=true:=by
 obtain ⟨q,hq,e,hb⟩:=(a.g.node k hk).moved h
 rw [res_one a.g.sorted hq a.hr (e.trans hj)] at hb
 exact hb
theorem RzAt.partly {p:Nat} (hp:p<s.resizes.length) (hr:s.resizes.getD p Resize.zero=r) {k:Nat} (hk:k<64) (hb:tb r.nodes k=true) {X:Int} (hX:U64 X) (hbX:∀ i,tb X i=(tb r.said i||decide (k=i))) {t:State}
  (ht:t={ s with nodes:=turnP (fun i=>decide (k=i)) (fun x=>{ x with want:=0 }) s.nodes,resizes:=s.resizes.set p { r with said:=X } }):Good t∧WU t∧RzAt t { r with said:=X } j:=by
 have hlen:=Q4b a.g
 have get:∀ i,i<s.nodes.length->t.nodes.getD i Node.zero=bif decide (k=i) then { (s.nodes.getD i Node.zero) with want:=0 } else s.nodes.getD i Node.zero:=fun i hi=>by
  rw [ht]
  exact Q92 _ _ hi
 have same:∀ i,i<s.nodes.length->(t.nodes.getD i Node.zero).job=(s.nodes.getD i Node.zero).job∧(t.nodes.getD i Node.zero).state=(s.nodes.getD i Node.zero).state∧(t.nodes.getD i Node.zero).want=(if k=i then 0 else (s.nodes.getD i Node.zero).want):=fun i hi=>by
  rw [get i hi]
  by_cases e:k=i
  ·rw [if_pos e,decide_eq_true e];exact ⟨rfl,rfl,rfl⟩
  ·rw [if_neg e,decide_eq_false e];exact ⟨rfl,rfl,rfl⟩
 have hl:t.nodes.length=s.nodes.length:=by rw [ht];exact Qn1 _ _ _
 have htr:t.resizes=s.resizes.set p { r with said:=X }:=by rw [ht]
 have htj:t.jobs=s.jobs:=by rw [ht]
 have hmem:=set_res a.g.sorted hp (x:={ r with said:=X }) (by rw [hr])
 have hwu:WU t:=by
  refine ⟨by rw [htj];exact a.u.1,fun q hq=>?_⟩
  rw [htr,hmem] at hq
  rcases hq with rfl|⟨hq,_⟩
  ·exact ⟨a.un,hX⟩
  ·exact a.u.2 q hq
 obtain ⟨R1,R2,R3,R4⟩:=a.res
 have o:Off s t r.job:=by
  refine ⟨a.g,by rw [ht],by rw [ht],by rw [ht],by rw [ht],by rw [ht],hl,by rw [ht];exact (a.settle hk hb).2,fun i hi=>?_,by rw [htj];exact Qn5 a.g,by rw [htj],fun _ _=>by rw [htj],⟨j,by rw [htj];exact a.hj,a.st,a.id⟩,by rw [htr];exact pw_set a.g.sorted hp (by rw [hr]),fun q hq=>?_⟩
  ·by_cases e:k=i
   ·subst e
    have:=(a.node hk hb).2.1
    exact .inr ⟨.inl this,by rw [(same k hi).1];exact this⟩
   ·refine .inl ?_
    rw [get i hi,decide_eq_false e]
    rfl
  ·rw [htr,hmem]
   constructor
   ·rintro (rfl|⟨h,_⟩)
    ·exact absurd rfl hq
    ·exact h
   ·exact fun h=>.inr ⟨h,hq⟩
 have hres:ResP t { r with said:=X } j:=by
  have ask:∀ c,c ≠ 0->AskP s r c->AskP t { r with said:=X } c:=by
   intro c hc h i hi
   rw [hl]
   constructor
   ·rintro ⟨h1,h2,h3⟩
    rw [(same i h1).1] at h2
    rw [(same i h1).2.2] at h3
    by_cases e:k=i
    ·rw [if_pos e] at h3;exact absurd h3.symm hc
    ·rw [if_neg e] at h3
     have:=(h i hi).1 ⟨h1,h2,h3⟩
     exact ⟨this.1,by show tb X i=false;rw [hbX,this.2,decide_eq_false e];rfl⟩
   ·rintro ⟨h1,h2⟩
    have h2:tb X i=false:=h2
    rw [hbX] at h2
    obtain ⟨h3,h4⟩:=or_f h2
    have e:=of_decide_eq_false h4
    have:=(h i hi).2 ⟨h1,h3⟩
    rw [(same i this.1).1,(same i this.1).2.2,if_neg e]
    exact this
  refine ⟨R1,fun i hi h=>?_,fun i hi h=>?_,?_⟩
  ·have h:tb X i=true:=h
   rw [hbX] at h
   rcases Bool.or_eq_true_iff.1 h with h|h
   ·exact R2 i hi h
   ·rw [← of_decide_eq_true h];exact hb
  ·have h:tb X i=true:=h
   rw [hbX] at h
   rw [hl]
   by_cases e:k=i
   ·subst e
    have:=(a.node hk hb).1
    exact ⟨this,by rw [(same k this).2.2,if_pos rfl]⟩
   ·rw [decide_eq_false e,Bool.or_false] at h
    have:=R3 i hi h
    exact ⟨this.1,by rw [(same i this.1).2.2,if_neg e];exact this.2⟩
  ·cases hg:r.grow with
   | true =>
    rw [if_pos hg] at R4
    refine ⟨ask 2 (by decide) R4.1,fun i hi=>?_,R4.2.2⟩
    rw [hl]
    refine (R4.2.1 i hi).trans ⟨fun h=>?_,fun h=>?_⟩
    ·rw [(same i h.1).1,(same i h.1).2.1];exact h
    ·rw [(same i h.1).1,(same i h.1).2.1] at h;exact h
   | false =>
    rw [if_neg (by rw [hg];simp)] at R4
    exact ⟨ask 4 (by decide) R4.1,R4.2.1,R4.2.2⟩
 have hin:({ r with said:=X }:Resize) ∈ t.resizes:=by rw [htr,hmem];exact .inl rfl
 have hg:Good t:=by
  refine o.good a.u (fun q hq e=>?_) (fun i hi h1 h2=>?_) (fun j' hj' hst e=>?_)
  ·rw [htr,hmem] at hq
   rcases hq with rfl|⟨_,hq⟩
   ·exact ⟨j,by rw [htj];exact a.hj,a.st,a.id,hres⟩
   ·exact absurd e hq
  ·refine ⟨_,hin,rfl,?_⟩
   rw [(same i hi).1] at h1
   refine a.moved hi h1 ?_
   rw [(same i hi).2.1,(same i hi).2.2] at h2
   rcases h2 with h2|h2
   ·exact .inl h2
   ·split at h2
    ·cases h2
    ·exact .inr h2
  ·rw [htj] at hj'
   have h:=a.g.held j' hj' hst
   intro i
   rw [h i,hl]
   exact ⟨fun h=>by rw [(same i h.1).1,(same i h.1).2.1];exact h,fun h=>by rw [(same i h.1).1,(same i h.1).2.1] at h;exact h⟩
 exact ⟨hg,hwu,⟨hg,hwu,hin,by rw [htj];exact a.hj,a.st,a.id,hres⟩⟩
theorem RzAt.over {f:Node->Node} {P:Nat->Bool} {q:Nat} (hq:s.jobs[q]? = some j) {X:Int} (hX:U64 X) (hjc:QQ0 { j with nodes:=X }=0) (hfl:Q60 (turnP P f s.nodes)=0) (hP:∀ k,P k=true->tb r.nodes k=true)
  (hf:∀ k,k<s.nodes.length->P k=true->(f (s.nodes.getD k Node.zero)).job=r.job∧(f (s.nodes.getD k Node.zero)).state ≠ 2∧(f (s.nodes.getD k Node.zero)).want ≠ 4)
  (hnP:∀ k,k<s.nodes.length->P k=false->tb r.nodes k=true->(s.nodes.getD k Node.zero).state ≠ 2∧(s.nodes.getD k Node.zero).want ≠ 4)
  (hh:∀ k,tb X k=true ↔ (k<s.nodes.length∧((turnP P f s.nodes).getD k Node.zero).job=r.job∧((turnP P f s.nodes).getD k Node.zero).state=1))
  {t:State} (ht:t={ s with nodes:=turnP P f s.nodes,jobs:=s.jobs.set q { j with nodes:=X },resizes:=s.resizes.filter (fun x=>x.job != r.job) }):Good t∧WU t:=by
 have hlen:=Q4b a.g
 have get:∀ i,i<s.nodes.length->t.nodes.getD i Node.zero=bif P i then f (s.nodes.getD i Node.zero) else s.nodes.getD i Node.zero:=fun i hi=>by
  rw [ht]
  exact Q92 _ _ hi
 have hl:t.nodes.length=s.nodes.length:=by rw [ht];exact Qn1 _ _ _
 have htr:t.resizes=s.resizes.filter (fun x=>x.job != r.job):=by rw [ht]
 have htj:t.jobs=s.jobs.set q { j with nodes:=X }:=by rw [ht]
 have hps:=(Qj3 (Qn5 a.g)).2.2
 have hjm:∀ x:Job,x ∈ t.jobs ↔ x={ j with nodes:=X }∨(x ∈ s.jobs∧x.id ≠ r.job):=by
  intro x
  rw [htj]
  constructor
  ·intro h
   rcases set_mem h with h|⟨k,hk,hx⟩
   ·exact .inl h
   ·refine .inr ⟨List.mem_of_getElem? hx,fun e=>?_⟩
    have:=job_one hps (List.mem_of_getElem? hx) a.hj (e.trans a.id.symm)
    subst this
    rcases Nat.lt_or_gt_of_ne hk with h|h
    ·have:=Qz3 hps k q _ _ h hx hq;omega
    ·have:=Qz3 hps q k _ _ h hq hx;omega
  ·rintro (rfl|⟨h,hne⟩)
   ·exact List.mem_of_getElem? (i:=q) (List.getElem?_set_self (List.getElem?_eq_some_iff.1 hq).1)
   ·obtain ⟨k,hk⟩:=List.getElem?_of_mem h
    refine mem_set_of hk fun e=>hne ?_
    subst e
    rw [hq] at hk
    cases hk
    exact a.id
 have hrm:∀ x:Resize,x ∈ t.resizes ↔ x ∈ s.resizes∧x.job ≠ r.job:=by
  intro x
  rw [htr,List.mem_filter]
  simp
 have hwu:WU t:=by
  refine ⟨fun x hx=>?_,fun x hx=>a.u.2 x ((hrm x).1 hx).1⟩
  rcases (hjm x).1 hx with rfl|⟨h,_⟩
  ·exact hX
  ·exact a.u.1 x h
 have o:Off s t r.job:=by
  refine ⟨a.g,by rw [ht],by rw [ht],by rw [ht],by rw [ht],by rw [ht],hl,by rw [ht];exact hfl,fun i hi=>?_,by rw [htj];exact table_set (Qn5 a.g) hq rfl hjc,by rw [htj];exact ids_set hq rfl,fun x hx=>?_,⟨{ j with nodes:=X },(hjm _).2 (.inl rfl),a.st,a.id⟩,by rw [htr];exact a.g.sorted.filter _,fun x hx=>?_⟩
  ·rw [get i hi]
   cases hp:P i with
   | false=>exact .inl rfl
   | true =>
    have:=(a.node (by omega) (hP i hp)).2.1
    exact .inr ⟨.inl this,(hf i hi hp).1⟩
  ·rw [hjm]
   constructor
   ·rintro (rfl|⟨h,_⟩)
    ·exact absurd a.id hx
    ·exact h
   ·exact fun h=>.inr ⟨h,hx⟩
  ·rw [hrm]
   exact ⟨fun h=>h.1,fun h=>⟨h,hx⟩⟩
 refine ⟨o.good a.u (fun x hx e=>absurd e ((hrm x).1 hx).2) (fun i hi h1 h2=>?_) (fun x hx hst e=>?_),hwu⟩
 ·exfalso
  rw [get i hi] at h1 h2
  cases hp:P i with
  | true =>
   rw [hp] at h2
   have:=hf i hi hp
   rcases h2 with h2|h2
   ·exact this.2.1 h2
   ·exact this.2.2 h2
  | false =>
   rw [hp] at h1 h2
   have hb:=a.moved hi h1 h2
   have:=hnP i hi hp hb
   rcases h2 with h2|h2
   ·exact this.1 h2
   ·exact this.2 h2
 ·rcases (hjm x).1 hx with rfl|⟨_,h⟩
  ·intro k
   show tb X k=true ↔ _
   rw [hh k,hl,ht]
   have:(({ j with nodes:=X }:Job).id)=r.job:=a.id
   rw [this]
  ·exact absurd e h
end
structure Asked (s:State) (j:Job):Prop where
 g:Good s
 u:WU s
 hj:j ∈ s.jobs
 st:j.state=2
 kind:j.shape.kind=3
 quiet:∀ k,tb j.nodes k=true->(s.nodes.getD k Node.zero).want=0
 no:∀ r ∈ s.resizes,r.job ≠ j.id
section
variable {s t:State} {j:Job} (b:Asked s j)
include b
end
theorem countP_in (M:List Nat) (h:M.Nodup) (h64:∀ k ∈ M,k<64):(List.range 64).countP (fun k=>decide (k ∈ M))=M.length:=by
 rw [List.countP_eq_length_filter]
 refine List.Perm.length_eq ?_
 refine (List.perm_ext_iff_of_nodup (List.nodup_range.filter _) h).2 fun k=>?_
 rw [List.mem_filter,List.mem_range,decide_eq_true_eq]
 exact ⟨fun q=>q.2,fun q=>⟨h64 k q,q⟩⟩
theorem count_in {S:Int} (hS:U64 S) {M:List Nat} (h:M.Nodup) (h64:∀ k ∈ M,k<64) (hb:∀ k,tb S k=decide (k ∈ M)):Q30 S=(M.length:Int):=by
 rw [Qk5 hS,← countP_in M h h64]
 congr 2
 funext k
 exact hb k
theorem few_sz2 {s:State} {b:Bool} (h:((!(QH4 s))||b)=false):s.sz:=Qw6 (by simpa using (or_f h).1)
theorem wu_zero:WU State.zero:=⟨fun x hx=>absurd hx List.not_mem_nil,fun x hx=>absurd hx List.not_mem_nil⟩
section
variable {s:State}
theorem ref_check (hz:s.sz) (hu:WU s):Qt2 s=Qd0 s:=(QCd (hu.words hz)).symm
theorem QMe {r:Resize} {j:Job} (hz:s.sz) (a:RzAt s r j):Qf3 s r.job=(r,true):=by
 unfold Qf3
 have e:Q15 s r.job=r:=QD8 _ 0 r a.hr a.g.sorted
 have h:Qd0 s=0:=(Qwd (a.u.words hz)).2 a.g
 rw [e,ref_check hz a.u,h]
 have:(r.nodes==0)=false:=by simpa using a.res.1.2.1
 rw [this]
 rfl
theorem no_place (hz:s.sz) (hu:WU s) (hc:((Qd0 s)!=0)=false) {id:Int} (h:Q41 id=false∨(Q00 s.resizes id bsrF).2=false):∀ r ∈ s.resizes,r.job ≠ id:=by
 have g:=rz_good hz hu hc
 intro r hr e
 have hb:=Q5b g r hr
 have hk:Q41 id=true:=by unfold Q41;simp;omega
 rcases h with h|h
 ·rw [hk] at h;cases h
 ·obtain ⟨p,h1,h2,h3,h4,h5⟩:=rz_place hz hu hc hk
  obtain ⟨k,hkl,hke⟩:=Qzd Resize.zero hr
  have hkp:k=p:=by
   rcases Nat.lt_trichotomy k p with hq|hq|hq
   ·have:=h3 k hq;rw [hke] at this;omega
   ·exact hq
   ·have h6:=h4 p (Nat.le_refl _) (by omega)
    have h7:=List.pairwise_iff_getElem.1 g.sorted p k (by omega) hkl hq
    rw [List.getD,List.getElem?_eq_getElem hkl] at hke
    rw [List.getD,List.getElem?_eq_getElem (show p<s.resizes.length by omega)] at h6
    simp only [Option.getD_some] at hke h6
    rw [hke] at h7
    omega
  subst hkp
  rw [h5.2 ⟨hkl,by rw [hke];exact e⟩] at h
  cases h
theorem rz_at' (hz:s.sz) (hu:WU s) (hc:((Qd0 s)!=0)=false) {id:Int} (hk:Q41 id=true) (hb:(Q00 s.resizes id bsrF).2=true) :
  ∃ (p:Nat) (j:Job),Q00 s.resizes id bsrF=((p:Int),true)∧p<s.resizes.length∧RzAt s (s.resizes.getD p Resize.zero) j∧(s.resizes.getD p Resize.zero).job=id:=by
 obtain ⟨j,a,hid,hi,hp⟩:=rz_at hz hu hc hk hb
 exact ⟨rzI s id,j,Prod.ext hp hb,hi,a,hid⟩
theorem around {l:List Resize} (hs:l.Pairwise (fun a b=>a.job<b.job)) {p:Nat} (hp:p<l.length):l=l.take p++[l.getD p Resize.zero]++l.drop (p+1)∧(∀ x ∈ l.take p,x.job<(l.getD p Resize.zero).job)∧(∀ x ∈ l.drop (p+1),(l.getD p Resize.zero).job<x.job):=by
 have hg:l.getD p Resize.zero=l[p]:=by rw [List.getD,List.getElem?_eq_getElem hp];rfl
 have e:l=l.take p++l[p] :: l.drop (p+1):=by rw [← List.drop_eq_getElem_cons hp,List.take_append_drop]
 rw [hg]
 refine ⟨by rw [List.append_assoc];exact e,?_,?_⟩
 ·rw [e] at hs
  intro x hx
  exact (List.pairwise_append.1 hs).2.2 x hx _ (List.mem_cons_self ..)
 ·rw [e] at hs
  intro x hx
  exact (List.pairwise_cons.1 (List.pairwise_append.1 hs).2.1).1 x hx
theorem Q4c {l:List Resize} (hs:l.Pairwise (fun a b=>a.job<b.job)) {p:Nat} (hp:p<l.length) (hl:l.length<=4294967296):QU1 l (p:Int) (w64 ((p:Int)+1))=l.filter (fun x=>x.job != (l.getD p Resize.zero).job)∧QU1 l (p:Int) (w64 ((p:Int)+1))=l.take p++l.drop (p+1):=by
 obtain ⟨e,h1,h2⟩:=around hs hp
 have hw:w64 ((p:Int)+1)=(p:Int)+1:=wr (by omega)
 have e2:QU1 l (p:Int) (w64 ((p:Int)+1))=l.take p++l.drop (p+1):=by
  unfold QU1
  rw [hw,Int.toNat_natCast]
  have:Int.toNat ((p:Int)+1)=p+1:=by omega
  rw [this]
 refine ⟨?_,e2⟩
 rw [e2]
 generalize hgx:l.getD p Resize.zero=x at *
 generalize l.take p=A at *
 generalize l.drop (p+1)=B at *
 rw [e,List.filter_append,List.filter_append,List.filter_eq_self.2 (fun y hy=>by have:=h1 y hy;simp;omega),(List.filter_eq_self (l:=B)).2 (fun y hy=>by have:=h2 y hy;simp;omega)]
 simp
theorem del_set {l:List Resize} {p:Nat} (hp:p<l.length) (hl:l.length<=4294967296) (x:Resize):QU1 (l.set p x) (p:Int) (w64 ((p:Int)+1))=QU1 l (p:Int) (w64 ((p:Int)+1)):=by
 have hw:w64 ((p:Int)+1)=(p:Int)+1:=wr (by omega)
 unfold QU1
 rw [hw,Int.toNat_natCast]
 have:Int.toNat ((p:Int)+1)=p+1:=by omega
 rw [this,List.take_set_of_le (Nat.le_refl _),List.drop_set_of_lt (by omega)]
end
theorem small_sz:law26_small.sz:=⟨by decide,by decide,fun y hy=>by rw [List.mem_singleton.1 hy];exact ⟨by decide,by decide,by decide,(by decide:(0:Nat)<=4294967296),by decide⟩,by decide,by decide,by decide,fun _ h=>absurd h List.not_mem_nil⟩
theorem QWb:(Qt0 law26_small 5 3).1.jobs=law26_small.jobs:=by kernel_rfl
theorem begun_nodes:((Qt0 law26_small 5 3).1.nodes).length=4:=by kernel_rfl
theorem QNa:(Qt0 law26_small 5 3).1.resizes.map (fun r=>(r.job,r.nodes,r.said))=[(5,4,0)]:=by kernel_rfl
theorem begun_books:(Qt0 law26_small 5 3).1.books=[]:=by kernel_rfl
theorem Qvc:(Qt0 law26_small 5 3).1.ledger=[]:=by kernel_rfl
theorem begun_sz:(Qt0 law26_small 5 3).1.sz:=by
 refine ⟨by rw [begun_nodes];decide,by rw [QWb];exact small_sz.2.1,by rw [QWb];exact small_sz.2.2.1,?_,by rw [begun_books];decide,by rw [Qvc];decide,by rw [Qvc];exact fun _ h=>absurd h List.not_mem_nil⟩
 have e:=congrArg List.length QNa
 rw [List.length_map] at e
 rw [e]
 decide
theorem begun_wu:WU (Qt0 law26_small 5 3).1:=by
 refine ⟨?_,?_⟩
 ·rw [QWb]
  intro y hy
  rw [List.mem_singleton.1 hy]
  exact ⟨by decide,by decide⟩
 ·intro r hr
  have h:=List.mem_map_of_mem (f:=fun r:Resize=>(r.job,r.nodes,r.said)) hr
  rw [QNa] at h
  have h:=List.mem_singleton.1 h
  injection h with h1 h2
  injection h2 with h2 h3
  rw [h2,h3]
  exact ⟨⟨by decide,by decide⟩,⟨by decide,by decide⟩⟩
set_option maxRecDepth 20000
set_option maxHeartbeats 4000000
attribute [local irreducible] ACalls AMoves
theorem agC {P:Program} {f:FuncId} {args:List AVal} {objs:Objs} {r:AVal} (h:ACalls P f args objs fun r' o'=>r'=r∧o'=objs):AGives P f args objs r:=h
def Qj0 (s:State) (n:Note):State × (List Note) × Int:=bif ((Q41 n.job)&&(Q00 s.resizes n.job bsrF).2) then bif ((Qd0 s)!=0) then (State.zero,[],(Qd0 s)) else (fun bs:Int × Bool=>bif ((((!true)||(!((n.kind==8)||(n.kind==9))))||(!(QP0 (wu64 (BitVec.ofInt 64 (s.resizes.getD (Int.toNat bs.1) Resize.zero).nodes &&& ~~~(BitVec.ofInt 64 (s.resizes.getD (Int.toNat bs.1) Resize.zero).said)).toNat) n.node)))||((s.nodes.getD (Int.toNat n.node) Node.zero).epoch != n.epoch)) then (State.zero,[],230) else bif (n.kind==9) then bif (s.resizes.getD (Int.toNat bs.1) Resize.zero).grow then (fun ea:(List Node) × (List Note) × Int=>({ s with nodes:=ea.1,resizes:=(QU1 s.resizes bs.1 (w64 (bs.1+1))) },ea.2.1,0)) (Qq0 s.nodes ((s.resizes.getD (Int.toNat bs.1) Resize.zero).nodes) 7 0 s.now) else (fun ea1:(List Node) × (List Note) × Int=>({ s with nodes:=ea1.1,resizes:=(QU1 s.resizes bs.1 (w64 (bs.1+1))) },ea1.2.1,0)) (Qq0 s.nodes (wu64 (BitVec.ofInt 64 (s.resizes.getD (Int.toNat bs.1) Resize.zero).nodes &&& ~~~(BitVec.ofInt 64 (s.resizes.getD (Int.toNat bs.1) Resize.zero).said)).toNat) 6 0 s.now) else (fun ea2:(List Node) × (List Note) × Int=>(fun tw:List Resize=>bif ((tw.getD (Int.toNat bs.1) Resize.zero).said==(tw.getD (Int.toNat bs.1) Resize.zero).nodes) then bif (tw.getD (Int.toNat bs.1) Resize.zero).grow then (fun ea3:(List Node) × (List Note) × Int=>(fun tf:Job × Bool=>(fun jz:Job × Int=>(fun tp:(List Job) × Int=>({ s with nodes:=ea3.1,jobs:=tp.1,resizes:=(QU1 tw bs.1 (w64 (bs.1+1))) },(ea2.2.1++ea3.2.1),0)) (Qq4 s.jobs jz.1)) (Qk2 tf.1 (wu64 (BitVec.ofInt 64 tf.1.nodes ||| BitVec.ofInt 64 (tw.getD (Int.toNat bs.1) Resize.zero).nodes).toNat))) (QK0 s.jobs ((tw.getD (Int.toNat bs.1) Resize.zero).job))) (Qq0 ea2.1 ((tw.getD (Int.toNat bs.1) Resize.zero).nodes) 3 0 s.now) else (fun ea4:(List Node) × (List Note) × Int=>(fun tf1:Job × Bool=>(fun jz1:Job × Int=>(fun tp1:(List Job) × Int=>({ s with nodes:=ea4.1,jobs:=tp1.1,resizes:=(QU1 tw bs.1 (w64 (bs.1+1))) },(ea2.2.1++ea4.2.1),0)) (Qq4 s.jobs jz1.1)) (Qk2 tf1.1 (wu64 (BitVec.ofInt 64 tf1.1.nodes &&& ~~~(BitVec.ofInt 64 (tw.getD (Int.toNat bs.1) Resize.zero).nodes)).toNat))) (QK0 s.jobs ((tw.getD (Int.toNat bs.1) Resize.zero).job))) (Qq0 ea2.1 ((tw.getD (Int.toNat bs.1) Resize.zero).nodes) 7 0 s.now) else ({ s with nodes:=ea2.1,resizes:=tw },ea2.2.1,0)) (s.resizes.set (Int.toNat bs.1) { (s.resizes.getD (Int.toNat bs.1) Resize.zero) with said:=(wu64 (BitVec.ofInt 64 (s.resizes.getD (Int.toNat bs.1) Resize.zero).said ||| BitVec.ofInt 64 (Qz0 ([n.node]:List Int)).1).toNat) })) (Qq0 s.nodes ((Qz0 ([n.node]:List Int)).1) 4 0 s.now)) (Q00 s.resizes n.job bsrF) else bif ((Qd0 s)!=0) then (State.zero,[],(Qd0 s)) else bif (Q41 n.job) then (fun bs:Int × Bool=>(State.zero,[],230)) (Q00 s.resizes n.job bsrF) else (State.zero,[],230)
theorem Qj1 {P:Prop} (h:P:=by first|((subst_vars;with_reducible exact rz_len hk0 hp0 (by assumption) (by assumption) (by assumption) (by assumption)))|first|((subst_vars;with_reducible exact find_sz (by assumption) _))|first|((subst_vars;with_reducible exact size_sz (find_sz (by assumption) _) _))|exact szA):P:=h
theorem Qw5 (s:State) (n:Note) (hs0:s.sz) (hp0:WU s):GV 14 [State.a s,Note.a n] (AVal.tup [State.a ((Qj0 s n).1),noteL ((Qj0 s n).2.1),I ((Qj0 s n).2.2)]):=by
 generalize hR:Qj0 s n=R;refine gA (kp 13 [19,27,88,98,148]) Tryz.func14 ?_;have hk0:=hs0;obtain ⟨z46,z47,z48,z49,z50,z51,z52⟩:=hs0
 cases h1:((Q41 n.job)&&(Q00 s.resizes n.job bsrF).2)
 ·skip;refine ACalls.of_cwp (fun _=>true) Tryz.func30 rfl rfl ?_;refine us (Q63 s Qj1 _) ?_;refine ai (fun h2=>?_) (fun h3=>?_)
  ·refine ⟨_,_,Told.refl,?_⟩;refine ai (fun h4=>?_) (fun h5=>?_)
   ·refine ACalls.of_cwp (fun _=>true) Tryz.func31 rfl rfl ?_;refine ai (fun h6=>?_) (fun h7=>?_)
    ·refine dchk (by kernel_rfl) ?_;(repeat ((first|refine ai rfl ?_|refine ai (fun _=>rfl) ?_)));refine ⟨_,_,Told.refl,?_⟩;exact lfA
    ·exfalso;exact Bool.noConfusion (h2.symm.trans h7)
   ·exfalso;exact Bool.noConfusion (h2.symm.trans h5)
  ·refine us (state_Copy_c s Qj1 _) ?_;refine ⟨_,_,Told.refl,?_⟩;refine ai (fun h=>nomatch h) (fun _=>?_);refine us (QP7 n.job _) ?_;refine ai (fun h8=>?_) (fun h9=>?_)
   ·refine ACalls.of_cwp (fun _=>true) Tryz.func39 rfl rfl ?_;refine us (bsr_c s.resizes n.job Qj1 _) ?_;generalize hvbs:Q00 s.resizes n.job bsrF=bs;have qbs:bs.2=true->0<=bs.1∧bs.1<(s.resizes.length:Int)∧w64 (bs.1+1)=bs.1+1:=(by rw [← hvbs];exact fun h=>bsr_at (by rw [h];rfl) (by assumption));have qbbs:bs.2=false:=(by rw [← hvbs];have q:=h1;rw [show Q41 n.job=true by assumption] at q;exact q);rw [qbbs];refine ⟨_,_,Told.refl,?_⟩;refine dchk (by kernel_rfl) ?_;(conv=>whnf);refine ai (fun hg=>nomatch (show false=true from hg)) ?_;(conv=>whnf);refine ai (fun hg=>nomatch (show false=true from hg)) ?_;(first|refine ⟨Bo false,_,fun h=>absurd h (by decide),fun _=>rfl,?_⟩|refine ⟨Bo false,fun h=>absurd h (by decide),?_⟩|refine ⟨Bo false,_,fun h=>absurd h (by simp),fun _=>rfl,?_⟩|refine ⟨Bo false,fun h=>absurd h (by simp),?_⟩);(conv=>whnf);refine ai (fun hg=>nomatch (show false=true from hg)) ?_;(repeat ((first|refine ai rfl ?_|refine ai (fun _=>rfl) ?_)));refine ai (fun _=>?_) (fun h=>nomatch h);refine ACalls.of_cwp (fun _=>true) Tryz.func33 rfl rfl ?_;refine ai (fun _=>?_) (fun h=>nomatch h);refine ⟨_,_,Told.refl,?_⟩;refine ACalls.of_cwp (fun _=>true) Tryz.func31 rfl rfl ?_;refine ai (fun _=>?_) (fun h=>nomatch h);refine dchk (by kernel_rfl) ?_;(repeat ((first|refine ai rfl ?_|refine ai (fun _=>rfl) ?_)));refine ⟨_,_,Told.refl,?_⟩;obtain rfl:=foll hR (cf h1 (cf h3 (ct h8 (by subst hvbs;exact rfl))));first|exact Q90 (Low.tup' (.cons (State.low _ _) (.cons lw (l1 .nil)))) (Seen.tup (ev (Seen.agg (e1 (ev (Q40) (ev (Q40) (ev (Q40) (ev (Q40) (ev (Q40) (e1 (e1 .nil))))))))) (ev (Q40) (e1 .nil))))|(subst hvbs;exact Q90 (Low.tup' (.cons (State.low _ _) (.cons lw (l1 .nil)))) (Seen.tup (ev (Seen.agg (e1 (ev (Q40) (ev (Q40) (ev (Q40) (ev (Q40) (ev (Q40) (e1 (e1 .nil))))))))) (ev (Q40) (e1 .nil)))))
   ·refine dchk (by kernel_rfl) ?_;(conv=>whnf);refine ai (fun hg=>nomatch (show false=true from hg)) ?_;(conv=>whnf);refine ai (fun hg=>nomatch (show false=true from hg)) ?_;(first|refine ⟨Bo false,_,fun h=>absurd h (by decide),fun _=>rfl,?_⟩|refine ⟨Bo false,fun h=>absurd h (by decide),?_⟩|refine ⟨Bo false,_,fun h=>absurd h (by simp),fun _=>rfl,?_⟩|refine ⟨Bo false,fun h=>absurd h (by simp),?_⟩);(conv=>whnf);refine ai (fun hg=>nomatch (show false=true from hg)) ?_;(repeat ((first|refine ai rfl ?_|refine ai (fun _=>rfl) ?_)));refine ai (fun _=>?_) (fun h=>nomatch h);refine ACalls.of_cwp (fun _=>true) Tryz.func33 rfl rfl ?_;refine ai (fun _=>?_) (fun h=>nomatch h);refine ⟨_,_,Told.refl,?_⟩;refine ACalls.of_cwp (fun _=>true) Tryz.func31 rfl rfl ?_;refine ai (fun _=>?_) (fun h=>nomatch h);refine dchk (by kernel_rfl) ?_;(repeat ((first|refine ai rfl ?_|refine ai (fun _=>rfl) ?_)));refine ⟨_,_,Told.refl,?_⟩;exact lfA
 ·skip;refine ACalls.of_cwp (fun _=>true) Tryz.func30 rfl rfl ?_;refine us (Q63 s Qj1 _) ?_;refine ai (fun h10=>?_) (fun h11=>?_)
  ·refine ⟨_,_,Told.refl,?_⟩;refine ai (fun h12=>?_) (fun h13=>?_)
   ·refine ACalls.of_cwp (fun _=>true) Tryz.func31 rfl rfl ?_;refine ai (fun h14=>?_) (fun h15=>?_)
    ·refine dchk (by kernel_rfl) ?_;(repeat ((first|refine ai rfl ?_|refine ai (fun _=>rfl) ?_)));refine ⟨_,_,Told.refl,?_⟩;exact lfA
    ·exfalso;exact Bool.noConfusion (h10.symm.trans h15)
   ·exfalso;exact Bool.noConfusion (h10.symm.trans h13)
  ·refine us (mv [] (Qt9 s Qj1) .nil (dv (QP5 (Low.agg' (State.lo))) .nil) (rO rr .nil) (ren_agg (r1 (rv (Ren.low _ lw) (rv (Ren.low _ lw) (.cons _ _ _ _ (rw_ 4 0 rfl) (rv (Ren.low _ lw) (rv (Ren.low _ lw) (r1 (r1 .nil)))))))))) ?_;refine ⟨_,_,Told.refl,?_⟩;refine ai (fun h=>nomatch h) (fun _=>?_);refine us (QP7 n.job _) ?_;refine ai (fun h16=>?_) (fun h17=>?_)
   ·refine ACalls.of_cwp (fun _=>true) Tryz.func39 rfl rfl ?_;refine us (AGives.lent (bsr_c s.resizes n.job Qj1 []) (ev (Q80 _ _ rfl eqA lnA) (e1 (e1 .nil))) (.cons lw (l1 (.cons (Low.fn _ _ _ LowL.nil LowL.nil) .nil))) (QO2 rfl)) ?_;generalize hvbs:Q00 s.resizes n.job bsrF=bs;have qbs:bs.2=true->0<=bs.1∧bs.1<(s.resizes.length:Int)∧w64 (bs.1+1)=bs.1+1:=(by rw [← hvbs];exact fun h=>bsr_at (by rw [h];rfl) (by assumption));have qbbs:bs.2=true:=(by rw [← hvbs];exact ((Bool.and_eq_true _ _).mp h1).2);rw [qbbs];refine ⟨_,_,Told.refl,?_⟩;refine dchk (by kernel_rfl) ?_;refine And.intro (by first|exact fun hg=>decide_eq_true (by first|((have hq:=qbs (by assumption);omega))|first|((subst_vars;exact rz_in hk0 hp0 (by assumption) (by assumption) (by assumption) hg))|exact ckA)|exact gkA) ?_;refine ⟨_,QN0 rfl rfl rfl (Qb1 Resize.zero (Int.toNat bs.1) (by first|rfl|exact Nat.zero_add _|omega) (by first|((have hq:=qbs (by assumption);omega))|first|((subst_vars;exact rz_in hk0 hp0 (by assumption) (by assumption) (by assumption) hg))|exact ckA)) rfl,?_⟩;refine And.intro (by first|exact fun hg=>decide_eq_true (by first|((have hq:=qbs (by assumption);omega))|first|((subst_vars;exact rz_in hk0 hp0 (by assumption) (by assumption) (by assumption) hg))|exact ckA)|exact gkA) ?_;refine ⟨_,QN0 rfl rfl rfl (Qb1 Resize.zero (Int.toNat bs.1) (by first|rfl|exact Nat.zero_add _|omega) (by first|((have hq:=qbs (by assumption);omega))|first|((subst_vars;exact rz_in hk0 hp0 (by assumption) (by assumption) (by assumption) hg))|exact ckA)) rfl,?_⟩;(first|apply u2|apply u3|apply u4|apply us);exact QY6 (wu64 (BitVec.ofInt 64 (s.resizes.getD (Int.toNat bs.1) Resize.zero).nodes &&& ~~~(BitVec.ofInt 64 (s.resizes.getD (Int.toNat bs.1) Resize.zero).said)).toNat) n.node _;refine And.intro (by first|exact fun hg=>decide_eq_true (by first|((have hq:=qbs (by assumption);omega))|first|((subst_vars;exact rz_in hk0 hp0 (by assumption) (by assumption) (by assumption) hg))|exact ckA)|exact gkA) ?_;(repeat ((first|refine ai rfl ?_|refine ai (fun _=>rfl) ?_|refine And.intro (QN0 rfl rfl rfl (Qb1 Resize.zero (Int.toNat bs.1) (by first|rfl|exact Nat.zero_add _|omega) (by first|((have hq:=qbs (by assumption);omega))|first|((subst_vars;exact rz_in hk0 hp0 (by assumption) (by assumption) (by assumption) hg))|exact ckA)) rfl) ?_|refine And.intro (QN0 rfl rfl rfl (Qb1 Resize.zero (Int.toNat bs.1) (by first|rfl|exact Nat.zero_add _|omega) (by first|((have hq:=qbs (by assumption);omega))|first|((subst_vars;exact rz_in hk0 hp0 (by assumption) (by assumption) (by assumption) hg))|exact ckA)) rfl) ?_|refine ai (fun _=>QY6 (wu64 (BitVec.ofInt 64 (s.resizes.getD (Int.toNat bs.1) Resize.zero).nodes &&& ~~~(BitVec.ofInt 64 (s.resizes.getD (Int.toNat bs.1) Resize.zero).said)).toNat) n.node _) ?_)));refine ai (fun h18=>?_) (fun h19=>?_)
    ·refine ACalls.of_cwp (fun _=>true) Tryz.func33 rfl rfl ?_;refine ai (fun _=>?_) (fun h=>nomatch h);refine ⟨_,_,Told.refl,?_⟩;refine ACalls.of_cwp (fun _=>true) Tryz.func31 rfl rfl ?_;refine ai (fun _=>?_) (fun h=>nomatch h);refine dchk (by kernel_rfl) ?_;(repeat ((first|refine ai rfl ?_|refine ai (fun _=>rfl) ?_)));refine ⟨_,_,Told.refl,?_⟩;obtain rfl:=foll hR (ct h1 (cf h11 (by subst hvbs;exact ct h18 rfl)));first|exact Q90 (Low.tup' (.cons (State.low _ _) (.cons lw (l1 .nil)))) (Seen.tup (ev (Seen.agg (e1 (ev (Q40) (ev (Q40) (ev (Q40) (ev (Q40) (ev (Q40) (e1 (e1 .nil))))))))) (ev (Q40) (e1 .nil))))|(subst hvbs;exact Q90 (Low.tup' (.cons (State.low _ _) (.cons lw (l1 .nil)))) (Seen.tup (ev (Seen.agg (e1 (ev (Q40) (ev (Q40) (ev (Q40) (ev (Q40) (ev (Q40) (e1 (e1 .nil))))))))) (ev (Q40) (e1 .nil)))))
    ·refine ai (fun h20=>?_) (fun h21=>?_)
     ·refine ACalls.of_cwp (fun _=>true) Tryz.func59 rfl rfl ?_;refine ACalls.of_cwp (fun _=>true) Tryz.func116 rfl rfl ?_;refine And.intro (by first|exact fun hg=>decide_eq_true (by first|((have hq:=qbs (by assumption);omega))|first|((subst_vars;exact rz_in hk0 hp0 (by assumption) (by assumption) (by assumption) hg))|exact ckA)|exact gkA) ?_;refine ⟨_,QN0 rfl rfl rfl (Qb1 Resize.zero (Int.toNat bs.1) (by first|rfl|exact Nat.zero_add _|omega) (by first|((have hq:=qbs (by assumption);omega))|first|((subst_vars;exact rz_in hk0 hp0 (by assumption) (by assumption) (by assumption) hg))|exact ckA)) rfl,?_⟩;refine us (mv [4] (Qha s.resizes bs.1 (w64 (bs.1+1)) Qj1 (by (have hq:=qbs (by assumption);rw [hq.2.2];omega))) (dO (dr eqA) .nil) (dv (Q85 rfl lnA) (d1 (d1 .nil))) (rO rr .nil) (rw_ 8 0 rfl)) ?_;refine ⟨_,_,Told.refl,?_⟩;refine ai (fun h22=>?_) (fun h23=>?_)
      ·refine ACalls.of_cwp (fun _=>true) Tryz.func38 rfl rfl ?_;refine ai (fun h=>nomatch h) (fun _=>?_);refine dchk (by kernel_rfl) ?_;(first|apply u2|apply u3|apply u4|apply us);exact Qm1 s.nodes ((s.resizes.getD (Int.toNat bs.1) Resize.zero).nodes) 7 0 s.now Qj1 _;generalize hvea:Qq0 s.nodes ((s.resizes.getD (Int.toNat bs.1) Resize.zero).nodes) 7 0 s.now=ea;(have qea:ea.2.1.length<=64:=by rw [← hvea];exact QE2 _ _ _ _ _);(repeat ((first|refine ai rfl ?_|refine ai (fun _=>rfl) ?_|refine ai (fun _=>by subst hvea;exact Qm1 s.nodes ((s.resizes.getD (Int.toNat bs.1) Resize.zero).nodes) 7 0 s.now Qj1 _) ?_)));refine ai (fun h24=>?_) (fun h25=>?_)
       ·exfalso;subst_vars;with_reducible first|(apply Qr9 (n:=n) hk0 hp0 <;> assumption)|(apply QRe (n:=n) hk0 hp0 <;> assumption)|(apply QQe (n:=n) hk0 hp0 <;> assumption)|(apply QSe (n:=n) hk0 hp0 <;> assumption)|(apply Qb8 (n:=n) hk0 hp0 <;> assumption)
       ·(first|refine ⟨Qe2 32 rfl lnA apA,?_⟩|refine ⟨Ql1 32 rfl apA,?_⟩);refine ⟨_,_,Told.refl,?_⟩;refine ⟨_,_,Told.refl,?_⟩;refine ACalls.of_cwp (fun _=>true) Tryz.func31 rfl rfl ?_;refine ai (fun h=>nomatch h) (fun _=>?_);refine dchk (by kernel_rfl) ?_;(repeat ((first|refine ai rfl ?_|refine ai (fun _=>rfl) ?_)));refine ⟨_,_,Told.refl,?_⟩;obtain rfl:=foll hR (ct h1 (cf h11 (by subst hvbs;exact cf h19 (ct h20 (ct h22 (by subst hvea;exact rfl))))));first|exact Q90 (Low.tup' (.cons (State.low _ _) (.cons lw (l1 .nil)))) (Seen.tup (ev (Seen.agg (e1 (e1 (e1 (ev (Q80 Resize.zero _ rfl eqA lnA) (e1 (e1 (e1 (e1 .nil))))))))) (ev (Q80 Note.zero _ rfl eqA lnA) (e1 .nil))))|(subst hvbs hvea;exact Q90 (Low.tup' (.cons (State.low _ _) (.cons lw (l1 .nil)))) (Seen.tup (ev (Seen.agg (e1 (e1 (e1 (ev (Q80 Resize.zero _ rfl eqA lnA) (e1 (e1 (e1 (e1 .nil))))))))) (ev (Q80 Note.zero _ rfl eqA lnA) (e1 .nil)))))
      ·refine ACalls.of_cwp (fun _=>true) Tryz.func38 rfl rfl ?_;refine ai (fun h=>nomatch h) (fun _=>?_);refine dchk (by kernel_rfl) ?_;(first|apply u2|apply u3|apply u4|apply us);exact Qm1 s.nodes (wu64 (BitVec.ofInt 64 (s.resizes.getD (Int.toNat bs.1) Resize.zero).nodes &&& ~~~(BitVec.ofInt 64 (s.resizes.getD (Int.toNat bs.1) Resize.zero).said)).toNat) 6 0 s.now Qj1 _;generalize hvea1:Qq0 s.nodes (wu64 (BitVec.ofInt 64 (s.resizes.getD (Int.toNat bs.1) Resize.zero).nodes &&& ~~~(BitVec.ofInt 64 (s.resizes.getD (Int.toNat bs.1) Resize.zero).said)).toNat) 6 0 s.now=ea1;(have qea:ea1.2.1.length<=64:=by rw [← hvea1];exact QE2 _ _ _ _ _);(repeat ((first|refine ai rfl ?_|refine ai (fun _=>rfl) ?_|refine ai (fun _=>by subst hvea1;exact Qm1 s.nodes (wu64 (BitVec.ofInt 64 (s.resizes.getD (Int.toNat bs.1) Resize.zero).nodes &&& ~~~(BitVec.ofInt 64 (s.resizes.getD (Int.toNat bs.1) Resize.zero).said)).toNat) 6 0 s.now Qj1 _) ?_)));refine ai (fun h26=>?_) (fun h27=>?_)
       ·exfalso;subst_vars;with_reducible first|(apply Qr9 (n:=n) hk0 hp0 <;> assumption)|(apply QRe (n:=n) hk0 hp0 <;> assumption)|(apply QQe (n:=n) hk0 hp0 <;> assumption)|(apply QSe (n:=n) hk0 hp0 <;> assumption)|(apply Qb8 (n:=n) hk0 hp0 <;> assumption)
       ·(first|refine ⟨Qe2 32 rfl lnA apA,?_⟩|refine ⟨Ql1 32 rfl apA,?_⟩);refine ⟨_,_,Told.refl,?_⟩;refine ⟨_,_,Told.refl,?_⟩;refine ACalls.of_cwp (fun _=>true) Tryz.func31 rfl rfl ?_;refine ai (fun h=>nomatch h) (fun _=>?_);refine dchk (by kernel_rfl) ?_;(repeat ((first|refine ai rfl ?_|refine ai (fun _=>rfl) ?_)));refine ⟨_,_,Told.refl,?_⟩;obtain rfl:=foll hR (ct h1 (cf h11 (by subst hvbs;exact cf h19 (ct h20 (cf h23 (by subst hvea1;exact rfl))))));first|exact Q90 (Low.tup' (.cons (State.low _ _) (.cons lw (l1 .nil)))) (Seen.tup (ev (Seen.agg (e1 (e1 (e1 (ev (Q80 Resize.zero _ rfl eqA lnA) (e1 (e1 (e1 (e1 .nil))))))))) (ev (Q80 Note.zero _ rfl eqA lnA) (e1 .nil))))|(subst hvbs hvea1;exact Q90 (Low.tup' (.cons (State.low _ _) (.cons lw (l1 .nil)))) (Seen.tup (ev (Seen.agg (e1 (e1 (e1 (ev (Q80 Resize.zero _ rfl eqA lnA) (e1 (e1 (e1 (e1 .nil))))))))) (ev (Q80 Note.zero _ rfl eqA lnA) (e1 .nil)))))
     ·refine Or.inl ?_;refine us (AGives.as2 (Qy6 ([n.node]:List Int) Qj1 _) (av (QN2 (c:=(fun q_=>[I q_])) (d:=0) ([n.node]:List Int) rfl) .nil)) ?_;refine ACalls.of_cwp (fun _=>true) Tryz.func38 rfl rfl ?_;refine ai (fun h=>nomatch h) (fun _=>?_);refine dchk (by kernel_rfl) ?_;(first|apply u2|apply u3|apply u4|apply us);exact Qm1 s.nodes ((Qz0 ([n.node]:List Int)).1) 4 0 s.now Qj1 _;generalize hvea2:Qq0 s.nodes ((Qz0 ([n.node]:List Int)).1) 4 0 s.now=ea2;(have qea:ea2.2.1.length<=64:=by rw [← hvea2];exact QE2 _ _ _ _ _);(repeat ((first|refine ai rfl ?_|refine ai (fun _=>rfl) ?_|refine ai (fun _=>by subst hvea2;exact Qm1 s.nodes ((Qz0 ([n.node]:List Int)).1) 4 0 s.now Qj1 _) ?_)));refine ai (fun h28=>?_) (fun h29=>?_)
      ·exfalso;subst_vars;with_reducible first|(apply Qr9 (n:=n) hk0 hp0 <;> assumption)|(apply QRe (n:=n) hk0 hp0 <;> assumption)|(apply QQe (n:=n) hk0 hp0 <;> assumption)|(apply QSe (n:=n) hk0 hp0 <;> assumption)|(apply Qb8 (n:=n) hk0 hp0 <;> assumption)
      ·(first|refine ⟨Qe2 32 rfl lnA apA,?_⟩|refine ⟨Ql1 32 rfl apA,?_⟩);refine ⟨_,_,Told.refl,?_⟩;refine And.intro (by first|exact fun hg=>decide_eq_true (by first|((have hq:=qbs (by assumption);omega))|first|((subst_vars;exact rz_in hk0 hp0 (by assumption) (by assumption) (by assumption) hg))|exact ckA)|exact gkA) ?_;refine ⟨_,QN0 rfl rfl rfl (Qb1 Resize.zero (Int.toNat bs.1) (by first|rfl|exact Nat.zero_add _|omega) (by first|((have hq:=qbs (by assumption);omega))|first|((subst_vars;exact rz_in hk0 hp0 (by assumption) (by assumption) (by assumption) hg))|exact ckA)) rfl,?_⟩;refine And.intro (by first|exact fun hg=>decide_eq_true (by first|((have hq:=qbs (by assumption);omega))|first|((subst_vars;exact rz_in hk0 hp0 (by assumption) (by assumption) (by assumption) hg))|exact ckA)|exact gkA) ?_;refine ⟨_,QH2 rfl rfl rfl rfl (Qb1 Resize.zero (Int.toNat bs.1) (by first|rfl|exact Nat.zero_add _|omega) (by first|((have hq:=qbs (by assumption);omega))|first|((subst_vars;exact rz_in hk0 hp0 (by assumption) (by assumption) (by assumption) hg))|exact ckA)) rfl rfl (set_map (Int.toNat bs.1) { (s.resizes.getD (Int.toNat bs.1) Resize.zero) with said:=(wu64 (BitVec.ofInt 64 (s.resizes.getD (Int.toNat bs.1) Resize.zero).said ||| BitVec.ofInt 64 (Qz0 ([n.node]:List Int)).1).toNat) } (by first|rfl|exact Nat.zero_add _|omega) rfl),?_⟩;generalize hvtw:s.resizes.set (Int.toNat bs.1) { (s.resizes.getD (Int.toNat bs.1) Resize.zero) with said:=(wu64 (BitVec.ofInt 64 (s.resizes.getD (Int.toNat bs.1) Resize.zero).said ||| BitVec.ofInt 64 (Qz0 ([n.node]:List Int)).1).toNat) }=tw;(have qtw:tw.length=s.resizes.length:=by rw [← hvtw];exact List.length_set);refine dchk (by kernel_rfl) ?_;refine And.intro (by first|exact fun hg=>decide_eq_true (by first|((have hq:=qbs (by assumption);omega))|first|((subst_vars;exact rz_in hk0 hp0 (by assumption) (by assumption) (by assumption) hg))|exact ckA)|exact gkA) ?_;refine ⟨_,QN0 rfl rfl rfl (Qb1 Resize.zero (Int.toNat bs.1) (by first|rfl|exact Nat.zero_add _|omega) (by first|((have hq:=qbs (by assumption);omega))|first|((subst_vars;exact rz_in hk0 hp0 (by assumption) (by assumption) (by assumption) hg))|exact ckA)) rfl,?_⟩;refine And.intro (by first|exact fun hg=>decide_eq_true (by first|((have hq:=qbs (by assumption);omega))|first|((subst_vars;exact rz_in hk0 hp0 (by assumption) (by assumption) (by assumption) hg))|exact ckA)|exact gkA) ?_;refine ⟨_,QN0 rfl rfl rfl (Qb1 Resize.zero (Int.toNat bs.1) (by first|rfl|exact Nat.zero_add _|omega) (by first|((have hq:=qbs (by assumption);omega))|first|((subst_vars;exact rz_in hk0 hp0 (by assumption) (by assumption) (by assumption) hg))|exact ckA)) rfl,?_⟩;(repeat ((first|refine ai rfl ?_|refine ai (fun _=>rfl) ?_|refine And.intro (QN0 rfl rfl rfl (Qb1 Resize.zero (Int.toNat bs.1) (by first|rfl|exact Nat.zero_add _|omega) (by first|((have hq:=qbs (by assumption);omega))|first|((subst_vars;exact rz_in hk0 hp0 (by assumption) (by assumption) (by assumption) hg))|exact ckA)) rfl) ?_|refine And.intro (QN0 rfl rfl rfl (Qb1 Resize.zero (Int.toNat bs.1) (by first|rfl|exact Nat.zero_add _|omega) (by first|((have hq:=qbs (by assumption);omega))|first|((subst_vars;exact rz_in hk0 hp0 (by assumption) (by assumption) (by assumption) hg))|exact ckA)) rfl) ?_)));refine ai (fun h30=>?_) (fun h31=>?_)
       ·refine ACalls.of_cwp (fun _=>true) Tryz.func61 rfl rfl ?_;refine ACalls.of_cwp (fun _=>true) Tryz.func116 rfl rfl ?_;refine And.intro (by first|exact fun hg=>decide_eq_true (by first|((have hq:=qbs (by assumption);omega))|first|((subst_vars;exact rz_in hk0 hp0 (by assumption) (by assumption) (by assumption) hg))|exact ckA)|exact gkA) ?_;refine ⟨_,QN0 rfl rfl rfl (Qb1 Resize.zero (Int.toNat bs.1) (by first|rfl|exact Nat.zero_add _|omega) (by first|((have hq:=qbs (by assumption);omega))|first|((subst_vars;exact rz_in hk0 hp0 (by assumption) (by assumption) (by assumption) hg))|exact ckA)) rfl,?_⟩;refine us (mv [4] (Qha tw bs.1 (w64 (bs.1+1)) Qj1 (by (have hq:=qbs (by assumption);rw [hq.2.2];omega))) (dO (dr eqA) .nil) (dv (Q85 rfl lnA) (d1 (d1 .nil))) (rO rr .nil) (rw_ 9 0 rfl)) ?_;refine ⟨_,_,Told.refl,?_⟩;refine ai (fun h32=>?_) (fun h33=>?_)
        ·refine ACalls.of_cwp (fun _=>true) Tryz.func38 rfl rfl ?_;refine ai (fun h=>nomatch h) (fun _=>?_);refine dchk (by kernel_rfl) ?_;(first|apply u2|apply u3|apply u4|apply us);exact Qm1 ea2.1 ((tw.getD (Int.toNat bs.1) Resize.zero).nodes) 3 0 s.now Qj1 _;generalize hvea3:Qq0 ea2.1 ((tw.getD (Int.toNat bs.1) Resize.zero).nodes) 3 0 s.now=ea3;(have qea:ea3.2.1.length<=64:=by rw [← hvea3];exact QE2 _ _ _ _ _);(repeat ((first|refine ai rfl ?_|refine ai (fun _=>rfl) ?_|refine ai (fun _=>by subst hvea3;exact Qm1 ea2.1 ((tw.getD (Int.toNat bs.1) Resize.zero).nodes) 3 0 s.now Qj1 _) ?_)));refine ai (fun h34=>?_) (fun h35=>?_)
         ·exfalso;subst_vars;with_reducible first|(apply Qr9 (n:=n) hk0 hp0 <;> assumption)|(apply QRe (n:=n) hk0 hp0 <;> assumption)|(apply QQe (n:=n) hk0 hp0 <;> assumption)|(apply QSe (n:=n) hk0 hp0 <;> assumption)|(apply Qb8 (n:=n) hk0 hp0 <;> assumption)
         ·(first|refine ⟨Qe2 32 rfl lnA apA,?_⟩|refine ⟨Ql1 32 rfl apA,?_⟩);refine ⟨_,_,Told.refl,?_⟩;refine ACalls.of_cwp (fun _=>true) Tryz.func119 rfl rfl ?_;refine us (Qz7 s.jobs ((tw.getD (Int.toNat bs.1) Resize.zero).job) Qj1 _) ?_;generalize hvtf:QK0 s.jobs ((tw.getD (Int.toNat bs.1) Resize.zero).job)=tf;refine dchk (by kernel_rfl) ?_;refine u4 (r:=U (wu64 (BitVec.ofInt 64 tf.1.nodes ||| BitVec.ofInt 64 (tw.getD (Int.toNat bs.1) Resize.zero).nodes).toNat)) (agC (ACalls.of_cwp (fun _=>true) Tryz.func118 rfl rfl ?_)) ?_
          ·exact ⟨_,_,Told.refl,rfl,rfl⟩
          (first|apply u2|apply u3|apply u4|apply us);exact QI9 tf.1 (wu64 (BitVec.ofInt 64 tf.1.nodes ||| BitVec.ofInt 64 (tw.getD (Int.toNat bs.1) Resize.zero).nodes).toNat) Qj1 _;generalize hvjz:Qk2 tf.1 (wu64 (BitVec.ofInt 64 tf.1.nodes ||| BitVec.ofInt 64 (tw.getD (Int.toNat bs.1) Resize.zero).nodes).toNat)=jz;(repeat ((first|refine ai rfl ?_|refine ai (fun _=>rfl) ?_|(refine ai (fun _=>agC (ACalls.of_cwp (fun _=>true) Tryz.func118 rfl rfl ?_)) ?_;focus ((conv=>whnf);exact ⟨_,_,Told.refl,rfl,rfl⟩))|refine ai (fun _=>by subst hvjz;exact QI9 tf.1 (wu64 (BitVec.ofInt 64 tf.1.nodes ||| BitVec.ofInt 64 (tw.getD (Int.toNat bs.1) Resize.zero).nodes).toNat) Qj1 _) ?_)));refine ai (fun h36=>?_) (fun h37=>?_)
          ·exfalso;subst_vars;with_reducible first|(apply QTc (n:=n) hk0 hp0 <;> assumption)|(apply QSc (n:=n) hk0 hp0 <;> assumption)
          ·refine dchk (by kernel_rfl) ?_;(first|apply u2|apply u3|apply u4|apply us);exact QJ8 s.jobs jz.1 Qj1 Qj1 _;generalize hvtp:Qq4 s.jobs jz.1=tp;(repeat ((first|refine ai rfl ?_|refine ai (fun _=>rfl) ?_|refine ai (fun _=>by subst hvtp;exact QJ8 s.jobs jz.1 Qj1 Qj1 _) ?_)));refine ai (fun h38=>?_) (fun h39=>?_)
           ·exfalso;subst_vars;with_reducible first|(apply QUe (n:=n) hk0 hp0 <;> assumption)|(apply QTe (n:=n) hk0 hp0 <;> assumption)
           ·refine ⟨_,_,Told.refl,?_⟩;refine ⟨_,_,Told.refl,?_⟩;refine ACalls.of_cwp (fun _=>true) Tryz.func31 rfl rfl ?_;refine ai (fun h=>nomatch h) (fun _=>?_);refine dchk (by kernel_rfl) ?_;(repeat ((first|refine ai rfl ?_|refine ai (fun _=>rfl) ?_)));refine ⟨_,_,Told.refl,?_⟩;obtain rfl:=foll hR (ct h1 (cf h11 (by subst hvbs;exact cf h19 (cf h21 (by subst hvea2;exact (by subst hvtw;exact ct h30 (ct h32 (by subst hvea3;exact (by subst hvtf;exact (by subst hvjz;exact (by subst hvtp;exact rfl)))))))))));first|exact Q90 (Low.tup' (.cons (State.low _ _) (.cons lw (l1 .nil)))) (Seen.tup (ev (Seen.agg (e1 (e1 (e1 (ev (Q80 Resize.zero _ rfl eqA lnA) (e1 (e1 (e1 (e1 .nil))))))))) (ev (Q80 Note.zero _ rfl eqA lnA) (e1 .nil))))|(subst hvbs hvea2 hvtw hvea3 hvtf hvjz hvtp;exact Q90 (Low.tup' (.cons (State.low _ _) (.cons lw (l1 .nil)))) (Seen.tup (ev (Seen.agg (e1 (e1 (e1 (ev (Q80 Resize.zero _ rfl eqA lnA) (e1 (e1 (e1 (e1 .nil))))))))) (ev (Q80 Note.zero _ rfl eqA lnA) (e1 .nil)))))
        ·refine ACalls.of_cwp (fun _=>true) Tryz.func38 rfl rfl ?_;refine ai (fun h=>nomatch h) (fun _=>?_);refine dchk (by kernel_rfl) ?_;(first|apply u2|apply u3|apply u4|apply us);exact Qm1 ea2.1 ((tw.getD (Int.toNat bs.1) Resize.zero).nodes) 7 0 s.now Qj1 _;generalize hvea4:Qq0 ea2.1 ((tw.getD (Int.toNat bs.1) Resize.zero).nodes) 7 0 s.now=ea4;(have qea:ea4.2.1.length<=64:=by rw [← hvea4];exact QE2 _ _ _ _ _);(repeat ((first|refine ai rfl ?_|refine ai (fun _=>rfl) ?_|refine ai (fun _=>by subst hvea4;exact Qm1 ea2.1 ((tw.getD (Int.toNat bs.1) Resize.zero).nodes) 7 0 s.now Qj1 _) ?_)));refine ai (fun h40=>?_) (fun h41=>?_)
         ·exfalso;subst_vars;with_reducible first|(apply Qr9 (n:=n) hk0 hp0 <;> assumption)|(apply QRe (n:=n) hk0 hp0 <;> assumption)|(apply QQe (n:=n) hk0 hp0 <;> assumption)|(apply QSe (n:=n) hk0 hp0 <;> assumption)|(apply Qb8 (n:=n) hk0 hp0 <;> assumption)
         ·(first|refine ⟨Qe2 32 rfl lnA apA,?_⟩|refine ⟨Ql1 32 rfl apA,?_⟩);refine ⟨_,_,Told.refl,?_⟩;refine ACalls.of_cwp (fun _=>true) Tryz.func119 rfl rfl ?_;refine us (Qz7 s.jobs ((tw.getD (Int.toNat bs.1) Resize.zero).job) Qj1 _) ?_;generalize hvtf1:QK0 s.jobs ((tw.getD (Int.toNat bs.1) Resize.zero).job)=tf1;refine dchk (by kernel_rfl) ?_;refine u4 (r:=U (wu64 (BitVec.ofInt 64 tf1.1.nodes &&& ~~~(BitVec.ofInt 64 (tw.getD (Int.toNat bs.1) Resize.zero).nodes)).toNat)) (agC (ACalls.of_cwp (fun _=>true) Tryz.func117 rfl rfl ?_)) ?_
          ·exact ⟨_,_,Told.refl,rfl,rfl⟩
          (first|apply u2|apply u3|apply u4|apply us);exact QI9 tf1.1 (wu64 (BitVec.ofInt 64 tf1.1.nodes &&& ~~~(BitVec.ofInt 64 (tw.getD (Int.toNat bs.1) Resize.zero).nodes)).toNat) Qj1 _;generalize hvjz1:Qk2 tf1.1 (wu64 (BitVec.ofInt 64 tf1.1.nodes &&& ~~~(BitVec.ofInt 64 (tw.getD (Int.toNat bs.1) Resize.zero).nodes)).toNat)=jz1;(repeat ((first|refine ai rfl ?_|refine ai (fun _=>rfl) ?_|(refine ai (fun _=>agC (ACalls.of_cwp (fun _=>true) Tryz.func117 rfl rfl ?_)) ?_;focus ((conv=>whnf);exact ⟨_,_,Told.refl,rfl,rfl⟩))|refine ai (fun _=>by subst hvjz1;exact QI9 tf1.1 (wu64 (BitVec.ofInt 64 tf1.1.nodes &&& ~~~(BitVec.ofInt 64 (tw.getD (Int.toNat bs.1) Resize.zero).nodes)).toNat) Qj1 _) ?_)));refine ai (fun h42=>?_) (fun h43=>?_)
          ·exfalso;subst_vars;with_reducible first|(apply QTc (n:=n) hk0 hp0 <;> assumption)|(apply QSc (n:=n) hk0 hp0 <;> assumption)
          ·refine dchk (by kernel_rfl) ?_;(first|apply u2|apply u3|apply u4|apply us);exact QJ8 s.jobs jz1.1 Qj1 Qj1 _;generalize hvtp1:Qq4 s.jobs jz1.1=tp1;(repeat ((first|refine ai rfl ?_|refine ai (fun _=>rfl) ?_|refine ai (fun _=>by subst hvtp1;exact QJ8 s.jobs jz1.1 Qj1 Qj1 _) ?_)));refine ai (fun h44=>?_) (fun h45=>?_)
           ·exfalso;subst_vars;with_reducible first|(apply QUe (n:=n) hk0 hp0 <;> assumption)|(apply QTe (n:=n) hk0 hp0 <;> assumption)
           ·refine ⟨_,_,Told.refl,?_⟩;refine ⟨_,_,Told.refl,?_⟩;refine ACalls.of_cwp (fun _=>true) Tryz.func31 rfl rfl ?_;refine ai (fun h=>nomatch h) (fun _=>?_);refine dchk (by kernel_rfl) ?_;(repeat ((first|refine ai rfl ?_|refine ai (fun _=>rfl) ?_)));refine ⟨_,_,Told.refl,?_⟩;obtain rfl:=foll hR (ct h1 (cf h11 (by subst hvbs;exact cf h19 (cf h21 (by subst hvea2;exact (by subst hvtw;exact ct h30 (cf h33 (by subst hvea4;exact (by subst hvtf1;exact (by subst hvjz1;exact (by subst hvtp1;exact rfl)))))))))));first|exact Q90 (Low.tup' (.cons (State.low _ _) (.cons lw (l1 .nil)))) (Seen.tup (ev (Seen.agg (e1 (e1 (e1 (ev (Q80 Resize.zero _ rfl eqA lnA) (e1 (e1 (e1 (e1 .nil))))))))) (ev (Q80 Note.zero _ rfl eqA lnA) (e1 .nil))))|(subst hvbs hvea2 hvtw hvea4 hvtf1 hvjz1 hvtp1;exact Q90 (Low.tup' (.cons (State.low _ _) (.cons lw (l1 .nil)))) (Seen.tup (ev (Seen.agg (e1 (e1 (e1 (ev (Q80 Resize.zero _ rfl eqA lnA) (e1 (e1 (e1 (e1 .nil))))))))) (ev (Q80 Note.zero _ rfl eqA lnA) (e1 .nil)))))
       ·refine ACalls.of_cwp (fun _=>true) Tryz.func31 rfl rfl ?_;refine ai (fun h=>nomatch h) (fun _=>?_);refine dchk (by kernel_rfl) ?_;(repeat ((first|refine ai rfl ?_|refine ai (fun _=>rfl) ?_)));refine ⟨_,_,Told.refl,?_⟩;obtain rfl:=foll hR (ct h1 (cf h11 (by subst hvbs;exact cf h19 (cf h21 (by subst hvea2;exact (by subst hvtw;exact cf h31 rfl))))));first|exact Q90 (Low.tup' (.cons (State.low _ _) (.cons lw (l1 .nil)))) (Seen.tup (ev (Seen.agg (e1 (e1 (e1 (ev (Q80 Resize.zero _ rfl eqA lnA) (e1 (e1 (e1 (e1 .nil))))))))) (ev (Q80 Note.zero _ rfl eqA lnA) (e1 .nil))))|(subst hvbs hvea2 hvtw;exact Q90 (Low.tup' (.cons (State.low _ _) (.cons lw (l1 .nil)))) (Seen.tup (ev (Seen.agg (e1 (e1 (e1 (ev (Q80 Resize.zero _ rfl eqA lnA) (e1 (e1 (e1 (e1 .nil))))))))) (ev (Q80 Note.zero _ rfl eqA lnA) (e1 .nil)))))
   ·exfalso;rw [h17] at h1;cases h1
end Go.Proofs.YtackngeeehiegaaGreatDoor
namespace Go.Proofs.YtackngeeehiegaaGreatDoor
set_option linter.unusedSimpArgs false
set_option linter.unusedVariables false
open Go.Fw
theorem set_same {α:Type} {l:List α} {q:Nat} {x:α} (h:l[q]? = some x):l.set q x=l:=by
 refine List.ext_getElem? fun k=>?_
 rw [List.getElem?_set]
 by_cases e:q=k
 ·subst e
  rw [if_pos rfl,if_pos (List.getElem?_eq_some_iff.1 h).1,h]
 ·rw [if_neg e]
theorem tb_lt {x:Int} (hx:U64 x) {k:Nat} (h:tb x k=true):k<64:=by
 rcases Nat.lt_or_ge k 64 with h1|h1
 ·exact h1
 ·rw [Q1f hx h1] at h;cases h
theorem turnP_two {P:Nat->Bool} {k:Nat} {f g:Node->Node} (l:List Node) (hP:P k=true) (hf:∀ x,f (g x)=f x):turnP P f (turnP (fun i=>decide (k=i)) g l)=turnP P f l:=by
 refine Qqb (by rw [Qn1,Qn1,Qn1]) fun i hi=>?_
 rw [Qn1] at hi
 rw [Q92 _ _ (by rw [Qn1];exact hi),Q92 _ _ hi,Q92 _ _ hi]
 by_cases e:k=i
 ·subst e
  rw [hP,decide_eq_true rfl]
  exact hf _
 ·rw [decide_eq_false e]
  rfl
def QF6 (s:State) (r:Resize):State:={ s with nodes:=turnP (bif r.grow then tb r.nodes else fun k=>tb r.nodes k && !tb r.said k) (bif r.grow then fun x=>Qg0 x 7 0 s.now else fun x=>{ x with want:=0 }) s.nodes,resizes:=s.resizes.filter (fun x=>x.job != r.job) }
def rzSet (r:Resize) (j:Job):Int:=bif r.grow then wu64 (BitVec.ofInt 64 j.nodes ||| BitVec.ofInt 64 r.nodes).toNat else wu64 (BitVec.ofInt 64 j.nodes &&& ~~~(BitVec.ofInt 64 r.nodes)).toNat
def Qa8 (s:State) (r:Resize) (j:Job) (q:Nat):State:={ s with nodes:=turnP (tb r.nodes) (fun x=>Qg0 x (bif r.grow then 3 else 7) 0 s.now) s.nodes,jobs:=s.jobs.set q { j with nodes:=rzSet r j },resizes:=s.resizes.filter (fun x=>x.job != r.job) }
def rzX (r:Resize) (k:Nat):Int:=wu64 (BitVec.ofInt 64 r.said ||| BitVec.ofInt 64 (Qz0 ([(k:Int)]:List Int)).1).toNat
def Qaa (s:State) (r:Resize) (p k:Nat):State:={ s with nodes:=turnP (fun i=>decide (k=i)) (fun x=>{ x with want:=0 }) s.nodes,resizes:=s.resizes.set p { r with said:=rzX r k } }
section
variable {s:State} {r:Resize} {j:Job}
theorem say_at (hz:s.sz) (a:RzAt s r j):∃ p:Nat,((Qd0 s)!=0)=false∧Q41 r.job=true∧Q00 s.resizes r.job bsrF=((p:Int),true)∧p<s.resizes.length∧s.resizes.getD p Resize.zero=r:=by
 have hc:((Qd0 s)!=0)=false:=by rw [(Qwd (a.u.words hz)).2 a.g];rfl
 have hk:Q41 r.job=true:=by
  have:=Q5b a.g r a.hr
  unfold Q41;simp;omega
 cases hb:(Q00 s.resizes r.job bsrF).2 with
 | false=>exact absurd rfl (no_place hz a.u hc (.inr hb) r a.hr)
 | true =>
  obtain ⟨p,j',hbs,hi,a',hid⟩:=rz_at' hz a.u hc hk hb
  exact ⟨p,hc,hk,hbs,hi,res_one a.g.sorted a'.hr a.hr hid⟩
section
variable (a:RzAt s r j)
include a
theorem RzAt.held {k:Nat}:tb j.nodes k=true ↔ (k<s.nodes.length∧(s.nodes.getD k Node.zero).job=r.job∧(s.nodes.getD k Node.zero).state=1):=by
 have:=a.g.held j a.hj a.st k
 rw [a.id] at this
 exact this
theorem RzAt.dropped:Good (QF6 s r)∧WU (QF6 s r):=by
 have hlen:=Q4b a.g
 obtain ⟨q,hq⟩:=List.getElem?_of_mem a.hj
 cases hg:r.grow with
 | true =>
  refine a.over (f:=fun x=>Qg0 x 7 0 s.now) (P:=tb r.nodes) hq a.uj (QH9 a.g a.hj) (a.all (QR3 a.g) rfl (fun _ _=>⟨rfl,rfl⟩) 7 (.inl rfl)).2 (fun _ h=>h) (fun k hk hp=>?_) (fun k hk hp hb=>by rw [hp] at hb;cases hb) (fun k=>?_) (t:=QF6 s r) ?_
  ·show (Qg0 _ 7 0 s.now).job=_∧(Qg0 _ 7 0 s.now).state ≠ 2∧(Qg0 _ 7 0 s.now).want ≠ 4
   rw [(act7 _ s.now).1]
   exact ⟨(a.node (by omega) hp).2.1,by dsimp only;omega,by dsimp only;omega⟩
  ·rw [a.held]
   refine and_congr_right fun hk=>?_
   rw [Q92 _ _ hk]
   cases hp:tb r.nodes k with
   | false=>exact Iff.rfl
   | true =>
    have h2:=(a.node (by omega) hp).2.2
    rw [if_pos hg] at h2
    simp only [cond_true,(act7 _ s.now).1]
    omega
  ·rw [show s.jobs.set q { j with nodes:=j.nodes }=s.jobs from set_same hq]
   unfold QF6
   rw [hg]
   rfl
 | false =>
  obtain ⟨_,_,R3,_⟩:=a.res
  refine a.over (f:=fun x=>{ x with want:=0 }) (P:=fun k=>tb r.nodes k && !tb r.said k) hq a.uj (QH9 a.g a.hj) (a.keep hg).2 (fun k h=>((Bool.and_eq_true _ _).mp h).1) (fun k hk hp=>?_) (fun k hk hp hb=>?_) (fun k=>?_) (t:=QF6 s r) ?_
  ·have hn:=a.node (by omega) ((Bool.and_eq_true _ _).mp hp).1
   rw [if_neg (by rw [hg];simp)] at hn
   refine ⟨hn.2.1,?_,?_⟩
   ·dsimp only;omega
   ·dsimp only;omega
  ·have hn:=a.node (by omega) hb
   rw [if_neg (by rw [hg];simp)] at hn
   have hs:tb r.said k=true:=by
    have hp:(tb r.nodes k && !tb r.said k)=false:=hp
    rw [hb] at hp
    simpa using hp
   have:=(R3 k (by omega) hs).2
   omega
  ·rw [a.held]
   refine and_congr_right fun hk=>?_
   rw [Q92 _ _ hk]
   cases (tb r.nodes k && !tb r.said k) <;> exact Iff.rfl
  ·rw [show s.jobs.set q { j with nodes:=j.nodes }=s.jobs from set_same hq]
   unfold QF6
   rw [hg]
   rfl
theorem RzAt.done {q:Nat} (hq:s.jobs[q]? = some j):Good (Qa8 s r j q)∧WU (Qa8 s r j q):=by
 have hlen:=Q4b a.g
 cases hg:r.grow with
 | true =>
  refine a.over (f:=fun x=>Qg0 x 3 0 s.now) (P:=tb r.nodes) hq (Qc4 _) (a.more hg).2.2 (a.all (QR3 a.g) rfl (fun _ _=>⟨rfl,rfl⟩) 3 (.inr ⟨rfl,hg⟩)).2 (fun _ h=>h) (fun k hk hp=>?_) (fun k hk hp hb=>by rw [hp] at hb;cases hb) (fun k=>?_) (t:=Qa8 s r j q) (by unfold Qa8 rzSet;rw [hg];rfl)
  ·show (Qg0 _ 3 0 s.now).job=_∧(Qg0 _ 3 0 s.now).state ≠ 2∧(Qg0 _ 3 0 s.now).want ≠ 4
   rw [(act3 _ s.now).1]
   exact ⟨(a.node (by omega) hp).2.1,by dsimp only;omega,by dsimp only;omega⟩
  ·rw [tb_or a.uj a.un,Bool.or_eq_true,a.held]
   by_cases hk:k<s.nodes.length
   ·rw [Q92 _ _ hk]
    cases hp:tb r.nodes k with
    | false=>simp only [cond_false,Bool.false_eq_true,or_false]
    | true =>
     have h2:=(a.node (by omega) hp).2.1
     simp only [cond_true,(act3 _ s.now).1,or_true,true_iff]
     exact ⟨hk,h2,trivial⟩
   ·constructor
    ·rintro (h|h)
     ·exact absurd h.1 hk
     ·exact absurd (a.node (tb_lt a.un h) h).1 hk
    ·exact fun h=>absurd h.1 hk
 | false =>
  refine a.over (f:=fun x=>Qg0 x 7 0 s.now) (P:=tb r.nodes) hq (Qc4 _) (a.less hg).2.2 (a.all (QR3 a.g) rfl (fun _ _=>⟨rfl,rfl⟩) 7 (.inl rfl)).2 (fun _ h=>h) (fun k hk hp=>?_) (fun k hk hp hb=>by rw [hp] at hb;cases hb) (fun k=>?_) (t:=Qa8 s r j q) (by unfold Qa8 rzSet;rw [hg];rfl)
  ·show (Qg0 _ 7 0 s.now).job=_∧(Qg0 _ 7 0 s.now).state ≠ 2∧(Qg0 _ 7 0 s.now).want ≠ 4
   rw [(act7 _ s.now).1]
   exact ⟨(a.node (by omega) hp).2.1,by dsimp only;omega,by dsimp only;omega⟩
  ·rw [QO3 a.uj a.un,Bool.and_eq_true,a.held]
   by_cases hk:k<s.nodes.length
   ·rw [Q92 _ _ hk]
    cases hp:tb r.nodes k with
    | false=>simp only [cond_false,Bool.not_false,and_true]
    | true =>
     simp only [cond_true,(act7 _ s.now).1,Bool.not_true]
     constructor
     ·exact fun h=>nomatch h.2
     ·exact fun h=>absurd h.2.2 (by omega)
   ·exact ⟨fun h=>absurd h.1.1 hk,fun h=>absurd h.1 hk⟩
theorem RzAt.part {p:Nat} (hp:p<s.resizes.length) (hr:s.resizes.getD p Resize.zero=r) {k:Nat} (hk:k<64) (hb:tb r.nodes k=true):Good (Qaa s r p k)∧WU (Qaa s r p k)∧RzAt (Qaa s r p k) { r with said:=rzX r k } j :=
 a.partly hp hr hk hb (Qc4 _) (fun i=>by
  have h:=tb_or a.us (QQb hk).1 i
  rw [(QQb hk).2] at h
  exact h) rfl
theorem abort_go (hz:s.sz):∃ w,QL0 s r.job=(QF6 s r,w,0):=by
 obtain ⟨p,hc,hk,hbs,hi,hr⟩:=say_at hz a
 have hd:=(Q4c a.g.sorted hi hz.2.2.2.1).1
 rw [hr] at hd
 unfold QL0
 rw [hc]
 simp only [cond_false]
 rw [hk]
 simp only [Bool.not_true,cond_false]
 rw [hbs]
 simp only [Bool.not_true,cond_false,Int.toNat_natCast]
 rw [hr,hd]
 unfold QF6
 cases hg:r.grow with
 | true =>
  rw [(a.all (QR3 a.g) rfl (fun _ _=>⟨rfl,rfl⟩) 7 (.inl rfl)).1]
  exact ⟨_,rfl⟩
 | false =>
  rw [(a.keep hg).1]
  exact ⟨_,rfl⟩
end
theorem QFd (hz:s.sz) (hu:WU s) (id:Int):(∃ e,e ≠ 0∧QL0 s id=(State.zero,[],e)) ∨ ∃ r j w,RzAt s r j∧r.job=id∧QL0 s id=(QF6 s r,w,0):=by
 cases hc:((Qd0 s)!=0) with
 | true=>exact .inl ⟨Qd0 s,by simpa using hc,by unfold QL0;rw [hc];rfl⟩
 | false =>
  cases hk:Q41 id with
  | false=>exact .inl ⟨250,by decide,by unfold QL0;rw [hc,hk];rfl⟩
  | true =>
   cases hb:(Q00 s.resizes id bsrF).2 with
   | false =>
    refine .inl ⟨250,by decide,?_⟩
    unfold QL0
    rw [hc,hk]
    simp only [Bool.not_true,cond_false]
    rw [hb]
    rfl
   | true =>
    obtain ⟨p,j,hbs,hi,a,hid⟩:=rz_at' hz hu hc hk hb
    subst hid
    obtain ⟨w,h⟩:=abort_go a hz
    exact .inr ⟨_,j,w,a,rfl,h⟩
structure Asks (s:State) (n:Note) (r:Resize) (j:Job) (k:Nat):Prop where
 a:RzAt s r j
 job:n.job=r.job
 node:n.node=(k:Int)
 hk:k<64
 nb:tb r.nodes k=true
 sb:tb r.said k=false
 ep:(s.nodes.getD k Node.zero).epoch=n.epoch
 kind:n.kind=8∨n.kind=9
theorem say_go {n:Note} {k:Nat} (hz:s.sz) (q:Asks s n r j k):∃ w,(n.kind=9∧Qj0 s n=(QF6 s r,w,0)) ∨
  (n.kind=8∧((∃ p,p<s.resizes.length∧s.resizes.getD p Resize.zero=r∧rzX r k ≠ r.nodes∧Qj0 s n=(Qaa s r p k,w,0))∨(rzX r k=r.nodes ∧ ∃ i,s.jobs[i]? = some j∧Qj0 s n=(Qa8 s r j i,w,0)))):=by
 obtain ⟨a,hj,hn,hk64,hb1,hb2,hep,hkd⟩:=q
 obtain ⟨p,hc,hk,hbs,hi,hr⟩:=say_at hz a
 have hlen:=hz.2.2.2.1
 have hd:=(Q4c a.g.sorted hi hlen).1
 rw [hr] at hd
 have hT:∀ x:Resize,(s.resizes.set p x).getD p Resize.zero=x:=fun x=>by
  rw [List.getD,List.getElem?_set_self hi]
  rfl
 have hN:QP0 (wu64 (BitVec.ofInt 64 r.nodes &&& ~~~(BitVec.ofInt 64 r.said)).toNat) n.node=true:=(has_iff (Qc4 _) _).2 ⟨k,hn,hk64,by rw [QO3 a.un a.us,hb1,hb2];rfl⟩
 unfold Qj0
 rw [hj,hk,hc,hbs]
 simp only [Bool.and_true,cond_true,cond_false,Int.toNat_natCast]
 rw [hr,hN,hn,Int.toNat_natCast,hep]
 have he:(n.epoch != n.epoch)=false:=by simp
 rw [he]
 rcases hkd with h8|h9
 ·rw [h8]
  have e1:((((!true)||(!(((8:Int)==8)||((8:Int)==9))))||(!true))||false)=false:=rfl
  rw [e1]
  have e2:((8:Int)==9)=false:=rfl
  rw [e2]
  simp only [cond_false]
  rw [(a.settle hk64 hb1).1]
  simp only [hT]
  cases hXn:((rzX r k)==r.nodes) with
  | false =>
   have h1:((wu64 (BitVec.ofInt 64 r.said ||| BitVec.ofInt 64 (Qz0 ([(k:Int)]:List Int)).1).toNat)==r.nodes)=false:=hXn
   rw [h1]
   exact ⟨_,.inr ⟨by first|trivial|rfl,.inl ⟨p,hi,hr,by simpa using hXn,rfl⟩⟩⟩
  | true =>
   have h1:((wu64 (BitVec.ofInt 64 r.said ||| BitVec.ofInt 64 (Qz0 ([(k:Int)]:List Int)).1).toNat)==r.nodes)=true:=hXn
   rw [h1]
   have hall:=fun act ha=>(a.all (a.settle hk64 hb1).2 (Qn1 _ _ _) (fun i hi=>by
    rw [Q92 _ _ hi]
    cases decide (k=i) <;> exact ⟨rfl,rfl⟩) act ha).1
   rw [a.find,del_set hi hlen,hd]
   simp only [cond_true]
   unfold Qa8 rzSet
   cases hg:r.grow with
   | true =>
    have hm:=a.more hg
    obtain ⟨i,hq,hput⟩:=a.put hm.2.2
    rw [hall 3 (.inr ⟨rfl,hg⟩)]
    simp only [cond_true]
    rw [hm.2.1]
    simp only
    rw [hput,turnP_two (f:=fun x=>Qg0 x 3 0 s.now) (g:=fun x=>{ x with want:=0 }) _ hb1 (fun _=>rfl)]
    exact ⟨_,.inr ⟨by first|trivial|rfl,.inr ⟨by simpa using hXn,i,hq,rfl⟩⟩⟩
   | false =>
    have hm:=a.less hg
    obtain ⟨i,hq,hput⟩:=a.put hm.2.2
    rw [hall 7 (.inl rfl)]
    simp only [cond_false]
    rw [hm.2.1]
    simp only
    rw [hput,turnP_two (f:=fun x=>Qg0 x 7 0 s.now) (g:=fun x=>{ x with want:=0 }) _ hb1 (fun _=>rfl)]
    exact ⟨_,.inr ⟨by first|trivial|rfl,.inr ⟨by simpa using hXn,i,hq,rfl⟩⟩⟩
 ·rw [h9]
  have e1:((((!true)||(!(((9:Int)==8)||((9:Int)==9))))||(!true))||false)=false:=rfl
  rw [e1]
  have e2:((9:Int)==9)=true:=rfl
  rw [e2]
  simp only [cond_false,cond_true]
  rw [hd]
  unfold QF6
  cases hg:r.grow with
  | true =>
   rw [(a.all (QR3 a.g) rfl (fun _ _=>⟨rfl,rfl⟩) 7 (.inl rfl)).1]
   exact ⟨_,.inl ⟨by first|trivial|rfl,rfl⟩⟩
  | false =>
   rw [(a.keep hg).1]
   exact ⟨_,.inl ⟨by first|trivial|rfl,rfl⟩⟩
theorem say_cases (hz:s.sz) (hu:WU s) (n:Note):(∃ e,e ≠ 0∧Qj0 s n=(State.zero,[],e)) ∨ ∃ r j k,Asks s n r j k:=by
 cases ha:((Q41 n.job)&&(Q00 s.resizes n.job bsrF).2) with
 | false =>
  refine .inl ?_
  unfold Qj0
  rw [ha]
  simp only [cond_false]
  cases hc:((Qd0 s)!=0) with
  | true=>exact ⟨_,by simpa using hc,rfl⟩
  | false=>exact ⟨230,by decide,by cases Q41 n.job <;> rfl⟩
 | true =>
  obtain ⟨hk,hb⟩:=(Bool.and_eq_true _ _).mp ha
  cases hc:((Qd0 s)!=0) with
  | true =>
   refine .inl ⟨_,by simpa using hc,?_⟩
   unfold Qj0
   rw [ha,hc]
   rfl
  | false =>
   obtain ⟨p,j,hbs,hi,a,hid⟩:=rz_at' hz hu hc hk hb
   cases hx:((((!true)||(!((n.kind==8)||(n.kind==9))))||(!(QP0 (wu64 (BitVec.ofInt 64 (s.resizes.getD p Resize.zero).nodes &&& ~~~(BitVec.ofInt 64 (s.resizes.getD p Resize.zero).said)).toNat) n.node)))||((s.nodes.getD (Int.toNat n.node) Node.zero).epoch != n.epoch)) with
   | true =>
    refine .inl ⟨230,by decide,?_⟩
    unfold Qj0
    rw [ha,hc,hbs]
    simp only [cond_true,cond_false,Int.toNat_natCast]
    rw [hx]
    rfl
   | false =>
    have h1:=(or_f (or_f (or_f hx).1).1).2
    have h2:=(or_f (or_f hx).1).2
    have h3:=(or_f hx).2
    obtain ⟨k,e,hk1,hk2,hk3⟩:=rz_has a (by simpa using h2)
    refine .inr ⟨_,j,k,a,hid.symm,e,hk1,hk2,hk3,?_,by simp at h1;omega⟩
    rw [e,Int.toNat_natCast] at h3
    simpa using h3
theorem QAb (l:List Resize) (p:Resize->Bool):(l.filter p).length<=l.length:=List.length_filter_le _ _
theorem Q0e (hz:s.sz) (r:Resize):(QF6 s r).sz:=⟨by unfold QF6;rw [Qn1];exact hz.1,hz.2.1,hz.2.2.1,Nat.le_trans (QAb _ _) hz.2.2.2.1,hz.2.2.2.2⟩
theorem part_sz (hz:s.sz) (r:Resize) (p k:Nat):(Qaa s r p k).sz:=⟨by unfold Qaa;rw [Qn1];exact hz.1,hz.2.1,hz.2.2.1,by unfold Qaa;rw [List.length_set];exact hz.2.2.2.1,hz.2.2.2.2⟩
theorem done_sz (hz:s.sz) (hj:j ∈ s.jobs) (r:Resize) (q:Nat):(Qa8 s r j q).sz:=⟨by unfold Qa8;rw [Qn1];exact hz.1,by unfold Qa8;rw [List.length_set];exact hz.2.1,fun y hy=>by
  have hy:y ∈ s.jobs.set q { j with nodes:=rzSet r j }:=hy
  rcases List.mem_or_eq_of_mem_set hy with hy|rfl
  ·exact hz.2.2.1 y hy
  ·exact hz.2.2.1 j hj,Nat.le_trans (QAb _ _) hz.2.2.2.1,hz.2.2.2.2⟩
theorem QVe (hz:s.sz) (hu:WU s) (n:Note):(Qj0 s n).1.sz∧WU (Qj0 s n).1:=by
 rcases say_cases hz hu n with ⟨e,_,h⟩|⟨r,j,k,q⟩
 ·rw [h];exact ⟨State.szz _,wu_zero⟩
 ·obtain ⟨w,⟨_,h⟩|⟨_,⟨p,hp,hr,_,h⟩|⟨_,i,hi,h⟩⟩⟩:=say_go hz q
  ·rw [h];exact ⟨Q0e hz r,q.a.dropped.2⟩
  ·rw [h];exact ⟨part_sz hz r p k,(q.a.part hp hr q.hk q.nb).2.1⟩
  ·rw [h];exact ⟨done_sz hz q.a.hj r i,(q.a.done hi).2⟩
theorem abort_keeps (hz:s.sz) (hu:WU s) (id:Int):(QL0 s id).1.sz∧WU (QL0 s id).1:=by
 rcases QFd hz hu id with ⟨e,_,h⟩|⟨r,j,w,a,_,h⟩
 ·rw [h];exact ⟨State.szz _,wu_zero⟩
 ·rw [h];exact ⟨Q0e hz r,a.dropped.2⟩
theorem Qya (hz:s.sz) (a:RzAt s r j):Q10 s r.job=(r,true):=by
 rw [Qxa (a.u.words hz)]
 exact QMe hz a
end
set_option maxRecDepth 20000
set_option maxHeartbeats 4000000
attribute [local irreducible] ACalls AMoves
def Qs2 :Bool:=bif ((((((((((Qt0 law26_small 5 3).2.2 != 0)||((Qj0 ((Qt0 law26_small 5 3).1) (⟨8,2,5,1⟩:Note)).2.2 != 0))||((QL0 ((Qt0 law26_small 5 3).1) 5).2.2 != 0))||((Qt0 law26_small 5 4).2.2 != 152))||((((Qt0 law26_small 5 3).2.1).length:Int)!=1))||((((Qj0 ((Qt0 law26_small 5 3).1) (⟨8,2,5,1⟩:Note)).2.1).length:Int)!=1))||((((QL0 ((Qt0 law26_small 5 3).1) 5).2.1).length:Int)!=1))||((((Qj0 ((Qt0 law26_small 5 3).1) (⟨8,2,5,1⟩:Note)).1.jobs).length:Int)!=1))||((((QL0 ((Qt0 law26_small 5 3).1) 5).1.nodes).length:Int)!=4)) then false else (((((((((Qt0 law26_small 5 3).2.1).getD 0 Note.zero).kind==2)&&(((((Qt0 law26_small 5 3).2.1).getD 0 Note.zero).node==2)&&(((((Qt0 law26_small 5 3).2.1).getD 0 Note.zero).job==5)&&((((Qt0 law26_small 5 3).2.1).getD 0 Note.zero).epoch==1))))&&((((Qj0 ((Qt0 law26_small 5 3).1) (⟨8,2,5,1⟩:Note)).2.1).getD 0 Note.zero).kind==3))&&((((Qj0 ((Qt0 law26_small 5 3).1) (⟨8,2,5,1⟩:Note)).1.jobs).getD 0 Job.zero).nodes==7))&&((((QL0 ((Qt0 law26_small 5 3).1) 5).2.1).getD 0 Note.zero).kind==5))&&((((QL0 ((Qt0 law26_small 5 3).1) 5).1.nodes).getD 2 Node.zero).state==3))
theorem Qx9 {P:Prop} (h:P:=by first|(exact small_sz)|first|(exact begun_sz)|exact szA):P:=h
theorem QH5 :GV 9 [] (Bo Qs2):=by
 generalize hR:Qs2=R;refine gA (kp 13 [78]) Tryz.func9 ?_;refine us (Qib _) ?_;refine us (Q8a law26_small 5 3 Qx9 _) ?_;refine us (Qw5 ((Qt0 law26_small 5 3).1) (⟨8,2,5,1⟩:Note) Qx9 (by exact begun_wu) _) ?_;refine us (QO7 ((Qt0 law26_small 5 3).1) 5 Qx9 _) ?_;refine us (Qib _) ?_;refine us (Q8a law26_small 5 4 Qx9 _) ?_;refine ai (fun h1=>?_) (fun h2=>?_)
 ·exact lfA
 ·refine ai gkA ?_;refine ai (fun _=>(by kernel_rfl:eqOK _ _=true)) ?_;refine ai gkA ?_;refine ai gkA ?_;refine ai gkA ?_;refine ai gkA ?_;exact lfA
end Go.Proofs.YtackngeeehiegaaGreatDoor
namespace Go.Proofs.YtackngeeehiegaaGreatDoor
set_option linter.unusedSimpArgs false
set_option linter.unusedVariables false
open Go.Fw
theorem QPc:Qs2=true:=by kernel_rfl
theorem QUd {s t:State} (hj:t.jobs=s.jobs) (h1:Qd0 s=0) (h2:Qd0 t=0) (id:Int):QA1 t id=QA1 s id:=by
 unfold QA1
 rw [hj,h1,h2]
theorem Q99 {s:State} (hz:s.sz) (h:Good s∧WU s):Qd0 s=0:=(Qwd (h.2.words hz)).2 h.1
theorem config_is {s:State} {r:Resize} {j:Job} (hz:s.sz) (a:RzAt s r j):QA1 s r.job=j.nodes:=by
 unfold QA1
 rw [a.find,Q99 hz ⟨a.g,a.u⟩,a.st]
 rfl
theorem count_X {s:State} {r:Resize} {j:Job} (a:RzAt s r j) {k:Nat} (hk:k<64) (hb:tb r.said k=false):Q30 (rzX r k)=Q30 r.said+1:=by
 have h:=count_or a.us (QQb hk).1 (fun i _ h=>by
  rw [(QQb hk).2]
  refine decide_eq_false fun e=>?_
  subst e
  rw [hb] at h
  cases h)
 have h1:=count_in (QQb hk).1 (M:=[k]) (by simp) (fun i hi=>by rw [List.mem_singleton.1 hi];exact hk) (fun i=>by
  rw [(QQb hk).2,Bool.eq_iff_iff,decide_eq_true_eq,decide_eq_true_eq,List.mem_singleton]
  exact eq_comm)
 have e:(([k]:List Nat).length:Int)=1:=rfl
 rw [e] at h1
 rw [← h1]
 exact h
theorem kept_g1 (t:State) (id or_:Int):∀ (l:List Job) (i:Nat),(∀ k,k<l.length->t.jobs.getD (i+k) Job.zero=l.getD k Job.zero∨((l.getD k Job.zero).id=id∧t.jobs.getD (i+k) Job.zero={ (l.getD k Job.zero) with nodes:=or_ }))->Qv4 t id or_ l i=true
 | [],_,_=>rfl
 | x :: r,i,h=>by
  have h0:=h 0 (by simp)
  rw [Nat.add_zero,List.getD_cons_zero] at h0
  have ih:=kept_g1 t id or_ r (i+1) (fun k hk=>by
   have:=h (k+1) (by simp only [List.length_cons];omega)
   rw [show i+(k+1)=i+1+k by omega,List.getD_cons_succ] at this
   exact this)
  have same:∀ y:Job,y=x->(!(Q47 ([x]:List Job) ([y]:List Job)))=false:=fun y e=>by
   rw [e,(ref15_same _ _).2 rfl]
   rfl
  rw [Qv4,ih]
  rcases h0 with e|⟨e1,e2⟩
  ·rw [e,same { x with nodes:=x.nodes } rfl]
   cases ((x.id==id)&&(x.nodes==or_)) <;> rfl
  ·rw [e2,e1,same _ (show ({ ({ x with nodes:=or_ }:Job) with nodes:=x.nodes }:Job)=x from rfl)]
   have:((id==id)&&(({ x with nodes:=or_ }:Job).nodes==or_))=true:=by simp
   rw [this]
   rfl
theorem kept_of {s t:State} (hc:Qd0 t=0) (h1:t.now=s.now) (h2:t.jobs.length=s.jobs.length) (h3:t.books=s.books) (h4:t.nextJob=s.nextJob) (id or_:Int) (h:∀ k,k<s.jobs.length->t.jobs.getD k Job.zero=s.jobs.getD k Job.zero∨((s.jobs.getD k Job.zero).id=id∧t.jobs.getD k Job.zero={ (s.jobs.getD k Job.zero) with nodes:=or_ })):Qu4 s t id or_=true:=by
 unfold Qu4
 rw [hc,h1,h2,h3,h4]
 simp only [bne_self_eq_false,Bool.or_self,cond_false]
 exact kept_g1 t id or_ s.jobs 0 fun k hk=>by rw [Nat.zero_add];exact h k hk
theorem Qce {s t:State} (hc:Qd0 t=0) (h1:t.now=s.now) (h2:t.jobs=s.jobs) (h3:t.books=s.books) (h4:t.nextJob=s.nextJob) (id or_:Int):Qu4 s t id or_=true :=
 kept_of hc h1 (by rw [h2]) h3 h4 id or_ fun k _=>.inl (by rw [h2])
set_option maxRecDepth 20000
set_option maxHeartbeats 4000000
attribute [local irreducible] ACalls AMoves
def Q23 (s:State) (n:Note) (id_:Int) (or_:Int):Bool:=bif (((Qj0 s n).2.2==0)&&(!(Qu4 s ((Qj0 s n).1) n.job or_))) then false else bif ((((Qj0 s n).2.2==0)&&((QA1 ((Qj0 s n).1) n.job)!=(QA1 s n.job)))&&((w64 ((Q30 ((Q10 s n.job).1.said))+1))!=(Q30 ((Q10 s n.job).1.nodes)))) then false else ((((QL0 s id_).2.2 != 0)||(Qu4 s ((QL0 s id_).1) 0 0))&&Qs2)
def QG5 (s:State) (n:Note) (id_:Int):Bool:=bif ((!(QH4 s))||((Qd0 s)!=0)) then Qs2 else bif (Q10 s n.job).1.grow then Q23 s n id_ (wu64 (BitVec.ofInt 64 (QA1 s n.job) ||| BitVec.ofInt 64 (Q10 s n.job).1.nodes).toNat) else Q23 s n id_ (wu64 (BitVec.ofInt 64 (QA1 s n.job) &&& ~~~(BitVec.ofInt 64 (Q10 s n.job).1.nodes)).toNat)
theorem Qb2 {P:Prop} (h:P:=by first|((with_reducible exact few_sz2 h2))|first|((have q:=hg;simp at q;with_reducible exact Qw6 q))|first|((with_reducible exact (QVe (few_sz2 h2) hp0 _).1))|first|((with_reducible exact (abort_keeps (few_sz2 h2) hp0 _).1))|exact szA):P:=h
theorem Q9c (s:State) (n:Note) (id_:Int) (hs0:s.szM) (hp0:WU s):GV 6 [State.a s,Note.a n,I id_] (Bo (QG5 s n id_)):=by
 generalize hR:QG5 s n id_=R;refine gA (kj [1000008] 17 [24,42,64,84]) Tryz.func6 ?_;have hk0:=hs0;obtain ⟨z9,z10,z11,z12,z13,z14,z15⟩:=hs0;refine us (Qfe s Qb2 _) ?_;(first|apply u3g|apply u4g);exact fun hg=>Q63 s Qb2 _;refine ai (fun h1=>?_) (fun h2=>?_)
 ·refine us (QH5 _) ?_;exact lfA
 ·refine us (Q13 s n.job Qb2 _) ?_;refine us (QS7 s n.job Qb2 _) ?_;refine QS1 (fun (or_:Int)=>Q23 s n id_ or_=R) (fun or_=>[(2,I id_),(3,AVal.ptr 0 0 8 0 0),(4,AVal.ptr 1 0 4 0 0),(6,Bo false),(7,AVal.ptr 2 0 5 0 0),(9,U (QA1 s n.job)),(10,U or_)]) (fun or_=>[(0,AObj.row 28 8 [[I s.now,nodeL s.nodes,jobL s.jobs,Qc2 s.resizes,bookL s.books,Qb4 s.ledger,I s.nextJob,I s.nextBook]]),(0,AObj.row 41 4 [[I n.kind,I n.node,I n.job,I n.epoch]]),(0,AObj.row 49 5 [[I ((Q10 s n.job).1.job),Bo ((Q10 s n.job).1.grow),U ((Q10 s n.job).1.nodes),U ((Q10 s n.job).1.said),I ((Q10 s n.job).1.since)]])]) ?_ ?_
  ·clear hR;rintro or_ hR;(try dsimp only at hR);refine us (Qw5 s n Qb2 ckA _) ?_;(first|apply u3g|apply u4g);exact fun hg=>QDc s ((Qj0 s n).1) n.job or_ Qb2 Qb2 _;refine ai (fun h3=>?_) (fun h4=>?_)
   ·exact lfA
   ·refine dchk (by kernel_rfl) ?_;(first|apply u3g|apply u4g);exact fun hg=>QS7 ((Qj0 s n).1) n.job Qb2 _;(first|apply u3g|apply u4g);exact fun hg=>QG0 ((Q10 s n.job).1.said) _;(first|apply u3g|apply u4g);exact fun hg=>QG0 ((Q10 s n.job).1.nodes) _;(repeat ((first|refine ai rfl ?_|refine ai (fun _=>rfl) ?_|refine ai (fun _=>QS7 ((Qj0 s n).1) n.job Qb2 _) ?_|refine ai (fun _=>QG0 ((Q10 s n.job).1.said) _) ?_|refine ai (fun _=>QG0 ((Q10 s n.job).1.nodes) _) ?_)));refine ai (fun h5=>?_) (fun h6=>?_)
    ·exact lfA
    ·refine us (QO7 s id_ Qb2 _) ?_;(first|apply u3g|apply u4g);exact fun hg=>QDc s ((QL0 s id_).1) 0 0 Qb2 Qb2 _;(first|apply u3g|apply u4g);exact fun hg=>QH5 _;exact lfA
  ·refine ai (fun h7=>?_) (fun h8=>?_)
   ·exact Qo0 (wu64 (BitVec.ofInt 64 (QA1 s n.job) ||| BitVec.ofInt 64 (Q10 s n.job).1.nodes).toNat) (wkA [0,1,2]) (foll hR (cf h2 (ct h7 rfl)))
   ·exact Qo0 (wu64 (BitVec.ofInt 64 (QA1 s n.job) &&& ~~~(BitVec.ofInt 64 (Q10 s n.job).1.nodes)).toNat) (wkA [0,1,2]) (foll hR (cf h2 (cf h8 rfl)))
end Go.Proofs.YtackngeeehiegaaGreatDoor
namespace Go.Proofs.YtackngeeehiegaaGreatDoor
set_option linter.unusedSimpArgs false
set_option linter.unusedVariables false
open Go.Fw
theorem one_k1 {s:State} {n:Note} {id or_:Int} (hz:s.sz) (hu:WU s) (hc:Qd0 s=0) (haw:Qs2=true) (hor:∀ r j,RzAt s r j->r.job=n.job->or_=rzSet r j):Q23 s n id or_=true:=by
 have hA:(((QL0 s id).2.2 != 0)||(Qu4 s ((QL0 s id).1) 0 0))=true:=by
  rcases QFd hz hu id with ⟨e,he,h⟩|⟨r,j,w,a,_,h⟩
  ·rw [h]
   have:(e != 0)=true:=by simpa using he
   simp only [this,Bool.true_or]
  ·rw [h]
   simp only
   rw [Qce (s:=s) (Q99 (Q0e hz r) a.dropped) rfl rfl rfl rfl 0 0,Bool.or_true]
 unfold Q23
 rw [hA,haw]
 rcases say_cases hz hu n with ⟨e,he,h⟩|⟨r,j,k,q⟩
 ·rw [h]
  have:(e==0)=false:=by simpa using he
  simp only [this,Bool.false_and,cond_false,Bool.and_self]
 ·have a:=q.a
  obtain ⟨w,⟨_,h⟩|⟨_,⟨p,hp,hr,_,h⟩|⟨hX,i,hi,h⟩⟩⟩:=say_go hz q
  ·have h0:=Q99 (Q0e hz r) a.dropped
   rw [h]
   simp only
   rw [Qce (s:=s) h0 rfl rfl rfl rfl,QUd (s:=s) (t:=QF6 s r) rfl hc h0]
   simp
  ·have hg:=a.part hp hr q.hk q.nb
   have h0:=Q99 (part_sz hz r p k) ⟨hg.1,hg.2.1⟩
   rw [h]
   simp only
   rw [Qce (s:=s) h0 rfl rfl rfl rfl,QUd (s:=s) (t:=Qaa s r p k) rfl hc h0]
   simp
  ·have h0:=Q99 (done_sz hz a.hj r i) (a.done hi)
   have hi1:=(List.getElem?_eq_some_iff.1 hi)
   have hk:Qu4 s (Qa8 s r j i) n.job or_=true:=by
    refine kept_of (s:=s) h0 rfl (List.length_set ..) rfl rfl _ _ fun m hm=>?_
    show (s.jobs.set i { j with nodes:=rzSet r j }).getD m Job.zero=_∨_
    by_cases e:i=m
    ·subst e
     have hg:s.jobs.getD i Job.zero=j:=by rw [List.getD,hi];rfl
     refine .inr ⟨by rw [hg,q.job];exact a.id,?_⟩
     show (s.jobs.set i { j with nodes:=rzSet r j }).getD i Job.zero=_
     rw [List.getD,List.getElem?_set_self hm,hg,hor r j a q.job.symm]
     rfl
    ·refine .inl ?_
     rw [List.getD,List.getElem?_set_ne e,← List.getD]
   have hcnt:((w64 ((Q30 r.said)+1))!=(Q30 r.nodes))=false:=by
    have h1:=count_X a q.hk q.sb
    rw [hX] at h1
    have h2:=QUa a.us
    rw [w6 (by omega),h1]
    simp
   have hrz:Q10 s n.job=(r,true):=by rw [q.job];exact Qya hz a
   rw [h,hrz]
   simp only
   rw [hk,hcnt]
   simp
theorem resizeOne_true {s:State} {n:Note} {id:Int} (hu:WU s) (h:Qs2=true):QG5 s n id=true:=by
 unfold QG5
 cases hf:((!(QH4 s))||((Qd0 s)!=0)) with
 | true=>exact h
 | false =>
  have hz:=few_sz2 hf
  have hc:Qd0 s=0:=by simpa using (or_f hf).2
  have tell:∀ r j,RzAt s r j->r.job=n.job->Q10 s n.job=(r,true)∧QA1 s n.job=j.nodes:=fun r j a e=>by
   rw [← e]
   exact ⟨Qya hz a,config_is hz a⟩
  simp only [cond_false]
  cases hg:(Q10 s n.job).1.grow with
  | true =>
   refine one_k1 hz hu hc h fun r j a e=>?_
   obtain ⟨e1,e2⟩:=tell r j a e
   rw [e1] at hg
   rw [e1,e2]
   unfold rzSet
   have hg:r.grow=true:=hg
   rw [hg]
   rfl
  | false =>
   refine one_k1 hz hu hc h fun r j a e=>?_
   obtain ⟨e1,e2⟩:=tell r j a e
   rw [e1] at hg
   rw [e1,e2]
   unfold rzSet
   have hg:r.grow=false:=hg
   rw [hg]
   rfl
set_option maxRecDepth 100000
def Note.wf (x:Note):Prop:=(Lit.int .i64 x.kind).wf=true∧(Lit.int .i64 x.node).wf=true∧(Lit.int .i64 x.job).wf=true∧(Lit.int .i64 x.epoch).wf=true∧True
theorem readNote:ReadAs Tryz.prog 41 Note.cells Note.wf:=by
 have h:=ReadAs.struct (P:=Tryz.prog) (t:=41) rfl (by kernel_rfl) (.cons rfl (ReadAs.int ty0) (.cons rfl (ReadAs.int ty0) (.cons rfl (ReadAs.int ty0) (.cons rfl (ReadAs.int ty0) .nil))))
 exact h.map (fun p=>(⟨p.1,p.2.1,p.2.2.1,p.2.2.2.1⟩:Note)) (fun _=>rfl) (fun _ h=>h)
end Go.Proofs.YtackngeeehiegaaGreatDoor
